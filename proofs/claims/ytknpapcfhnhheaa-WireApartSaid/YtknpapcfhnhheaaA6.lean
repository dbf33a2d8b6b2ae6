/- Texts that are built one behind the other: XPt2. No condition. -/
import Derived.Test.YtknpapcfhnhheaaA5
/- Parts of messages, put as bytes. -/
set_option maxRecDepth 100000
set_option linter.unusedVariables false
namespace Go.Proofs.Ytknpapcfhnhheaa
open Go Go.RowKit Go.Gv

set_option maxHeartbeats 4000000 in
theorem PutDn_Q : Puts DnR 154 dnB := by
  intro R R2 g bs cs x w hW hB hx hB2 hD hl
  obtain ⟨rfl, hok⟩ := hx
  have HW := Lib.hid hW
  have HBR := Lib.hid hB
  have HBT := Lib.hid hB2
  have HDJ := Lib.hid hD
  have HOK := Lib.hid hok
  have HL := Lib.hid hl
  clear hW hB hB2 hD hl hok
  unfold dnB at HL
  go_enter Try.func154, Try.ntmps154
  go_upto_region 1 with (fail)
  obtain ⟨w1, hw1⟩ : ∃ zz, zz = (w.alloc (.cells (x.cells : List Value).toArray 34)) := ⟨_, rfl⟩
  change Code.wp _ _ _ _ (w.alloc (.cells (x.cells : List Value).toArray 34))
  rw [← hw1]
  have HB3 := Lib.hid (show Cs w1 (w.heap.size) (x.cells : List Value).toArray 34 by rw [hw1]; exact Cs.new _ _ _)
  have hm : Mod (fun _ => False) w w1 := by rw [hw1]; exact (Mod.refl _ _).alloc _
  have HM0 := Lib.hid (show Mod (fun k => (R k)) w w1 from hm.mono (fun _ _ h => h.elim))
  have hs1 : w1.heap.size = w.heap.size + 1 := by rw [hw1]; simp
  have Hx1 := Lib.hid (HW.out.mod hm (fun _ _ h => h))
  clear HW
  clear hw1 hm
  go_upto_region 1 with (fail)
  generalize ha0 : Act.mk _ _ = a0
  have oe0 : a0.eval (.tmp 0) = .pointer (some ⟨g, 0, none⟩) := by rw [← ha0]; rfl
  have oe3 : a0.eval (.tmp 3) = .pointer (some ⟨w.heap.size, 0, none⟩) := by rw [← ha0]; rfl
  have hsz0 : a0.tmps.size = 15 := by rw [← ha0]; rfl
  have HA0 := Lib.hid ha0
  clear ha0
  refine wp_region_Q 15 hsz0 (by kernel_rfl) (by kernel_rfl) [4, 5, 6, 7, 8, 9, 10] (by kernel_rfl) (by decide) (fun k => (R k)) (fun k j => (k = 0 ∧ ((R j))) ∨ (k = 1 ∧ ((R j)))) (by intro k j h; (try dsimp only at h ⊢); rcases h with ⟨-, h⟩ | ⟨-, h⟩; (exact h); (exact h)) [qi (.pointer (some ⟨g, 0, none⟩)), qi (.pointer (some ⟨w.heap.size, 0, none⟩)), qi (.int .i64 x.rp), qi (.pointer (some ⟨g, 0, none⟩)), qi (.pointer (some ⟨w.heap.size, 1, none⟩)), qi (.int .i64 x.ix), qi (.pointer (some ⟨g, 0, none⟩))] ⟨qi_stable, qi_stable, qi_stable, qi_stable, qi_stable, qi_stable, qi_stable, trivial⟩ [3, 6] (by kernel_rfl) (by decide) (by kernel_rfl) [] (by kernel_rfl) (by intro r hr; cases hr) (by intro r hr; cases hr) (by intro r hr; cases hr) ⟨?_, ?_, ?_, ?_, ?_, ?_, ?_, trivial⟩ ?_
  · refine stepq_env rfl rfl rfl fun Z tr act w' hZ hm hm0 hout hsz hd hub hpre => ?_
    refine qe_run rfl (wanted_none rfl) (ex_move rfl ((hout 0 (by decide)).trans oe0)) QE.refl ?_
    rfl
  · refine stepq_env rfl rfl rfl fun Z tr act w' hZ hm hm0 hout hsz hd hub hpre => ?_
    refine qe_run rfl (wanted_none rfl) (ex_field rfl Try.underlying34 rfl (by kernel_rfl) ((hout 3 (by decide)).trans oe3)) QE.refl ?_
    rfl
  · refine stepq_env rfl rfl rfl fun Z tr act w' hZ hm hm0 hout hsz hd hub hpre => ?_
    have h1 := hd ⟨1, .data⟩ (by simp) rfl _ rfl
    refine qe_run rfl (wanted_none rfl) (ex_load1 rfl Try.underlying3 rfl h1 (Cs.lit1 (HB3.out.mod hm (by intro h2; (try dsimp only at h2); (try simp only [false_or] at h2); rcases h2 with ⟨h0, h2⟩ | h2 <;> first | omega | (have hb := HBR.out _ h2; omega) | (have hb := HBT.out _ h2; omega))) rfl)) QE.refl ?_
    rfl
  · exact stepq_chain rfl
  · refine stepq_env rfl rfl rfl fun Z tr act w' hZ hm hm0 hout hsz hd hub hpre => ?_
    refine qe_run rfl (wanted_none rfl) (ex_field rfl Try.underlying34 rfl (by kernel_rfl) ((hout 3 (by decide)).trans oe3)) QE.refl ?_
    rfl
  · refine stepq_env rfl rfl rfl fun Z tr act w' hZ hm hm0 hout hsz hd hub hpre => ?_
    have h4 := hd ⟨4, .data⟩ (by simp) rfl _ rfl
    refine qe_run rfl (wanted_none rfl) (ex_load1 rfl Try.underlying3 rfl h4 (Cs.lit1 (HB3.out.mod hm (by intro h2; (try dsimp only at h2); (try simp only [false_or] at h2); rcases h2 with ⟨h0, h2⟩ | h2 <;> first | omega | (have hb := HBR.out _ h2; omega) | (have hb := HBT.out _ h2; omega))) rfl)) QE.refl ?_
    rfl
  · exact stepq_chain rfl
  intro u1_0 hr
  have zu1_0 := hr.size
  have Hx2 := Lib.hid (Hx1.out.mod hr (by intro k h1 h2; (try dsimp only at h1 h2); (try simp only [false_or] at h1 h2); (first | omega | (have hb := HBR.out k h1; omega) | (have hb := HBR.out k h2; omega) | (have hb := HBT.out k h1; omega) | (have hb := HBT.out k h2; omega) | exact HDJ.out k h1 h2 | exact HDJ.out k h2 h1 | (have hb := HBR.out k h1; have hb2 := HBT.out k h2; omega) | (have hb := HBT.out k h1; have hb2 := HBR.out k h2; omega))))
  have Hx3 := Lib.hid (HB3.out.mod hr (by intro h2; (try dsimp only at h2); (try simp only [false_or] at h2); omega))
  have Hx4 := Lib.hid (HM0.out.trans hr (by intro k h1 h2; (try dsimp only at h2 ⊢); (try simp only [false_or] at h2 ⊢); first | exact h2 | omega | (have hb := HBR.out k h2; omega) | (have hb := HBT.out k h2; omega)))
  clear Hx1 HB3 HM0
  clear hr
  refine QChain.cons rfl fun Z act hYZ hZ hout hsz hd hpre => ?_
  have h0 := hd ⟨0, .data⟩ (by simp) rfl _ rfl
  have h2 := hd ⟨2, .data⟩ (by simp) rfl _ rfl
  have ea4 : act.eval (.tmp 4) = .pointer (some ⟨g, 0, none⟩) := h0
  have ea6 : act.eval (.tmp 6) = .int .i64 x.rp := h2
  refine qc_call (args := #[.pointer (some ⟨g, 0, none⟩), .int .i64 x.rp]) rfl (wanted_none rfl) (by rw [ex_callF rfl Try.func64 (by kernel_rfl) (by kernel_rfl)]; exact congrArg (fun z => Result.ok (Next.enter _ z) _) (by simp only [List.map_toArray, List.map_cons, List.map_nil, ea4, ea6]; try rfl)) (WInt_Q Hx2.out HOK.out.rp (by have := HL.out; simp only [List.length_append] at this ⊢; omega)) ?_
  rintro e u1_1a ⟨rfl, qwr, hm⟩
  have zu1_1a := hm.size
  refine ⟨_, rfl, hm.mono (by intro k hk h; (try dsimp only at h ⊢); first | omega | exact Or.inl ⟨(by have hb := HBR.out k h; omega), Or.inl ⟨rfl, h⟩⟩), (fun _ => rfl), ?_⟩
  intro u1_1 hr
  have zu1_1 := hr.size
  have Hx5 := Lib.hid ((qwr.widen (R' := (fun k => (R k) ∨ (u1_0.heap.size ≤ k ∧ k < u1_1a.heap.size))) (by intro k h1; (try unfold New at h1); (try dsimp only at h1 ⊢); (try simp only [false_or] at h1 ⊢); first | exact h1 | (simp only [or_assoc] at h1 ⊢; first | exact h1 | (rcases h1 with h1 | h1 <;> first | (left; exact h1) | (right; omega) | omega))) (Nat.le_refl _)).mod hr (by intro k h1 h2; (try dsimp only at h1 h2); (try simp only [false_or] at h1 h2); rcases h1 with h1 | h1 <;> (first | omega | (have hb := HBR.out k h1; omega) | (have hb := HBR.out k h2; omega) | (have hb := HBT.out k h1; omega) | (have hb := HBT.out k h2; omega) | exact HDJ.out k h1 h2 | exact HDJ.out k h2 h1 | (have hb := HBR.out k h1; have hb2 := HBT.out k h2; omega) | (have hb := HBT.out k h1; have hb2 := HBR.out k h2; omega))))
  have hmr := hm.two hr
  have Hx6 := Lib.hid (Hx3.out.mod hmr (by intro h2; (try dsimp only at h2); (try simp only [false_or] at h2); rcases h2 with h2 | h2 <;> first | omega | (have hb := HBR.out _ h2; omega) | (have hb := HBT.out _ h2; omega)))
  have Hx7 := Lib.hid (Hx4.out.trans hmr (by intro k h1 h2; (try dsimp only at h2 ⊢); (try simp only [false_or] at h2 ⊢); rcases h2 with h2 | h2 <;> first | exact h2 | omega | (have hb := HBR.out k h2; omega) | (have hb := HBT.out k h2; omega)))
  clear Hx3 Hx4
  clear hmr
  clear hm hr hYZ hZ hout hsz hd hpre qwr Hx2 ea4 ea6 h0 h2
  refine QChain.cons rfl fun Z act hYZ hZ hout hsz hd hpre => ?_
  have h3 := hd ⟨3, .data⟩ (by simp) rfl _ rfl
  have h5 := hd ⟨5, .data⟩ (by simp) rfl _ rfl
  have ea7 : act.eval (.tmp 7) = .pointer (some ⟨g, 0, none⟩) := h3
  have ea9 : act.eval (.tmp 9) = .int .i64 x.ix := h5
  refine qc_call (args := #[.pointer (some ⟨g, 0, none⟩), .int .i64 x.ix]) rfl (wanted_none rfl) (by rw [ex_callF rfl Try.func64 (by kernel_rfl) (by kernel_rfl)]; exact congrArg (fun z => Result.ok (Next.enter _ z) _) (by simp only [List.map_toArray, List.map_cons, List.map_nil, ea7, ea9]; try rfl)) (WInt_Q Hx5.out HOK.out.ix (by have := HL.out; simp only [List.length_append] at this ⊢; omega)) ?_
  rintro e u1_2a ⟨rfl, qwr, hm⟩
  have zu1_2a := hm.size
  refine ⟨_, rfl, hm.mono (by intro k hk h; (try dsimp only at h ⊢); rcases h with h | h <;> first | omega | exact Or.inl ⟨(by have hb := HBR.out k h; omega), Or.inr (⟨rfl, h⟩)⟩), (fun _ => rfl), ?_⟩
  intro u1_2 hr
  have zu1_2 := hr.size
  have Hx8 := Lib.hid ((qwr.widen (R' := (fun k => (R k) ∨ (u1_0.heap.size ≤ k ∧ k < u1_1a.heap.size) ∨ (u1_1.heap.size ≤ k ∧ k < u1_2a.heap.size))) (by intro k h1; (try unfold New at h1); (try dsimp only at h1 ⊢); (try simp only [false_or] at h1 ⊢); first | exact h1 | (simp only [or_assoc] at h1 ⊢; first | exact h1 | (rcases h1 with h1 | h1 <;> first | (left; exact h1) | (right; omega) | omega))) (Nat.le_refl _)).mod hr (by intro k h1 h2; (try dsimp only at h1 h2); (try simp only [false_or] at h1 h2); rcases h1 with h1 | h1 | h1 <;> (first | omega | (have hb := HBR.out k h1; omega) | (have hb := HBR.out k h2; omega) | (have hb := HBT.out k h1; omega) | (have hb := HBT.out k h2; omega) | exact HDJ.out k h1 h2 | exact HDJ.out k h2 h1 | (have hb := HBR.out k h1; have hb2 := HBT.out k h2; omega) | (have hb := HBT.out k h1; have hb2 := HBR.out k h2; omega))))
  have hmr := hm.two hr
  have Hx9 := Lib.hid (Hx6.out.mod hmr (by intro h2; (try dsimp only at h2); (try simp only [false_or] at h2); rcases h2 with (h2 | h2) | h2 <;> first | omega | (have hb := HBR.out _ h2; omega) | (have hb := HBT.out _ h2; omega)))
  have Hx10 := Lib.hid (Hx7.out.trans hmr (by intro k h1 h2; (try dsimp only at h2 ⊢); (try simp only [false_or] at h2 ⊢); rcases h2 with (h2 | h2) | h2 <;> first | exact h2 | omega | (have hb := HBR.out k h2; omega) | (have hb := HBT.out k h2; omega)))
  clear Hx6 Hx7
  clear hmr
  clear hm hr hYZ hZ hout hsz hd hpre qwr Hx5 ea7 ea9 h3 h5
  refine QChain.nil fun vs hl hzz hrows hne => ?_
  obtain ⟨Z, hYZ, hZb, hV⟩ := hzz
  obtain ⟨v0, vs0, rfl, hl0⟩ := list_cons hl
  obtain ⟨v1, vs1, rfl, hl1⟩ := list_cons hl0
  obtain ⟨v2, vs2, rfl, hl2⟩ := list_cons hl1
  obtain ⟨v3, vs3, rfl, hl3⟩ := list_cons hl2
  obtain ⟨v4, vs4, rfl, hl4⟩ := list_cons hl3
  obtain ⟨v5, vs5, rfl, hl5⟩ := list_cons hl4
  obtain ⟨v6, vs6, rfl, hl6⟩ := list_cons hl5
  obtain rfl := list_nil hl6
  clear hl hl0 hl1 hl2 hl3 hl4 hl5 hl6
  obtain rfl : v0 = .pointer (some ⟨g, 0, none⟩) := hV 0 _ rfl
  obtain rfl : v3 = .pointer (some ⟨g, 0, none⟩) := hV 3 _ rfl
  obtain rfl : v6 = .pointer (some ⟨g, 0, none⟩) := hV 6 _ rfl
  have ha0 := HA0.out
  subst ha0
  clear HA0 hV hYZ hZb hsz0 hrows hne oe0 oe3
  simp only [putAll, Act.put, List.setIfInBounds_toArray, List.set_cons_zero, List.set_cons_succ]
  go_upto_region 2 with (fail)
  generalize ha0 : Act.mk _ _ = a0
  have oe0 : a0.eval (.tmp 0) = .pointer (some ⟨g, 0, none⟩) := by rw [← ha0]; rfl
  have oe3 : a0.eval (.tmp 3) = .pointer (some ⟨w.heap.size, 0, none⟩) := by rw [← ha0]; rfl
  have hsz0 : a0.tmps.size = 15 := by rw [← ha0]; rfl
  have HA0 := Lib.hid ha0
  clear ha0
  refine wp_region_Q 15 hsz0 (by kernel_rfl) (by kernel_rfl) [11, 12, 13, 14] (by kernel_rfl) (by decide) (fun k => (R k) ∨ (u1_0.heap.size ≤ k ∧ k < u1_1a.heap.size) ∨ (u1_1.heap.size ≤ k ∧ k < u1_2a.heap.size)) (fun k j => (k = 0 ∧ ((R j) ∨ (u1_0.heap.size ≤ j ∧ j < u1_1a.heap.size) ∨ (u1_1.heap.size ≤ j ∧ j < u1_2a.heap.size)))) (by intro k j h; (try dsimp only at h ⊢); rcases h with ⟨-, h | h | h⟩; (exact Or.inl (h)); (exact Or.inr (Or.inl (h))); (exact Or.inr (Or.inr (h)))) [qi (.pointer (some ⟨g, 0, none⟩)), qi (.pointer (some ⟨w.heap.size, 2, none⟩)), qi (.agg #[.int .i64 x.sb, .int .i64 x.mr]), qi (.tuple #[])] ⟨qi_stable, qi_stable, qi_stable, qi_stable, trivial⟩ [3] (by kernel_rfl) (by decide) (by kernel_rfl) [] (by kernel_rfl) (by intro r hr; cases hr) (by intro r hr; cases hr) (by intro r hr; cases hr) ⟨?_, ?_, ?_, ?_, trivial⟩ ?_
  · refine stepq_env rfl rfl rfl fun Z tr act w' hZ hm hm0 hout hsz hd hub hpre => ?_
    refine qe_run rfl (wanted_none rfl) (ex_move rfl ((hout 0 (by decide)).trans oe0)) QE.refl ?_
    rfl
  · refine stepq_env rfl rfl rfl fun Z tr act w' hZ hm hm0 hout hsz hd hub hpre => ?_
    refine qe_run rfl (wanted_none rfl) (ex_field rfl Try.underlying34 rfl (by kernel_rfl) ((hout 3 (by decide)).trans oe3)) QE.refl ?_
    rfl
  · refine stepq_env rfl rfl rfl fun Z tr act w' hZ hm hm0 hout hsz hd hub hpre => ?_
    have h1 := hd ⟨1, .data⟩ (by simp) rfl _ rfl
    refine qe_run rfl (wanted_none rfl) (ex_loadA rfl Try.underlying28 rfl (off := 2) (cs := [.int .i64 x.sb, .int .i64 x.mr]) (by kernel_rfl) h1 (Cs.litA (Hx9.out.mod hm (by intro h2; (try dsimp only at h2); (try simp only [false_or] at h2); rcases h2 with ⟨h0, h2 | h2 | h2⟩ | h2 <;> first | omega | (have hb := HBR.out _ h2; omega) | (have hb := HBT.out _ h2; omega))) rfl)) QE.refl ?_
    rfl
  · exact stepq_chain rfl
  intro u2_0 hr
  have zu2_0 := hr.size
  have Hx11 := Lib.hid (Hx8.out.mod hr (by intro k h1 h2; (try dsimp only at h1 h2); (try simp only [false_or] at h1 h2); rcases h1 with h1 | h1 | h1 <;> (first | omega | (have hb := HBR.out k h1; omega) | (have hb := HBR.out k h2; omega) | (have hb := HBT.out k h1; omega) | (have hb := HBT.out k h2; omega) | exact HDJ.out k h1 h2 | exact HDJ.out k h2 h1 | (have hb := HBR.out k h1; have hb2 := HBT.out k h2; omega) | (have hb := HBT.out k h1; have hb2 := HBR.out k h2; omega))))
  have Hx12 := Lib.hid (Hx9.out.mod hr (by intro h2; (try dsimp only at h2); (try simp only [false_or] at h2); omega))
  have Hx13 := Lib.hid (Hx10.out.trans hr (by intro k h1 h2; (try dsimp only at h2 ⊢); (try simp only [false_or] at h2 ⊢); first | exact h2 | omega | (have hb := HBR.out k h2; omega) | (have hb := HBT.out k h2; omega)))
  clear Hx8 Hx9 Hx10
  clear hr
  refine QChain.cons rfl fun Z act hYZ hZ hout hsz hd hpre => ?_
  have h0 := hd ⟨0, .data⟩ (by simp) rfl _ rfl
  have h2 := hd ⟨2, .data⟩ (by simp) rfl _ rfl
  have ea11 : act.eval (.tmp 11) = .pointer (some ⟨g, 0, none⟩) := h0
  have ea13 : act.eval (.tmp 13) = .agg #[.int .i64 x.sb, .int .i64 x.mr] := h2
  refine qc_call (args := #[.pointer (some ⟨g, 0, none⟩), .agg #[.int .i64 x.sb, .int .i64 x.mr]]) rfl (wanted_none rfl) (by rw [ex_callF rfl Try.func142 (by kernel_rfl) (by kernel_rfl)]; exact congrArg (fun z => Result.ok (Next.enter _ z) _) (by simp only [List.map_toArray, List.map_cons, List.map_nil, ea11, ea13]; try rfl)) (PutSig_Q Hx11.out (by intro k h1; (try dsimp only at h1); rcases h1 with h1 | h1 | h1 <;> (first | omega | (have hb := HBR.out k h1; omega) | (have hb := HBT.out k h1; omega))) HOK.out.sb HOK.out.mr (by have := HL.out; simp only [List.length_append] at this ⊢; omega)) ?_
  rintro e u2_1a ⟨rfl, qwr, hm⟩
  have zu2_1a := hm.size
  refine ⟨_, rfl, hm.mono (by intro k hk h; (try dsimp only at h ⊢); rcases h with h | h | h <;> first | omega | exact Or.inl ⟨(by have hb := HBR.out k h; omega), ⟨rfl, Or.inl h⟩⟩), (fun _ => rfl), ?_⟩
  intro u2_1 hr
  have zu2_1 := hr.size
  have Hx14 := Lib.hid ((qwr.widen (R' := (fun k => (R k) ∨ (u1_0.heap.size ≤ k ∧ k < u1_1a.heap.size) ∨ (u1_1.heap.size ≤ k ∧ k < u1_2a.heap.size) ∨ (u2_0.heap.size ≤ k ∧ k < u2_1a.heap.size))) (by intro k h1; (try unfold New at h1); (try dsimp only at h1 ⊢); (try simp only [false_or] at h1 ⊢); first | exact h1 | (simp only [or_assoc] at h1 ⊢; first | exact h1 | (rcases h1 with h1 | h1 <;> first | (left; exact h1) | (right; omega) | omega))) (Nat.le_refl _)).mod hr (by intro k h1 h2; (try dsimp only at h1 h2); (try simp only [false_or] at h1 h2); rcases h1 with h1 | h1 | h1 | h1 <;> (first | omega | (have hb := HBR.out k h1; omega) | (have hb := HBR.out k h2; omega) | (have hb := HBT.out k h1; omega) | (have hb := HBT.out k h2; omega) | exact HDJ.out k h1 h2 | exact HDJ.out k h2 h1 | (have hb := HBR.out k h1; have hb2 := HBT.out k h2; omega) | (have hb := HBT.out k h1; have hb2 := HBR.out k h2; omega))))
  have hmr := hm.two hr
  have Hx15 := Lib.hid (Hx12.out.mod hmr (by intro h2; (try dsimp only at h2); (try simp only [false_or] at h2); rcases h2 with (h2 | h2 | h2) | h2 <;> first | omega | (have hb := HBR.out _ h2; omega) | (have hb := HBT.out _ h2; omega)))
  have Hx16 := Lib.hid (Hx13.out.trans hmr (by intro k h1 h2; (try dsimp only at h2 ⊢); (try simp only [false_or] at h2 ⊢); rcases h2 with (h2 | h2 | h2) | h2 <;> first | exact h2 | omega | (have hb := HBR.out k h2; omega) | (have hb := HBT.out k h2; omega)))
  clear Hx12 Hx13
  clear hmr
  clear hm hr hYZ hZ hout hsz hd hpre qwr Hx11 ea11 ea13 h0 h2
  refine QChain.nil fun vs hl hzz hrows hne => ?_
  obtain ⟨Z, hYZ, hZb, hV⟩ := hzz
  obtain ⟨v0, vs0, rfl, hl0⟩ := list_cons hl
  obtain ⟨v1, vs1, rfl, hl1⟩ := list_cons hl0
  obtain ⟨v2, vs2, rfl, hl2⟩ := list_cons hl1
  obtain ⟨v3, vs3, rfl, hl3⟩ := list_cons hl2
  obtain rfl := list_nil hl3
  clear hl hl0 hl1 hl2 hl3
  obtain rfl : v0 = .pointer (some ⟨g, 0, none⟩) := hV 0 _ rfl
  obtain rfl : v3 = .tuple #[] := hV 3 _ rfl
  have ha0 := HA0.out
  subst ha0
  clear HA0 hV hYZ hZb hsz0 hrows hne oe0 oe3
  simp only [putAll, Act.put, List.setIfInBounds_toArray, List.set_cons_zero, List.set_cons_succ]
  go_wp2
  go_end0
  have hq := (Hx14.out.widen (R' := (fun k => R k ∨ New w u2_1 k)) (by intro k h1; (try dsimp only at h1 ⊢); (try simp only [false_or] at h1 ⊢); rcases h1 with h1 | h1 | h1 | h1 <;> first | exact Or.inl h1 | (right; unfold New; omega)) (Nat.le_refl _))
  simp only [List.append_assoc] at hq
  exact ⟨rfl, by simpa only [dnB, List.append_assoc] using hq, Hx16.out⟩
set_option maxHeartbeats 4000000 in
theorem PutList_Dn : PutsL DnR 153 154 dnB := by
  intro R R2 g bs v l w hW hB hs hB2 hD hl
  obtain ⟨ao, cap, rfl⟩ := hs.shape
  have hb64 : l.length ≤ maxLen := hs.bd
  rw [maxLen_val] at hb64
  have HI64 := Lib.hid (show I64 (l.length : Int) by unfold I64; omega)
  have HW := Lib.hid hW
  have HS := Lib.hid hs
  have HBR := Lib.hid hB
  have HBT := Lib.hid hB2
  have HDJ := Lib.hid hD
  have HL := Lib.hid hl
  clear hW hB hs hB2 hD hl
  unfold listB at HL
  go_enter Try.func153, Try.ntmps153
  go_upto_region 0 with (fail)
  have HM0 := Lib.hid (Mod.refl (fun k => (R k)) w)
  go_upto_region 0 with (fail)
  generalize ha0 : Act.mk _ _ = a0
  have oe0 : a0.eval (.tmp 0) = .pointer (some ⟨g, 0, none⟩) := by rw [← ha0]; rfl
  have oe1 : a0.eval (.tmp 1) = .slice ao l.length cap := by rw [← ha0]; rfl
  have hsz0 : a0.tmps.size = 23 := by rw [← ha0]; rfl
  have HA0 := Lib.hid ha0
  clear ha0
  refine wp_region_Q 23 hsz0 (by kernel_rfl) (by kernel_rfl) [8, 9, 10, 11] (by kernel_rfl) (by decide) (fun k => (R k)) (fun k j => (k = 0 ∧ ((R j)))) (by intro k j h; (try dsimp only at h ⊢); rcases h with ⟨-, h⟩; (exact h)) [qi (.pointer (some ⟨g, 0, none⟩)), qi (.slice ao l.length cap), qi (.int .i64 l.length), qi (.pointer (some ⟨g, 0, none⟩))] ⟨qi_stable, qi_stable, qi_stable, qi_stable, trivial⟩ [3] (by kernel_rfl) (by decide) (by kernel_rfl) [] (by kernel_rfl) (by intro r hr; cases hr) (by intro r hr; cases hr) (by intro r hr; cases hr) ⟨?_, ?_, ?_, ?_, trivial⟩ ?_
  · refine stepq_env rfl rfl rfl fun Z tr act w' hZ hm hm0 hout hsz hd hub hpre => ?_
    refine qe_run rfl (wanted_none rfl) (ex_move rfl ((hout 0 (by decide)).trans oe0)) QE.refl ?_
    rfl
  · refine stepq_env rfl rfl rfl fun Z tr act w' hZ hm hm0 hout hsz hd hub hpre => ?_
    refine qe_run rfl (wanted_none rfl) (ex_move rfl ((hout 1 (by decide)).trans oe1)) QE.refl ?_
    rfl
  · refine stepq_env rfl rfl rfl fun Z tr act w' hZ hm hm0 hout hsz hd hub hpre => ?_
    have h1 := hd ⟨1, .data⟩ (by simp) rfl _ rfl
    refine qe_run rfl (wanted_none rfl) (ex_lenS rfl h1 Try.underlying88) QE.refl ?_
    rfl
  · exact stepq_chain rfl
  intro u0_0 hr
  have zu0_0 := hr.size
  have Hx1 := Lib.hid (HW.out.mod hr (by intro k h1 h2; (try dsimp only at h1 h2); (try simp only [false_or] at h1 h2); (first | omega | (have hb := HBR.out k h1; omega) | (have hb := HBR.out k h2; omega) | (have hb := HBT.out k h1; omega) | (have hb := HBT.out k h2; omega) | exact HDJ.out k h1 h2 | exact HDJ.out k h2 h1 | (have hb := HBR.out k h1; have hb2 := HBT.out k h2; omega) | (have hb := HBT.out k h1; have hb2 := HBR.out k h2; omega))))
  have Hx2 := Lib.hid (HS.out.mod hr (by intro k h1 h2; (try dsimp only at h1 h2); (try simp only [false_or] at h1 h2); (first | omega | (have hb := HBR.out k h1; omega) | (have hb := HBR.out k h2; omega) | (have hb := HBT.out k h1; omega) | (have hb := HBT.out k h2; omega) | exact HDJ.out k h1 h2 | exact HDJ.out k h2 h1 | (have hb := HBR.out k h1; have hb2 := HBT.out k h2; omega) | (have hb := HBT.out k h1; have hb2 := HBR.out k h2; omega))))
  have Hx3 := Lib.hid (HM0.out.trans hr (by intro k h1 h2; (try dsimp only at h2 ⊢); (try simp only [false_or] at h2 ⊢); first | exact h2 | omega | (have hb := HBR.out k h2; omega) | (have hb := HBT.out k h2; omega)))
  clear HW HS HM0
  clear hr
  refine QChain.cons rfl fun Z act hYZ hZ hout hsz hd hpre => ?_
  have h0 := hd ⟨0, .data⟩ (by simp) rfl _ rfl
  have h2 := hd ⟨2, .data⟩ (by simp) rfl _ rfl
  have ea8 : act.eval (.tmp 8) = .pointer (some ⟨g, 0, none⟩) := h0
  have ea10 : act.eval (.tmp 10) = .int .i64 l.length := h2
  refine qc_call (args := #[.pointer (some ⟨g, 0, none⟩), .int .i64 l.length]) rfl (wanted_none rfl) (by rw [ex_callF rfl Try.func64 (by kernel_rfl) (by kernel_rfl)]; exact congrArg (fun z => Result.ok (Next.enter _ z) _) (by simp only [List.map_toArray, List.map_cons, List.map_nil, ea8, ea10]; try rfl)) (WInt_Q Hx1.out HI64.out (by have := HL.out; simp only [List.length_append] at this ⊢; omega)) ?_
  rintro e u0_1a ⟨rfl, qwr, hm⟩
  have zu0_1a := hm.size
  refine ⟨_, rfl, hm.mono (by intro k hk h; (try dsimp only at h ⊢); first | omega | exact Or.inl ⟨(by have hb := HBR.out k h; omega), ⟨rfl, h⟩⟩), (fun _ => rfl), ?_⟩
  intro u0_1 hr
  have zu0_1 := hr.size
  have Hx4 := Lib.hid ((qwr.widen (R' := (fun k => (R k) ∨ (u0_0.heap.size ≤ k ∧ k < u0_1a.heap.size))) (by intro k h1; (try unfold New at h1); (try dsimp only at h1 ⊢); (try simp only [false_or] at h1 ⊢); first | exact h1 | (simp only [or_assoc] at h1 ⊢; first | exact h1 | (rcases h1 with h1 | h1 <;> first | (left; exact h1) | (right; omega) | omega))) (Nat.le_refl _)).mod hr (by intro k h1 h2; (try dsimp only at h1 h2); (try simp only [false_or] at h1 h2); rcases h1 with h1 | h1 <;> (first | omega | (have hb := HBR.out k h1; omega) | (have hb := HBR.out k h2; omega) | (have hb := HBT.out k h1; omega) | (have hb := HBT.out k h2; omega) | exact HDJ.out k h1 h2 | exact HDJ.out k h2 h1 | (have hb := HBR.out k h1; have hb2 := HBT.out k h2; omega) | (have hb := HBT.out k h1; have hb2 := HBR.out k h2; omega))))
  have hmr := hm.two hr
  have Hx5 := Lib.hid (Hx2.out.mod hmr (by intro k h1 h2; (try dsimp only at h1 h2); (try simp only [false_or] at h1 h2); rcases h2 with h2 | h2 <;> (first | omega | (have hb := HBR.out k h1; omega) | (have hb := HBR.out k h2; omega) | (have hb := HBT.out k h1; omega) | (have hb := HBT.out k h2; omega) | exact HDJ.out k h1 h2 | exact HDJ.out k h2 h1 | (have hb := HBR.out k h1; have hb2 := HBT.out k h2; omega) | (have hb := HBT.out k h1; have hb2 := HBR.out k h2; omega))))
  have Hx6 := Lib.hid (Hx3.out.trans hmr (by intro k h1 h2; (try dsimp only at h2 ⊢); (try simp only [false_or] at h2 ⊢); rcases h2 with h2 | h2 <;> first | exact h2 | omega | (have hb := HBR.out k h2; omega) | (have hb := HBT.out k h2; omega)))
  clear Hx2 Hx3
  clear hmr
  clear hm hr hYZ hZ hout hsz hd hpre qwr Hx1 ea8 ea10 h0 h2
  refine QChain.nil fun vs hl hzz hrows hne => ?_
  obtain ⟨Z, hYZ, hZb, hV⟩ := hzz
  obtain ⟨v0, vs0, rfl, hl0⟩ := list_cons hl
  obtain ⟨v1, vs1, rfl, hl1⟩ := list_cons hl0
  obtain ⟨v2, vs2, rfl, hl2⟩ := list_cons hl1
  obtain ⟨v3, vs3, rfl, hl3⟩ := list_cons hl2
  obtain rfl := list_nil hl3
  clear hl hl0 hl1 hl2 hl3
  obtain rfl : v0 = .pointer (some ⟨g, 0, none⟩) := hV 0 _ rfl
  obtain rfl : v1 = .slice ao l.length cap := hV 1 _ rfl
  obtain rfl : v2 = .int .i64 l.length := hV 2 _ rfl
  obtain rfl : v3 = .pointer (some ⟨g, 0, none⟩) := hV 3 _ rfl
  have ha0 := HA0.out
  subst ha0
  clear HA0 hV hYZ hZb hsz0 hrows hne oe0 oe1
  simp only [putAll, Act.put, List.setIfInBounds_toArray, List.set_cons_zero, List.set_cons_succ]
  go_wp2
  go_loopw [14] (fun t wr => ∃ k : Nat, t = .int .i64 (k : Int) ∧ k ≤ l.length ∧ u0_1.heap.size ≤ wr.heap.size ∧ WrR (fun b => R b ∨ (w.heap.size ≤ b ∧ b < wr.heap.size)) 900000 wr g (bs ++ (encI l.length ++ ((l.take k).map dnB).flatten)) ∧ RdS DnR R2 wr (.slice ao l.length cap) l ∧ Mod R w wr) (fun t _ => l.length - (intOf t).toNat)
  case atStart => exact ⟨0, rfl, Nat.zero_le _, Nat.le_refl _, by have hq := (Hx4.out.widen (R' := (fun k => R k ∨ (w.heap.size ≤ k ∧ k < u0_1.heap.size))) (by intro k h1; (try dsimp only at h1 ⊢); (try simp only [false_or] at h1 ⊢); rcases h1 with h1 | h1 <;> first | exact Or.inl h1 | (right; omega)) (Nat.le_refl _)); simpa only [List.take_zero, List.map_nil, List.flatten_nil, List.append_nil] using hq, Hx5.out, Hx6.out⟩
  case round =>
    obtain ⟨k, rfl, hk, hz, hw, hs, hm⟩ := hrel
    have HW2 := Lib.hid hw
    have HS2 := Lib.hid hs
    have HM2 := Lib.hid hm
    clear hw hs hm Hx4 Hx5 Hx6
    obtain ⟨wo, rfl⟩ : ∃ x, x = wr := ⟨_, rfl⟩
    by_cases hlt : k < l.length
    · skip
      obtain ⟨g0, o0, cs, rfl, hrg, hrd, hcs⟩ := HS2.out.at hlt
      have hcl : cs.length = 4 := DnR.len hrd
      have HCL := Lib.hid hcl
      have HAT := Lib.hid (show CellsAt R2 wo g0 (o0 + k * 4) cs from ⟨hrg, hcs⟩)
      have HRD := Lib.hid hrd
      have HOC := Lib.hid (DnR.one hrd)
      clear hcl hcs hrd hrg
      have HE : Hid (bs ++ (encI l.length ++ ((l.take k).map dnB).flatten) ++ dnB l[k] = bs ++ (encI l.length ++ ((l.take (k + 1)).map dnB).flatten)) := Lib.hid (by rw [List.take_succ_eq_append_getElem hlt, List.map_append, List.flatten_append]; simp [List.append_assoc])
      have HLk := Lib.hid (show (bs ++ (encI l.length ++ ((l.take k).map dnB).flatten) ++ dnB l[k]).length ≤ 900000 by rw [HE.out]; exact Nat.le_trans (put_len _ _ _ _ _) HL.out)
      go_upto_region 3 with (fail)
      generalize ha0 : Act.mk _ _ = a0
      have oe12 : a0.eval (.tmp 12) = .slice (some ⟨g0, o0, none⟩) l.length cap := by rw [← ha0]; rfl
      have oe14 : a0.eval (.tmp 14) = .int .i64 ((k : Nat) : Int) := by rw [← ha0]; rfl
      have hsz0 : a0.tmps.size = 23 := by rw [← ha0]; rfl
      have HA0 := Lib.hid ha0
      clear ha0
      refine wp_region_Q 23 hsz0 (by kernel_rfl) (by kernel_rfl) [16, 17, 7, 26] (by kernel_rfl) (by decide) (fun _ => False) (fun _ _ => False) (fun _ _ h => h) [qi (.pointer (some ⟨g0, o0 + k * 4, none⟩)), qi (.agg cs.toArray), qa, qa] ⟨qi_stable, qi_stable, qa_stable, qa_stable, trivial⟩ [] (by kernel_rfl) (by decide) (by kernel_rfl) [⟨2, 3, 34, [.int .i64 0, .int .i64 0, .int .i64 0, .int .i64 0], 0, (fun t => cs)⟩] (by kernel_rfl) (by intro r hr; simp only [List.mem_cons, List.not_mem_nil, or_false] at hr; rcases hr with rfl <;> exact ⟨by kernel_rfl, by kernel_rfl⟩) (by intro r hr; simp only [List.mem_cons, List.not_mem_nil, or_false] at hr; rcases hr with rfl <;> exact ⟨of_decide_eq_true (by kernel_rfl), of_decide_eq_true (by kernel_rfl)⟩) (by intro r hr; simp only [List.mem_cons, List.not_mem_nil, or_false] at hr; rcases hr with rfl <;> exact fun _ _ _ _ => ⟨trivial, trivial⟩) ⟨?_, ?_, ?_, ?_, trivial⟩ ?_
      · refine stepq_env rfl rfl rfl fun Z tr act w' hZ hm hm0 hout hsz hd hub hpre => ?_
        refine qe_run rfl (wanted_none rfl) (ex_idxS (i := k) (s := 4) rfl Try.underlying88 (by kernel_rfl) ((hout 12 (by decide)).trans oe12) ((hout 14 (by decide)).trans oe14) (by omega)) QE.refl ?_
        rfl
      · refine stepq_env rfl rfl rfl fun Z tr act w' hZ hm hm0 hout hsz hd hub hpre => ?_
        have h0 := hd ⟨0, .data⟩ (by simp) rfl _ rfl
        refine qe_run rfl (wanted_none rfl) (ex_loadA rfl Try.underlying34 rfl (off := o0 + k * 4) (cs := cs) (by rw [HCL.out]; kernel_rfl) h0 (fun j u hu => ((HAT.out.mod (Mod.mono (S' := fun k => wo.heap.size ≤ k) hm (fun _ _ h => h.elim (fun h => h.2.elim) (fun h => h))) (by intro k h1 h2; (try dsimp only at h1 h2); (try simp only [false_or] at h1 h2); (first | omega | (have hb := HBR.out k h1; omega) | (have hb := HBR.out k h2; omega) | (have hb := HBT.out k h1; omega) | (have hb := HBT.out k h2; omega) | exact HDJ.out k h1 h2 | exact HDJ.out k h2 h1 | (have hb := HBR.out k h1; have hb2 := HBT.out k h2; omega) | (have hb := HBT.out k h1; have hb2 := HBR.out k h2; omega))))).2 j u hu)) QE.refl ?_
        rfl
      · exact stepq_make rfl rfl ⟨rfl, rfl, by kernel_rfl, by kernel_rfl⟩
      · refine stepq_write rfl rfl rfl ⟨rfl, 7, (.tmp 17), rfl, by decide, rfl, by kernel_rfl, fun Z tr act w' hm hout hsz hd hpre => ?_⟩
        have h1 := hd ⟨1, .data⟩ (by simp) rfl _ rfl
        exact ⟨Nat.zero_le _, (by rw [show act.eval ((.tmp 17)) = _ from h1]; rfl), (by rw [HCL.out]; rfl), HOC.out⟩
      intro u3_0 hr
      have zu3_0 := hr.size
      have Hx7 := Lib.hid (HW2.out.mod hr (by intro k h1 h2; (try dsimp only at h1 h2); (try simp only [false_or] at h1 h2); rcases h1 with h1 | h1 <;> (first | omega | (have hb := HBR.out k h1; omega) | (have hb := HBR.out k h2; omega) | (have hb := HBT.out k h1; omega) | (have hb := HBT.out k h2; omega) | exact HDJ.out k h1 h2 | exact HDJ.out k h2 h1 | (have hb := HBR.out k h1; have hb2 := HBT.out k h2; omega) | (have hb := HBT.out k h1; have hb2 := HBR.out k h2; omega))))
      have Hx8 := Lib.hid (HS2.out.mod hr (by intro k h1 h2; (try dsimp only at h1 h2); (try simp only [false_or] at h1 h2); (first | omega | (have hb := HBR.out k h1; omega) | (have hb := HBR.out k h2; omega) | (have hb := HBT.out k h1; omega) | (have hb := HBT.out k h2; omega) | exact HDJ.out k h1 h2 | exact HDJ.out k h2 h1 | (have hb := HBR.out k h1; have hb2 := HBT.out k h2; omega) | (have hb := HBT.out k h1; have hb2 := HBR.out k h2; omega))))
      have Hx9 := Lib.hid (HM2.out.trans hr (by intro k h1 h2; (try dsimp only at h2 ⊢); (try simp only [false_or] at h2 ⊢); first | exact h2 | omega | (have hb := HBR.out k h2; omega) | (have hb := HBT.out k h2; omega)))
      have Hx10 := Lib.hid (HAT.out.mod hr (by intro k h1 h2; (try dsimp only at h1 h2); (try simp only [false_or] at h1 h2); (first | omega | (have hb := HBR.out k h1; omega) | (have hb := HBR.out k h2; omega) | (have hb := HBT.out k h1; omega) | (have hb := HBT.out k h2; omega) | exact HDJ.out k h1 h2 | exact HDJ.out k h2 h1 | (have hb := HBR.out k h1; have hb2 := HBT.out k h2; omega) | (have hb := HBT.out k h1; have hb2 := HBR.out k h2; omega))))
      have Hx11 := Lib.hid (HRD.out.mod hr (by intro k h1 h2; (try dsimp only at h1 h2); (try simp only [false_or] at h1 h2); (first | omega | (have hb := HBR.out k h1; omega) | (have hb := HBR.out k h2; omega) | (have hb := HBT.out k h1; omega) | (have hb := HBT.out k h2; omega) | exact HDJ.out k h1 h2 | exact HDJ.out k h2 h1 | (have hb := HBR.out k h1; have hb2 := HBT.out k h2; omega) | (have hb := HBT.out k h1; have hb2 := HBR.out k h2; omega))))
      clear HW2 HS2 HM2 HAT HRD
      clear hr
      refine QChain.nil fun vs hl hzz hrows hne => ?_
      obtain ⟨Z, hYZ, hZb, hV⟩ := hzz
      obtain ⟨v0, vs0, rfl, hl0⟩ := list_cons hl
      obtain ⟨v1, vs1, rfl, hl1⟩ := list_cons hl0
      obtain ⟨v2, vs2, rfl, hl2⟩ := list_cons hl1
      obtain ⟨v3, vs3, rfl, hl3⟩ := list_cons hl2
      obtain rfl := list_nil hl3
      clear hl hl0 hl1 hl2 hl3
      obtain ⟨q, fq, hBq, hYq, hCq⟩ := hrows _ (by simp only [List.mem_cons, List.not_mem_nil, or_false]; trivial)
      obtain rfl : v2 = _ := Option.some.inj fq
      (try dsimp only at hBq hYq); (try simp only [false_or] at hBq hYq)
      have zqq := hCq.lt
      have Hx12 := Lib.hid (show Cs u3_0 q (cs : List Value).toArray 34 from hCq)
      clear hCq fq
      have ha0 := HA0.out
      subst ha0
      clear HA0 hV hYZ hZb hsz0 hrows hne oe12 oe14
      simp only [putAll, Act.put, List.setIfInBounds_toArray, List.set_cons_zero, List.set_cons_succ, List.set_nil]
      go_upto_region 4 with (fail)
      generalize ha0 : Act.mk _ _ = a0
      have oe0 : a0.eval (.tmp 0) = .pointer (some ⟨g, 0, none⟩) := by rw [← ha0]; rfl
      have oe2 : a0.eval (.tmp 2) = .func (.func 154) #[] #[] := by rw [← ha0]; rfl
      have oe7 : a0.eval (.tmp 7) = .pointer (some ⟨q, 0, none⟩) := by rw [← ha0]; rfl
      have hsz0 : a0.tmps.size = 23 := by rw [← ha0]; rfl
      have HA0 := Lib.hid ha0
      clear ha0
      refine wp_region_Q 23 hsz0 (by kernel_rfl) (by kernel_rfl) [18, 19, 20, 21] (by kernel_rfl) (by decide) (fun k => (R k) ∨ (w.heap.size ≤ k ∧ k < wo.heap.size)) (fun k j => (k = 0 ∧ ((R j) ∨ (w.heap.size ≤ j ∧ j < wo.heap.size)))) (by intro k j h; (try dsimp only at h ⊢); rcases h with ⟨-, h | h⟩; (exact Or.inl (h)); (exact Or.inr (h))) [qi (.func (.func 154) #[] #[]), qi (.pointer (some ⟨g, 0, none⟩)), qi (.agg cs.toArray), qi (.tuple #[])] ⟨qi_stable, qi_stable, qi_stable, qi_stable, trivial⟩ [3] (by kernel_rfl) (by decide) (by kernel_rfl) [] (by kernel_rfl) (by intro r hr; cases hr) (by intro r hr; cases hr) (by intro r hr; cases hr) ⟨?_, ?_, ?_, ?_, trivial⟩ ?_
      · refine stepq_env rfl rfl rfl fun Z tr act w' hZ hm hm0 hout hsz hd hub hpre => ?_
        refine qe_run rfl (wanted_none rfl) (ex_move rfl ((hout 2 (by decide)).trans oe2)) QE.refl ?_
        rfl
      · refine stepq_env rfl rfl rfl fun Z tr act w' hZ hm hm0 hout hsz hd hub hpre => ?_
        refine qe_run rfl (wanted_none rfl) (ex_move rfl ((hout 0 (by decide)).trans oe0)) QE.refl ?_
        rfl
      · refine stepq_env rfl rfl rfl fun Z tr act w' hZ hm hm0 hout hsz hd hub hpre => ?_
        refine qe_run rfl (wanted_none rfl) (ex_loadA rfl Try.underlying34 rfl (off := 0) (cs := cs) (by rw [HCL.out]; kernel_rfl) ((hout 7 (by decide)).trans oe7) (Cs.whole (Hx12.out.mod hm (by intro h2; (try dsimp only at h2); (try simp only [false_or] at h2); rcases h2 with ⟨h0, h2 | h2⟩ | h2 <;> first | omega | (have hb := HBR.out _ h2; omega) | (have hb := HBT.out _ h2; omega))))) QE.refl ?_
        rfl
      · exact stepq_chain rfl
      intro u4_0 hr
      have zu4_0 := hr.size
      have Hx13 := Lib.hid (Hx7.out.mod hr (by intro k h1 h2; (try dsimp only at h1 h2); (try simp only [false_or] at h1 h2); rcases h1 with h1 | h1 <;> (first | omega | (have hb := HBR.out k h1; omega) | (have hb := HBR.out k h2; omega) | (have hb := HBT.out k h1; omega) | (have hb := HBT.out k h2; omega) | exact HDJ.out k h1 h2 | exact HDJ.out k h2 h1 | (have hb := HBR.out k h1; have hb2 := HBT.out k h2; omega) | (have hb := HBT.out k h1; have hb2 := HBR.out k h2; omega))))
      have Hx14 := Lib.hid (Hx8.out.mod hr (by intro k h1 h2; (try dsimp only at h1 h2); (try simp only [false_or] at h1 h2); (first | omega | (have hb := HBR.out k h1; omega) | (have hb := HBR.out k h2; omega) | (have hb := HBT.out k h1; omega) | (have hb := HBT.out k h2; omega) | exact HDJ.out k h1 h2 | exact HDJ.out k h2 h1 | (have hb := HBR.out k h1; have hb2 := HBT.out k h2; omega) | (have hb := HBT.out k h1; have hb2 := HBR.out k h2; omega))))
      have Hx15 := Lib.hid (Hx9.out.trans hr (by intro k h1 h2; (try dsimp only at h2 ⊢); (try simp only [false_or] at h2 ⊢); first | exact h2 | omega | (have hb := HBR.out k h2; omega) | (have hb := HBT.out k h2; omega)))
      have Hx16 := Lib.hid (Hx10.out.mod hr (by intro k h1 h2; (try dsimp only at h1 h2); (try simp only [false_or] at h1 h2); (first | omega | (have hb := HBR.out k h1; omega) | (have hb := HBR.out k h2; omega) | (have hb := HBT.out k h1; omega) | (have hb := HBT.out k h2; omega) | exact HDJ.out k h1 h2 | exact HDJ.out k h2 h1 | (have hb := HBR.out k h1; have hb2 := HBT.out k h2; omega) | (have hb := HBT.out k h1; have hb2 := HBR.out k h2; omega))))
      have Hx17 := Lib.hid (Hx11.out.mod hr (by intro k h1 h2; (try dsimp only at h1 h2); (try simp only [false_or] at h1 h2); (first | omega | (have hb := HBR.out k h1; omega) | (have hb := HBR.out k h2; omega) | (have hb := HBT.out k h1; omega) | (have hb := HBT.out k h2; omega) | exact HDJ.out k h1 h2 | exact HDJ.out k h2 h1 | (have hb := HBR.out k h1; have hb2 := HBT.out k h2; omega) | (have hb := HBT.out k h1; have hb2 := HBR.out k h2; omega))))
      have Hx18 := Lib.hid (Hx12.out.mod hr (by intro h2; (try dsimp only at h2); (try simp only [false_or] at h2); omega))
      clear Hx7 Hx8 Hx9 Hx10 Hx11 Hx12
      clear hr
      refine QChain.cons rfl fun Z act hYZ hZ hout hsz hd hpre => ?_
      have h0 := hd ⟨0, .data⟩ (by simp) rfl _ rfl
      have h1 := hd ⟨1, .data⟩ (by simp) rfl _ rfl
      have h2 := hd ⟨2, .data⟩ (by simp) rfl _ rfl
      have ea19 : act.eval (.tmp 19) = .pointer (some ⟨g, 0, none⟩) := h1
      have ea20 : act.eval (.tmp 20) = .agg cs.toArray := h2
      refine qc_call (args := #[.pointer (some ⟨g, 0, none⟩), .agg cs.toArray]) rfl (wanted_none rfl) (by rw [ex_callV rfl h0 Try.func154 (by kernel_rfl) (by kernel_rfl)]; exact congrArg (fun z => Result.ok (Next.enter _ z) _) (by simp only [List.map_toArray, List.map_cons, List.map_nil, ea19, ea20]; try rfl)) (PutDn_Q _ _ _ _ _ _ _ Hx13.out (by intro k h1; (try dsimp only at h1); rcases h1 with h1 | h1 <;> (first | omega | (have hb := HBR.out k h1; omega) | (have hb := HBT.out k h1; omega))) Hx17.out (by intro k h1; (try dsimp only at h1); (first | omega | (have hb := HBR.out k h1; omega) | (have hb := HBT.out k h1; omega))) (by intro k h1 h2; (try dsimp only at h1 h2); (try simp only [false_or] at h1 h2); rcases h1 with h1 | h1 <;> (first | omega | (have hb := HBR.out k h1; omega) | (have hb := HBR.out k h2; omega) | (have hb := HBT.out k h1; omega) | (have hb := HBT.out k h2; omega) | exact HDJ.out k h1 h2 | exact HDJ.out k h2 h1 | (have hb := HBR.out k h1; have hb2 := HBT.out k h2; omega) | (have hb := HBT.out k h1; have hb2 := HBR.out k h2; omega))) HLk.out) ?_
      rintro e u4_1a ⟨rfl, qwr, hm⟩
      have zu4_1a := hm.size
      refine ⟨_, rfl, hm.mono (by intro k hk h; (try dsimp only at h ⊢); rcases h with h | h <;> first | omega | exact Or.inl ⟨(by have hb := HBR.out k h; omega), ⟨rfl, Or.inl h⟩⟩), (fun _ => rfl), ?_⟩
      intro u4_1 hr
      have zu4_1 := hr.size
      have Hx19 := Lib.hid ((qwr.widen (R' := (fun k => (R k) ∨ (w.heap.size ≤ k ∧ k < wo.heap.size) ∨ (u4_0.heap.size ≤ k ∧ k < u4_1a.heap.size))) (by intro k h1; (try unfold New at h1); (try dsimp only at h1 ⊢); (try simp only [false_or] at h1 ⊢); first | exact h1 | (simp only [or_assoc] at h1 ⊢; first | exact h1 | (rcases h1 with h1 | h1 <;> first | (left; exact h1) | (right; omega) | omega))) (Nat.le_refl _)).mod hr (by intro k h1 h2; (try dsimp only at h1 h2); (try simp only [false_or] at h1 h2); rcases h1 with h1 | h1 | h1 <;> (first | omega | (have hb := HBR.out k h1; omega) | (have hb := HBR.out k h2; omega) | (have hb := HBT.out k h1; omega) | (have hb := HBT.out k h2; omega) | exact HDJ.out k h1 h2 | exact HDJ.out k h2 h1 | (have hb := HBR.out k h1; have hb2 := HBT.out k h2; omega) | (have hb := HBT.out k h1; have hb2 := HBR.out k h2; omega))))
      have hmr := hm.two hr
      have Hx20 := Lib.hid (Hx14.out.mod hmr (by intro k h1 h2; (try dsimp only at h1 h2); (try simp only [false_or] at h1 h2); rcases h2 with (h2 | h2) | h2 <;> (first | omega | (have hb := HBR.out k h1; omega) | (have hb := HBR.out k h2; omega) | (have hb := HBT.out k h1; omega) | (have hb := HBT.out k h2; omega) | exact HDJ.out k h1 h2 | exact HDJ.out k h2 h1 | (have hb := HBR.out k h1; have hb2 := HBT.out k h2; omega) | (have hb := HBT.out k h1; have hb2 := HBR.out k h2; omega))))
      have Hx21 := Lib.hid (Hx15.out.trans hmr (by intro k h1 h2; (try dsimp only at h2 ⊢); (try simp only [false_or] at h2 ⊢); rcases h2 with (h2 | h2) | h2 <;> first | exact h2 | omega | (have hb := HBR.out k h2; omega) | (have hb := HBT.out k h2; omega)))
      have Hx22 := Lib.hid (Hx16.out.mod hmr (by intro k h1 h2; (try dsimp only at h1 h2); (try simp only [false_or] at h1 h2); rcases h2 with (h2 | h2) | h2 <;> (first | omega | (have hb := HBR.out k h1; omega) | (have hb := HBR.out k h2; omega) | (have hb := HBT.out k h1; omega) | (have hb := HBT.out k h2; omega) | exact HDJ.out k h1 h2 | exact HDJ.out k h2 h1 | (have hb := HBR.out k h1; have hb2 := HBT.out k h2; omega) | (have hb := HBT.out k h1; have hb2 := HBR.out k h2; omega))))
      have Hx23 := Lib.hid (Hx17.out.mod hmr (by intro k h1 h2; (try dsimp only at h1 h2); (try simp only [false_or] at h1 h2); rcases h2 with (h2 | h2) | h2 <;> (first | omega | (have hb := HBR.out k h1; omega) | (have hb := HBR.out k h2; omega) | (have hb := HBT.out k h1; omega) | (have hb := HBT.out k h2; omega) | exact HDJ.out k h1 h2 | exact HDJ.out k h2 h1 | (have hb := HBR.out k h1; have hb2 := HBT.out k h2; omega) | (have hb := HBT.out k h1; have hb2 := HBR.out k h2; omega))))
      have Hx24 := Lib.hid (Hx18.out.mod hmr (by intro h2; (try dsimp only at h2); (try simp only [false_or] at h2); rcases h2 with (h2 | h2) | h2 <;> first | omega | (have hb := HBR.out _ h2; omega) | (have hb := HBT.out _ h2; omega)))
      clear Hx14 Hx15 Hx16 Hx17 Hx18
      clear hmr
      clear hm hr hYZ hZ hout hsz hd hpre qwr Hx13 ea19 ea20 h0 h1 h2
      refine QChain.nil fun vs hl hzz hrows hne => ?_
      obtain ⟨Z, hYZ, hZb, hV⟩ := hzz
      obtain ⟨v0, vs0, rfl, hl0⟩ := list_cons hl
      obtain ⟨v1, vs1, rfl, hl1⟩ := list_cons hl0
      obtain ⟨v2, vs2, rfl, hl2⟩ := list_cons hl1
      obtain ⟨v3, vs3, rfl, hl3⟩ := list_cons hl2
      obtain rfl := list_nil hl3
      clear hl hl0 hl1 hl2 hl3
      obtain rfl : v0 = .func (.func 154) #[] #[] := hV 0 _ rfl
      obtain rfl : v1 = .pointer (some ⟨g, 0, none⟩) := hV 1 _ rfl
      obtain rfl : v3 = .tuple #[] := hV 3 _ rfl
      have ha0 := HA0.out
      subst ha0
      clear HA0 hV hYZ hZb hsz0 hrows hne oe0 oe2 oe7
      simp only [putAll, Act.put, List.setIfInBounds_toArray, List.set_cons_zero, List.set_cons_succ]
      have hq := Hx19.out
      rw [HE.out] at hq
      have HQ := Lib.hid hq
      clear hq
      go_wp2
      go_roundw
      case rel => exact ⟨k + 1, by go_num, by omega, by omega, (HQ.out.widen (by intro b h1; (try dsimp only at h1 ⊢); rcases h1 with h1 | h1 | h1 <;> first | exact Or.inl h1 | (right; omega)) (Nat.le_refl _)), Hx20.out, Hx21.out⟩
      case measure => simp [intOf]; omega
    · have hkk : k = l.length := by omega
      subst hkk
      go_wp2
      go_end0
      have hq := HW2.out
      rw [List.take_length] at hq
      exact ⟨rfl, hq, HM2.out⟩
set_option maxHeartbeats 4000000 in
theorem PutTb_Q : Puts TbR 134 tbB := by
  intro R R2 g bs cs x w hW hB hx hB2 hD hl
  obtain ⟨v_l, rfl, hok, hs0⟩ := hx
  have HS0 := Lib.hid hs0
  clear hs0
  have HW := Lib.hid hW
  have HBR := Lib.hid hB
  have HBT := Lib.hid hB2
  have HDJ := Lib.hid hD
  have HOK := Lib.hid hok
  have HL := Lib.hid hl
  clear hW hB hB2 hD hl hok
  unfold tbB at HL
  go_enter Try.func134, Try.ntmps134
  go_upto_region 1 with (fail)
  obtain ⟨w1, hw1⟩ : ∃ zz, zz = (w.alloc (.cells (x.cells v_l : List Value).toArray 90)) := ⟨_, rfl⟩
  change Code.wp _ _ _ _ (w.alloc (.cells (x.cells v_l : List Value).toArray 90))
  rw [← hw1]
  have HB3 := Lib.hid (show Cs w1 (w.heap.size) (x.cells v_l : List Value).toArray 90 by rw [hw1]; exact Cs.new _ _ _)
  have hm : Mod (fun _ => False) w w1 := by rw [hw1]; exact (Mod.refl _ _).alloc _
  have HM0 := Lib.hid (show Mod (fun k => (R k)) w w1 from hm.mono (fun _ _ h => h.elim))
  have hs1 : w1.heap.size = w.heap.size + 1 := by rw [hw1]; simp
  have Hx1 := Lib.hid (HW.out.mod hm (fun _ _ h => h))
  clear HW
  have Hx2 := Lib.hid (HS0.out.mod hm (fun _ _ h => h))
  clear HS0
  clear hw1 hm
  go_upto_region 1 with (fail)
  generalize ha0 : Act.mk _ _ = a0
  have oe0 : a0.eval (.tmp 0) = .pointer (some ⟨g, 0, none⟩) := by rw [← ha0]; rfl
  have oe3 : a0.eval (.tmp 3) = .pointer (some ⟨w.heap.size, 0, none⟩) := by rw [← ha0]; rfl
  have hsz0 : a0.tmps.size = 12 := by rw [← ha0]; rfl
  have HA0 := Lib.hid ha0
  clear ha0
  refine wp_region_Q 12 hsz0 (by kernel_rfl) (by kernel_rfl) [4, 5, 6, 7] (by kernel_rfl) (by decide) (fun k => (R k)) (fun k j => (k = 0 ∧ ((R j)))) (by intro k j h; (try dsimp only at h ⊢); rcases h with ⟨-, h⟩; (exact h)) [qi (.pointer (some ⟨g, 0, none⟩)), qi (.pointer (some ⟨w.heap.size, 0, none⟩)), qi (.int .i64 x.ix), qi (.pointer (some ⟨g, 0, none⟩))] ⟨qi_stable, qi_stable, qi_stable, qi_stable, trivial⟩ [3] (by kernel_rfl) (by decide) (by kernel_rfl) [] (by kernel_rfl) (by intro r hr; cases hr) (by intro r hr; cases hr) (by intro r hr; cases hr) ⟨?_, ?_, ?_, ?_, trivial⟩ ?_
  · refine stepq_env rfl rfl rfl fun Z tr act w' hZ hm hm0 hout hsz hd hub hpre => ?_
    refine qe_run rfl (wanted_none rfl) (ex_move rfl ((hout 0 (by decide)).trans oe0)) QE.refl ?_
    rfl
  · refine stepq_env rfl rfl rfl fun Z tr act w' hZ hm hm0 hout hsz hd hub hpre => ?_
    refine qe_run rfl (wanted_none rfl) (ex_field rfl Try.underlying90 rfl (by kernel_rfl) ((hout 3 (by decide)).trans oe3)) QE.refl ?_
    rfl
  · refine stepq_env rfl rfl rfl fun Z tr act w' hZ hm hm0 hout hsz hd hub hpre => ?_
    have h1 := hd ⟨1, .data⟩ (by simp) rfl _ rfl
    refine qe_run rfl (wanted_none rfl) (ex_load1 rfl Try.underlying3 rfl h1 (Cs.lit1 (HB3.out.mod hm (by intro h2; (try dsimp only at h2); (try simp only [false_or] at h2); rcases h2 with ⟨h0, h2⟩ | h2 <;> first | omega | (have hb := HBR.out _ h2; omega) | (have hb := HBT.out _ h2; omega))) rfl)) QE.refl ?_
    rfl
  · exact stepq_chain rfl
  intro u1_0 hr
  have zu1_0 := hr.size
  have Hx3 := Lib.hid (Hx1.out.mod hr (by intro k h1 h2; (try dsimp only at h1 h2); (try simp only [false_or] at h1 h2); (first | omega | (have hb := HBR.out k h1; omega) | (have hb := HBR.out k h2; omega) | (have hb := HBT.out k h1; omega) | (have hb := HBT.out k h2; omega) | exact HDJ.out k h1 h2 | exact HDJ.out k h2 h1 | (have hb := HBR.out k h1; have hb2 := HBT.out k h2; omega) | (have hb := HBT.out k h1; have hb2 := HBR.out k h2; omega))))
  have Hx4 := Lib.hid (Hx2.out.mod hr (by intro k h1 h2; (try dsimp only at h1 h2); (try simp only [false_or] at h1 h2); (first | omega | (have hb := HBR.out k h1; omega) | (have hb := HBR.out k h2; omega) | (have hb := HBT.out k h1; omega) | (have hb := HBT.out k h2; omega) | exact HDJ.out k h1 h2 | exact HDJ.out k h2 h1 | (have hb := HBR.out k h1; have hb2 := HBT.out k h2; omega) | (have hb := HBT.out k h1; have hb2 := HBR.out k h2; omega))))
  have Hx5 := Lib.hid (HB3.out.mod hr (by intro h2; (try dsimp only at h2); (try simp only [false_or] at h2); omega))
  have Hx6 := Lib.hid (HM0.out.trans hr (by intro k h1 h2; (try dsimp only at h2 ⊢); (try simp only [false_or] at h2 ⊢); first | exact h2 | omega | (have hb := HBR.out k h2; omega) | (have hb := HBT.out k h2; omega)))
  clear Hx1 Hx2 HB3 HM0
  clear hr
  refine QChain.cons rfl fun Z act hYZ hZ hout hsz hd hpre => ?_
  have h0 := hd ⟨0, .data⟩ (by simp) rfl _ rfl
  have h2 := hd ⟨2, .data⟩ (by simp) rfl _ rfl
  have ea4 : act.eval (.tmp 4) = .pointer (some ⟨g, 0, none⟩) := h0
  have ea6 : act.eval (.tmp 6) = .int .i64 x.ix := h2
  refine qc_call (args := #[.pointer (some ⟨g, 0, none⟩), .int .i64 x.ix]) rfl (wanted_none rfl) (by rw [ex_callF rfl Try.func64 (by kernel_rfl) (by kernel_rfl)]; exact congrArg (fun z => Result.ok (Next.enter _ z) _) (by simp only [List.map_toArray, List.map_cons, List.map_nil, ea4, ea6]; try rfl)) (WInt_Q Hx3.out HOK.out (by have := HL.out; simp only [List.length_append] at this ⊢; omega)) ?_
  rintro e u1_1a ⟨rfl, qwr, hm⟩
  have zu1_1a := hm.size
  refine ⟨_, rfl, hm.mono (by intro k hk h; (try dsimp only at h ⊢); first | omega | exact Or.inl ⟨(by have hb := HBR.out k h; omega), ⟨rfl, h⟩⟩), (fun _ => rfl), ?_⟩
  intro u1_1 hr
  have zu1_1 := hr.size
  have Hx7 := Lib.hid ((qwr.widen (R' := (fun k => (R k) ∨ (u1_0.heap.size ≤ k ∧ k < u1_1a.heap.size))) (by intro k h1; (try unfold New at h1); (try dsimp only at h1 ⊢); (try simp only [false_or] at h1 ⊢); first | exact h1 | (simp only [or_assoc] at h1 ⊢; first | exact h1 | (rcases h1 with h1 | h1 <;> first | (left; exact h1) | (right; omega) | omega))) (Nat.le_refl _)).mod hr (by intro k h1 h2; (try dsimp only at h1 h2); (try simp only [false_or] at h1 h2); rcases h1 with h1 | h1 <;> (first | omega | (have hb := HBR.out k h1; omega) | (have hb := HBR.out k h2; omega) | (have hb := HBT.out k h1; omega) | (have hb := HBT.out k h2; omega) | exact HDJ.out k h1 h2 | exact HDJ.out k h2 h1 | (have hb := HBR.out k h1; have hb2 := HBT.out k h2; omega) | (have hb := HBT.out k h1; have hb2 := HBR.out k h2; omega))))
  have hmr := hm.two hr
  have Hx8 := Lib.hid (Hx4.out.mod hmr (by intro k h1 h2; (try dsimp only at h1 h2); (try simp only [false_or] at h1 h2); rcases h2 with h2 | h2 <;> (first | omega | (have hb := HBR.out k h1; omega) | (have hb := HBR.out k h2; omega) | (have hb := HBT.out k h1; omega) | (have hb := HBT.out k h2; omega) | exact HDJ.out k h1 h2 | exact HDJ.out k h2 h1 | (have hb := HBR.out k h1; have hb2 := HBT.out k h2; omega) | (have hb := HBT.out k h1; have hb2 := HBR.out k h2; omega))))
  have Hx9 := Lib.hid (Hx5.out.mod hmr (by intro h2; (try dsimp only at h2); (try simp only [false_or] at h2); rcases h2 with h2 | h2 <;> first | omega | (have hb := HBR.out _ h2; omega) | (have hb := HBT.out _ h2; omega)))
  have Hx10 := Lib.hid (Hx6.out.trans hmr (by intro k h1 h2; (try dsimp only at h2 ⊢); (try simp only [false_or] at h2 ⊢); rcases h2 with h2 | h2 <;> first | exact h2 | omega | (have hb := HBR.out k h2; omega) | (have hb := HBT.out k h2; omega)))
  clear Hx4 Hx5 Hx6
  clear hmr
  clear hm hr hYZ hZ hout hsz hd hpre qwr Hx3 ea4 ea6 h0 h2
  refine QChain.nil fun vs hl hzz hrows hne => ?_
  obtain ⟨Z, hYZ, hZb, hV⟩ := hzz
  obtain ⟨v0, vs0, rfl, hl0⟩ := list_cons hl
  obtain ⟨v1, vs1, rfl, hl1⟩ := list_cons hl0
  obtain ⟨v2, vs2, rfl, hl2⟩ := list_cons hl1
  obtain ⟨v3, vs3, rfl, hl3⟩ := list_cons hl2
  obtain rfl := list_nil hl3
  clear hl hl0 hl1 hl2 hl3
  obtain rfl : v0 = .pointer (some ⟨g, 0, none⟩) := hV 0 _ rfl
  obtain rfl : v3 = .pointer (some ⟨g, 0, none⟩) := hV 3 _ rfl
  have ha0 := HA0.out
  subst ha0
  clear HA0 hV hYZ hZb hsz0 hrows hne oe0 oe3
  simp only [putAll, Act.put, List.setIfInBounds_toArray, List.set_cons_zero, List.set_cons_succ]
  go_upto_region 2 with (fail)
  generalize ha0 : Act.mk _ _ = a0
  have oe0 : a0.eval (.tmp 0) = .pointer (some ⟨g, 0, none⟩) := by rw [← ha0]; rfl
  have oe3 : a0.eval (.tmp 3) = .pointer (some ⟨w.heap.size, 0, none⟩) := by rw [← ha0]; rfl
  have hsz0 : a0.tmps.size = 12 := by rw [← ha0]; rfl
  have HA0 := Lib.hid ha0
  clear ha0
  refine wp_region_Q 12 hsz0 (by kernel_rfl) (by kernel_rfl) [8, 9, 10, 11] (by kernel_rfl) (by decide) (fun k => (R k) ∨ (u1_0.heap.size ≤ k ∧ k < u1_1a.heap.size)) (fun k j => (k = 0 ∧ ((R j) ∨ (u1_0.heap.size ≤ j ∧ j < u1_1a.heap.size)))) (by intro k j h; (try dsimp only at h ⊢); rcases h with ⟨-, h | h⟩; (exact Or.inl (h)); (exact Or.inr (h))) [qi (.pointer (some ⟨g, 0, none⟩)), qi (.pointer (some ⟨w.heap.size, 1, none⟩)), qi (v_l), qi (.tuple #[])] ⟨qi_stable, qi_stable, qi_stable, qi_stable, trivial⟩ [3] (by kernel_rfl) (by decide) (by kernel_rfl) [] (by kernel_rfl) (by intro r hr; cases hr) (by intro r hr; cases hr) (by intro r hr; cases hr) ⟨?_, ?_, ?_, ?_, trivial⟩ ?_
  · refine stepq_env rfl rfl rfl fun Z tr act w' hZ hm hm0 hout hsz hd hub hpre => ?_
    refine qe_run rfl (wanted_none rfl) (ex_move rfl ((hout 0 (by decide)).trans oe0)) QE.refl ?_
    rfl
  · refine stepq_env rfl rfl rfl fun Z tr act w' hZ hm hm0 hout hsz hd hub hpre => ?_
    refine qe_run rfl (wanted_none rfl) (ex_field rfl Try.underlying90 rfl (by kernel_rfl) ((hout 3 (by decide)).trans oe3)) QE.refl ?_
    rfl
  · refine stepq_env rfl rfl rfl fun Z tr act w' hZ hm hm0 hout hsz hd hub hpre => ?_
    have h1 := hd ⟨1, .data⟩ (by simp) rfl _ rfl
    refine qe_run rfl (wanted_none rfl) (ex_load1 rfl Try.underlying88 rfl h1 (Cs.lit1 (Hx9.out.mod hm (by intro h2; (try dsimp only at h2); (try simp only [false_or] at h2); rcases h2 with ⟨h0, h2 | h2⟩ | h2 <;> first | omega | (have hb := HBR.out _ h2; omega) | (have hb := HBT.out _ h2; omega))) rfl)) QE.refl ?_
    rfl
  · exact stepq_chain rfl
  intro u2_0 hr
  have zu2_0 := hr.size
  have Hx11 := Lib.hid (Hx7.out.mod hr (by intro k h1 h2; (try dsimp only at h1 h2); (try simp only [false_or] at h1 h2); rcases h1 with h1 | h1 <;> (first | omega | (have hb := HBR.out k h1; omega) | (have hb := HBR.out k h2; omega) | (have hb := HBT.out k h1; omega) | (have hb := HBT.out k h2; omega) | exact HDJ.out k h1 h2 | exact HDJ.out k h2 h1 | (have hb := HBR.out k h1; have hb2 := HBT.out k h2; omega) | (have hb := HBT.out k h1; have hb2 := HBR.out k h2; omega))))
  have Hx12 := Lib.hid (Hx8.out.mod hr (by intro k h1 h2; (try dsimp only at h1 h2); (try simp only [false_or] at h1 h2); (first | omega | (have hb := HBR.out k h1; omega) | (have hb := HBR.out k h2; omega) | (have hb := HBT.out k h1; omega) | (have hb := HBT.out k h2; omega) | exact HDJ.out k h1 h2 | exact HDJ.out k h2 h1 | (have hb := HBR.out k h1; have hb2 := HBT.out k h2; omega) | (have hb := HBT.out k h1; have hb2 := HBR.out k h2; omega))))
  have Hx13 := Lib.hid (Hx9.out.mod hr (by intro h2; (try dsimp only at h2); (try simp only [false_or] at h2); omega))
  have Hx14 := Lib.hid (Hx10.out.trans hr (by intro k h1 h2; (try dsimp only at h2 ⊢); (try simp only [false_or] at h2 ⊢); first | exact h2 | omega | (have hb := HBR.out k h2; omega) | (have hb := HBT.out k h2; omega)))
  clear Hx7 Hx8 Hx9 Hx10
  clear hr
  refine QChain.cons rfl fun Z act hYZ hZ hout hsz hd hpre => ?_
  have h0 := hd ⟨0, .data⟩ (by simp) rfl _ rfl
  have h2 := hd ⟨2, .data⟩ (by simp) rfl _ rfl
  have ea8 : act.eval (.tmp 8) = .pointer (some ⟨g, 0, none⟩) := h0
  have ea10 : act.eval (.tmp 10) = v_l := h2
  refine qc_call (args := #[.pointer (some ⟨g, 0, none⟩), v_l, .func (.func 154) #[] #[]]) rfl (wanted_none rfl) (by rw [ex_callF rfl Try.func153 (by kernel_rfl) (by kernel_rfl)]; exact congrArg (fun z => Result.ok (Next.enter _ z) _) (by simp only [List.map_toArray, List.map_cons, List.map_nil, ea8, ea10]; try rfl)) (PutList_Dn _ _ _ _ _ _ _ Hx11.out (by intro k h1; (try dsimp only at h1); rcases h1 with h1 | h1 <;> (first | omega | (have hb := HBR.out k h1; omega) | (have hb := HBT.out k h1; omega))) Hx12.out (by intro k h1; (try dsimp only at h1); (first | omega | (have hb := HBR.out k h1; omega) | (have hb := HBT.out k h1; omega))) (by intro k h1 h2; (try dsimp only at h1 h2); (try simp only [false_or] at h1 h2); rcases h1 with h1 | h1 <;> (first | omega | (have hb := HBR.out k h1; omega) | (have hb := HBR.out k h2; omega) | (have hb := HBT.out k h1; omega) | (have hb := HBT.out k h2; omega) | exact HDJ.out k h1 h2 | exact HDJ.out k h2 h1 | (have hb := HBR.out k h1; have hb2 := HBT.out k h2; omega) | (have hb := HBT.out k h1; have hb2 := HBR.out k h2; omega))) (by have := HL.out; simp only [List.length_append] at this ⊢; omega)) ?_
  rintro e u2_1a ⟨rfl, qwr, hm⟩
  have zu2_1a := hm.size
  refine ⟨_, rfl, hm.mono (by intro k hk h; (try dsimp only at h ⊢); rcases h with h | h <;> first | omega | exact Or.inl ⟨(by have hb := HBR.out k h; omega), ⟨rfl, Or.inl h⟩⟩), (fun _ => rfl), ?_⟩
  intro u2_1 hr
  have zu2_1 := hr.size
  have Hx15 := Lib.hid ((qwr.widen (R' := (fun k => (R k) ∨ (u1_0.heap.size ≤ k ∧ k < u1_1a.heap.size) ∨ (u2_0.heap.size ≤ k ∧ k < u2_1a.heap.size))) (by intro k h1; (try unfold New at h1); (try dsimp only at h1 ⊢); (try simp only [false_or] at h1 ⊢); first | exact h1 | (simp only [or_assoc] at h1 ⊢; first | exact h1 | (rcases h1 with h1 | h1 <;> first | (left; exact h1) | (right; omega) | omega))) (Nat.le_refl _)).mod hr (by intro k h1 h2; (try dsimp only at h1 h2); (try simp only [false_or] at h1 h2); rcases h1 with h1 | h1 | h1 <;> (first | omega | (have hb := HBR.out k h1; omega) | (have hb := HBR.out k h2; omega) | (have hb := HBT.out k h1; omega) | (have hb := HBT.out k h2; omega) | exact HDJ.out k h1 h2 | exact HDJ.out k h2 h1 | (have hb := HBR.out k h1; have hb2 := HBT.out k h2; omega) | (have hb := HBT.out k h1; have hb2 := HBR.out k h2; omega))))
  have hmr := hm.two hr
  have Hx16 := Lib.hid (Hx12.out.mod hmr (by intro k h1 h2; (try dsimp only at h1 h2); (try simp only [false_or] at h1 h2); rcases h2 with (h2 | h2) | h2 <;> (first | omega | (have hb := HBR.out k h1; omega) | (have hb := HBR.out k h2; omega) | (have hb := HBT.out k h1; omega) | (have hb := HBT.out k h2; omega) | exact HDJ.out k h1 h2 | exact HDJ.out k h2 h1 | (have hb := HBR.out k h1; have hb2 := HBT.out k h2; omega) | (have hb := HBT.out k h1; have hb2 := HBR.out k h2; omega))))
  have Hx17 := Lib.hid (Hx13.out.mod hmr (by intro h2; (try dsimp only at h2); (try simp only [false_or] at h2); rcases h2 with (h2 | h2) | h2 <;> first | omega | (have hb := HBR.out _ h2; omega) | (have hb := HBT.out _ h2; omega)))
  have Hx18 := Lib.hid (Hx14.out.trans hmr (by intro k h1 h2; (try dsimp only at h2 ⊢); (try simp only [false_or] at h2 ⊢); rcases h2 with (h2 | h2) | h2 <;> first | exact h2 | omega | (have hb := HBR.out k h2; omega) | (have hb := HBT.out k h2; omega)))
  clear Hx12 Hx13 Hx14
  clear hmr
  clear hm hr hYZ hZ hout hsz hd hpre qwr Hx11 ea8 ea10 h0 h2
  refine QChain.nil fun vs hl hzz hrows hne => ?_
  obtain ⟨Z, hYZ, hZb, hV⟩ := hzz
  obtain ⟨v0, vs0, rfl, hl0⟩ := list_cons hl
  obtain ⟨v1, vs1, rfl, hl1⟩ := list_cons hl0
  obtain ⟨v2, vs2, rfl, hl2⟩ := list_cons hl1
  obtain ⟨v3, vs3, rfl, hl3⟩ := list_cons hl2
  obtain rfl := list_nil hl3
  clear hl hl0 hl1 hl2 hl3
  obtain rfl : v0 = .pointer (some ⟨g, 0, none⟩) := hV 0 _ rfl
  obtain rfl : v3 = .tuple #[] := hV 3 _ rfl
  have ha0 := HA0.out
  subst ha0
  clear HA0 hV hYZ hZb hsz0 hrows hne oe0 oe3
  simp only [putAll, Act.put, List.setIfInBounds_toArray, List.set_cons_zero, List.set_cons_succ]
  go_wp2
  go_end0
  have hq := (Hx15.out.widen (R' := (fun k => R k ∨ New w u2_1 k)) (by intro k h1; (try dsimp only at h1 ⊢); (try simp only [false_or] at h1 ⊢); rcases h1 with h1 | h1 | h1 <;> first | exact Or.inl h1 | (right; unfold New; omega)) (Nat.le_refl _))
  simp only [List.append_assoc] at hq
  exact ⟨rfl, by simpa only [tbB, List.append_assoc] using hq, Hx18.out⟩
set_option maxHeartbeats 4000000 in
theorem PutList_Tb : PutsL TbR 133 134 tbB := by
  intro R R2 g bs v l w hW hB hs hB2 hD hl
  obtain ⟨ao, cap, rfl⟩ := hs.shape
  have hb64 : l.length ≤ maxLen := hs.bd
  rw [maxLen_val] at hb64
  have HI64 := Lib.hid (show I64 (l.length : Int) by unfold I64; omega)
  have HW := Lib.hid hW
  have HS := Lib.hid hs
  have HBR := Lib.hid hB
  have HBT := Lib.hid hB2
  have HDJ := Lib.hid hD
  have HL := Lib.hid hl
  clear hW hB hs hB2 hD hl
  unfold listB at HL
  go_enter Try.func133, Try.ntmps133
  go_upto_region 0 with (fail)
  have HM0 := Lib.hid (Mod.refl (fun k => (R k)) w)
  go_upto_region 0 with (fail)
  generalize ha0 : Act.mk _ _ = a0
  have oe0 : a0.eval (.tmp 0) = .pointer (some ⟨g, 0, none⟩) := by rw [← ha0]; rfl
  have oe1 : a0.eval (.tmp 1) = .slice ao l.length cap := by rw [← ha0]; rfl
  have hsz0 : a0.tmps.size = 23 := by rw [← ha0]; rfl
  have HA0 := Lib.hid ha0
  clear ha0
  refine wp_region_Q 23 hsz0 (by kernel_rfl) (by kernel_rfl) [8, 9, 10, 11] (by kernel_rfl) (by decide) (fun k => (R k)) (fun k j => (k = 0 ∧ ((R j)))) (by intro k j h; (try dsimp only at h ⊢); rcases h with ⟨-, h⟩; (exact h)) [qi (.pointer (some ⟨g, 0, none⟩)), qi (.slice ao l.length cap), qi (.int .i64 l.length), qi (.pointer (some ⟨g, 0, none⟩))] ⟨qi_stable, qi_stable, qi_stable, qi_stable, trivial⟩ [3] (by kernel_rfl) (by decide) (by kernel_rfl) [] (by kernel_rfl) (by intro r hr; cases hr) (by intro r hr; cases hr) (by intro r hr; cases hr) ⟨?_, ?_, ?_, ?_, trivial⟩ ?_
  · refine stepq_env rfl rfl rfl fun Z tr act w' hZ hm hm0 hout hsz hd hub hpre => ?_
    refine qe_run rfl (wanted_none rfl) (ex_move rfl ((hout 0 (by decide)).trans oe0)) QE.refl ?_
    rfl
  · refine stepq_env rfl rfl rfl fun Z tr act w' hZ hm hm0 hout hsz hd hub hpre => ?_
    refine qe_run rfl (wanted_none rfl) (ex_move rfl ((hout 1 (by decide)).trans oe1)) QE.refl ?_
    rfl
  · refine stepq_env rfl rfl rfl fun Z tr act w' hZ hm hm0 hout hsz hd hub hpre => ?_
    have h1 := hd ⟨1, .data⟩ (by simp) rfl _ rfl
    refine qe_run rfl (wanted_none rfl) (ex_lenS rfl h1 Try.underlying58) QE.refl ?_
    rfl
  · exact stepq_chain rfl
  intro u0_0 hr
  have zu0_0 := hr.size
  have Hx1 := Lib.hid (HW.out.mod hr (by intro k h1 h2; (try dsimp only at h1 h2); (try simp only [false_or] at h1 h2); (first | omega | (have hb := HBR.out k h1; omega) | (have hb := HBR.out k h2; omega) | (have hb := HBT.out k h1; omega) | (have hb := HBT.out k h2; omega) | exact HDJ.out k h1 h2 | exact HDJ.out k h2 h1 | (have hb := HBR.out k h1; have hb2 := HBT.out k h2; omega) | (have hb := HBT.out k h1; have hb2 := HBR.out k h2; omega))))
  have Hx2 := Lib.hid (HS.out.mod hr (by intro k h1 h2; (try dsimp only at h1 h2); (try simp only [false_or] at h1 h2); (first | omega | (have hb := HBR.out k h1; omega) | (have hb := HBR.out k h2; omega) | (have hb := HBT.out k h1; omega) | (have hb := HBT.out k h2; omega) | exact HDJ.out k h1 h2 | exact HDJ.out k h2 h1 | (have hb := HBR.out k h1; have hb2 := HBT.out k h2; omega) | (have hb := HBT.out k h1; have hb2 := HBR.out k h2; omega))))
  have Hx3 := Lib.hid (HM0.out.trans hr (by intro k h1 h2; (try dsimp only at h2 ⊢); (try simp only [false_or] at h2 ⊢); first | exact h2 | omega | (have hb := HBR.out k h2; omega) | (have hb := HBT.out k h2; omega)))
  clear HW HS HM0
  clear hr
  refine QChain.cons rfl fun Z act hYZ hZ hout hsz hd hpre => ?_
  have h0 := hd ⟨0, .data⟩ (by simp) rfl _ rfl
  have h2 := hd ⟨2, .data⟩ (by simp) rfl _ rfl
  have ea8 : act.eval (.tmp 8) = .pointer (some ⟨g, 0, none⟩) := h0
  have ea10 : act.eval (.tmp 10) = .int .i64 l.length := h2
  refine qc_call (args := #[.pointer (some ⟨g, 0, none⟩), .int .i64 l.length]) rfl (wanted_none rfl) (by rw [ex_callF rfl Try.func64 (by kernel_rfl) (by kernel_rfl)]; exact congrArg (fun z => Result.ok (Next.enter _ z) _) (by simp only [List.map_toArray, List.map_cons, List.map_nil, ea8, ea10]; try rfl)) (WInt_Q Hx1.out HI64.out (by have := HL.out; simp only [List.length_append] at this ⊢; omega)) ?_
  rintro e u0_1a ⟨rfl, qwr, hm⟩
  have zu0_1a := hm.size
  refine ⟨_, rfl, hm.mono (by intro k hk h; (try dsimp only at h ⊢); first | omega | exact Or.inl ⟨(by have hb := HBR.out k h; omega), ⟨rfl, h⟩⟩), (fun _ => rfl), ?_⟩
  intro u0_1 hr
  have zu0_1 := hr.size
  have Hx4 := Lib.hid ((qwr.widen (R' := (fun k => (R k) ∨ (u0_0.heap.size ≤ k ∧ k < u0_1a.heap.size))) (by intro k h1; (try unfold New at h1); (try dsimp only at h1 ⊢); (try simp only [false_or] at h1 ⊢); first | exact h1 | (simp only [or_assoc] at h1 ⊢; first | exact h1 | (rcases h1 with h1 | h1 <;> first | (left; exact h1) | (right; omega) | omega))) (Nat.le_refl _)).mod hr (by intro k h1 h2; (try dsimp only at h1 h2); (try simp only [false_or] at h1 h2); rcases h1 with h1 | h1 <;> (first | omega | (have hb := HBR.out k h1; omega) | (have hb := HBR.out k h2; omega) | (have hb := HBT.out k h1; omega) | (have hb := HBT.out k h2; omega) | exact HDJ.out k h1 h2 | exact HDJ.out k h2 h1 | (have hb := HBR.out k h1; have hb2 := HBT.out k h2; omega) | (have hb := HBT.out k h1; have hb2 := HBR.out k h2; omega))))
  have hmr := hm.two hr
  have Hx5 := Lib.hid (Hx2.out.mod hmr (by intro k h1 h2; (try dsimp only at h1 h2); (try simp only [false_or] at h1 h2); rcases h2 with h2 | h2 <;> (first | omega | (have hb := HBR.out k h1; omega) | (have hb := HBR.out k h2; omega) | (have hb := HBT.out k h1; omega) | (have hb := HBT.out k h2; omega) | exact HDJ.out k h1 h2 | exact HDJ.out k h2 h1 | (have hb := HBR.out k h1; have hb2 := HBT.out k h2; omega) | (have hb := HBT.out k h1; have hb2 := HBR.out k h2; omega))))
  have Hx6 := Lib.hid (Hx3.out.trans hmr (by intro k h1 h2; (try dsimp only at h2 ⊢); (try simp only [false_or] at h2 ⊢); rcases h2 with h2 | h2 <;> first | exact h2 | omega | (have hb := HBR.out k h2; omega) | (have hb := HBT.out k h2; omega)))
  clear Hx2 Hx3
  clear hmr
  clear hm hr hYZ hZ hout hsz hd hpre qwr Hx1 ea8 ea10 h0 h2
  refine QChain.nil fun vs hl hzz hrows hne => ?_
  obtain ⟨Z, hYZ, hZb, hV⟩ := hzz
  obtain ⟨v0, vs0, rfl, hl0⟩ := list_cons hl
  obtain ⟨v1, vs1, rfl, hl1⟩ := list_cons hl0
  obtain ⟨v2, vs2, rfl, hl2⟩ := list_cons hl1
  obtain ⟨v3, vs3, rfl, hl3⟩ := list_cons hl2
  obtain rfl := list_nil hl3
  clear hl hl0 hl1 hl2 hl3
  obtain rfl : v0 = .pointer (some ⟨g, 0, none⟩) := hV 0 _ rfl
  obtain rfl : v1 = .slice ao l.length cap := hV 1 _ rfl
  obtain rfl : v2 = .int .i64 l.length := hV 2 _ rfl
  obtain rfl : v3 = .pointer (some ⟨g, 0, none⟩) := hV 3 _ rfl
  have ha0 := HA0.out
  subst ha0
  clear HA0 hV hYZ hZb hsz0 hrows hne oe0 oe1
  simp only [putAll, Act.put, List.setIfInBounds_toArray, List.set_cons_zero, List.set_cons_succ]
  go_wp2
  go_loopw [14] (fun t wr => ∃ k : Nat, t = .int .i64 (k : Int) ∧ k ≤ l.length ∧ u0_1.heap.size ≤ wr.heap.size ∧ WrR (fun b => R b ∨ (w.heap.size ≤ b ∧ b < wr.heap.size)) 900000 wr g (bs ++ (encI l.length ++ ((l.take k).map tbB).flatten)) ∧ RdS TbR R2 wr (.slice ao l.length cap) l ∧ Mod R w wr) (fun t _ => l.length - (intOf t).toNat)
  case atStart => exact ⟨0, rfl, Nat.zero_le _, Nat.le_refl _, by have hq := (Hx4.out.widen (R' := (fun k => R k ∨ (w.heap.size ≤ k ∧ k < u0_1.heap.size))) (by intro k h1; (try dsimp only at h1 ⊢); (try simp only [false_or] at h1 ⊢); rcases h1 with h1 | h1 <;> first | exact Or.inl h1 | (right; omega)) (Nat.le_refl _)); simpa only [List.take_zero, List.map_nil, List.flatten_nil, List.append_nil] using hq, Hx5.out, Hx6.out⟩
  case round =>
    obtain ⟨k, rfl, hk, hz, hw, hs, hm⟩ := hrel
    have HW2 := Lib.hid hw
    have HS2 := Lib.hid hs
    have HM2 := Lib.hid hm
    clear hw hs hm Hx4 Hx5 Hx6
    obtain ⟨wo, rfl⟩ : ∃ x, x = wr := ⟨_, rfl⟩
    by_cases hlt : k < l.length
    · skip
      obtain ⟨g0, o0, cs, rfl, hrg, hrd, hcs⟩ := HS2.out.at hlt
      have hcl : cs.length = 2 := TbR.len hrd
      have HCL := Lib.hid hcl
      have HAT := Lib.hid (show CellsAt R2 wo g0 (o0 + k * 2) cs from ⟨hrg, hcs⟩)
      have HRD := Lib.hid hrd
      have HOC := Lib.hid (TbR.one hrd)
      clear hcl hcs hrd hrg
      have HE : Hid (bs ++ (encI l.length ++ ((l.take k).map tbB).flatten) ++ tbB l[k] = bs ++ (encI l.length ++ ((l.take (k + 1)).map tbB).flatten)) := Lib.hid (by rw [List.take_succ_eq_append_getElem hlt, List.map_append, List.flatten_append]; simp [List.append_assoc])
      have HLk := Lib.hid (show (bs ++ (encI l.length ++ ((l.take k).map tbB).flatten) ++ tbB l[k]).length ≤ 900000 by rw [HE.out]; exact Nat.le_trans (put_len _ _ _ _ _) HL.out)
      go_upto_region 3 with (fail)
      generalize ha0 : Act.mk _ _ = a0
      have oe12 : a0.eval (.tmp 12) = .slice (some ⟨g0, o0, none⟩) l.length cap := by rw [← ha0]; rfl
      have oe14 : a0.eval (.tmp 14) = .int .i64 ((k : Nat) : Int) := by rw [← ha0]; rfl
      have hsz0 : a0.tmps.size = 23 := by rw [← ha0]; rfl
      have HA0 := Lib.hid ha0
      clear ha0
      refine wp_region_Q 23 hsz0 (by kernel_rfl) (by kernel_rfl) [16, 17, 7, 26] (by kernel_rfl) (by decide) (fun _ => False) (fun _ _ => False) (fun _ _ h => h) [qi (.pointer (some ⟨g0, o0 + k * 2, none⟩)), qi (.agg cs.toArray), qa, qa] ⟨qi_stable, qi_stable, qa_stable, qa_stable, trivial⟩ [] (by kernel_rfl) (by decide) (by kernel_rfl) [⟨2, 3, 90, [.int .i64 0, .slice none 0 0], 0, (fun t => cs)⟩] (by kernel_rfl) (by intro r hr; simp only [List.mem_cons, List.not_mem_nil, or_false] at hr; rcases hr with rfl <;> exact ⟨by kernel_rfl, by kernel_rfl⟩) (by intro r hr; simp only [List.mem_cons, List.not_mem_nil, or_false] at hr; rcases hr with rfl <;> exact ⟨of_decide_eq_true (by kernel_rfl), of_decide_eq_true (by kernel_rfl)⟩) (by intro r hr; simp only [List.mem_cons, List.not_mem_nil, or_false] at hr; rcases hr with rfl <;> exact fun _ _ _ _ => ⟨trivial, trivial⟩) ⟨?_, ?_, ?_, ?_, trivial⟩ ?_
      · refine stepq_env rfl rfl rfl fun Z tr act w' hZ hm hm0 hout hsz hd hub hpre => ?_
        refine qe_run rfl (wanted_none rfl) (ex_idxS (i := k) (s := 2) rfl Try.underlying58 (by kernel_rfl) ((hout 12 (by decide)).trans oe12) ((hout 14 (by decide)).trans oe14) (by omega)) QE.refl ?_
        rfl
      · refine stepq_env rfl rfl rfl fun Z tr act w' hZ hm hm0 hout hsz hd hub hpre => ?_
        have h0 := hd ⟨0, .data⟩ (by simp) rfl _ rfl
        refine qe_run rfl (wanted_none rfl) (ex_loadA rfl Try.underlying90 rfl (off := o0 + k * 2) (cs := cs) (by rw [HCL.out]; kernel_rfl) h0 (fun j u hu => ((HAT.out.mod (Mod.mono (S' := fun k => wo.heap.size ≤ k) hm (fun _ _ h => h.elim (fun h => h.2.elim) (fun h => h))) (by intro k h1 h2; (try dsimp only at h1 h2); (try simp only [false_or] at h1 h2); (first | omega | (have hb := HBR.out k h1; omega) | (have hb := HBR.out k h2; omega) | (have hb := HBT.out k h1; omega) | (have hb := HBT.out k h2; omega) | exact HDJ.out k h1 h2 | exact HDJ.out k h2 h1 | (have hb := HBR.out k h1; have hb2 := HBT.out k h2; omega) | (have hb := HBT.out k h1; have hb2 := HBR.out k h2; omega))))).2 j u hu)) QE.refl ?_
        rfl
      · exact stepq_make rfl rfl ⟨rfl, rfl, by kernel_rfl, by kernel_rfl⟩
      · refine stepq_write rfl rfl rfl ⟨rfl, 7, (.tmp 17), rfl, by decide, rfl, by kernel_rfl, fun Z tr act w' hm hout hsz hd hpre => ?_⟩
        have h1 := hd ⟨1, .data⟩ (by simp) rfl _ rfl
        exact ⟨Nat.zero_le _, (by rw [show act.eval ((.tmp 17)) = _ from h1]; rfl), (by rw [HCL.out]; rfl), HOC.out⟩
      intro u3_0 hr
      have zu3_0 := hr.size
      have Hx7 := Lib.hid (HW2.out.mod hr (by intro k h1 h2; (try dsimp only at h1 h2); (try simp only [false_or] at h1 h2); rcases h1 with h1 | h1 <;> (first | omega | (have hb := HBR.out k h1; omega) | (have hb := HBR.out k h2; omega) | (have hb := HBT.out k h1; omega) | (have hb := HBT.out k h2; omega) | exact HDJ.out k h1 h2 | exact HDJ.out k h2 h1 | (have hb := HBR.out k h1; have hb2 := HBT.out k h2; omega) | (have hb := HBT.out k h1; have hb2 := HBR.out k h2; omega))))
      have Hx8 := Lib.hid (HS2.out.mod hr (by intro k h1 h2; (try dsimp only at h1 h2); (try simp only [false_or] at h1 h2); (first | omega | (have hb := HBR.out k h1; omega) | (have hb := HBR.out k h2; omega) | (have hb := HBT.out k h1; omega) | (have hb := HBT.out k h2; omega) | exact HDJ.out k h1 h2 | exact HDJ.out k h2 h1 | (have hb := HBR.out k h1; have hb2 := HBT.out k h2; omega) | (have hb := HBT.out k h1; have hb2 := HBR.out k h2; omega))))
      have Hx9 := Lib.hid (HM2.out.trans hr (by intro k h1 h2; (try dsimp only at h2 ⊢); (try simp only [false_or] at h2 ⊢); first | exact h2 | omega | (have hb := HBR.out k h2; omega) | (have hb := HBT.out k h2; omega)))
      have Hx10 := Lib.hid (HAT.out.mod hr (by intro k h1 h2; (try dsimp only at h1 h2); (try simp only [false_or] at h1 h2); (first | omega | (have hb := HBR.out k h1; omega) | (have hb := HBR.out k h2; omega) | (have hb := HBT.out k h1; omega) | (have hb := HBT.out k h2; omega) | exact HDJ.out k h1 h2 | exact HDJ.out k h2 h1 | (have hb := HBR.out k h1; have hb2 := HBT.out k h2; omega) | (have hb := HBT.out k h1; have hb2 := HBR.out k h2; omega))))
      have Hx11 := Lib.hid (HRD.out.mod hr (by intro k h1 h2; (try dsimp only at h1 h2); (try simp only [false_or] at h1 h2); (first | omega | (have hb := HBR.out k h1; omega) | (have hb := HBR.out k h2; omega) | (have hb := HBT.out k h1; omega) | (have hb := HBT.out k h2; omega) | exact HDJ.out k h1 h2 | exact HDJ.out k h2 h1 | (have hb := HBR.out k h1; have hb2 := HBT.out k h2; omega) | (have hb := HBT.out k h1; have hb2 := HBR.out k h2; omega))))
      clear HW2 HS2 HM2 HAT HRD
      clear hr
      refine QChain.nil fun vs hl hzz hrows hne => ?_
      obtain ⟨Z, hYZ, hZb, hV⟩ := hzz
      obtain ⟨v0, vs0, rfl, hl0⟩ := list_cons hl
      obtain ⟨v1, vs1, rfl, hl1⟩ := list_cons hl0
      obtain ⟨v2, vs2, rfl, hl2⟩ := list_cons hl1
      obtain ⟨v3, vs3, rfl, hl3⟩ := list_cons hl2
      obtain rfl := list_nil hl3
      clear hl hl0 hl1 hl2 hl3
      obtain ⟨q, fq, hBq, hYq, hCq⟩ := hrows _ (by simp only [List.mem_cons, List.not_mem_nil, or_false]; trivial)
      obtain rfl : v2 = _ := Option.some.inj fq
      (try dsimp only at hBq hYq); (try simp only [false_or] at hBq hYq)
      have zqq := hCq.lt
      have Hx12 := Lib.hid (show Cs u3_0 q (cs : List Value).toArray 90 from hCq)
      clear hCq fq
      have ha0 := HA0.out
      subst ha0
      clear HA0 hV hYZ hZb hsz0 hrows hne oe12 oe14
      simp only [putAll, Act.put, List.setIfInBounds_toArray, List.set_cons_zero, List.set_cons_succ, List.set_nil]
      go_upto_region 4 with (fail)
      generalize ha0 : Act.mk _ _ = a0
      have oe0 : a0.eval (.tmp 0) = .pointer (some ⟨g, 0, none⟩) := by rw [← ha0]; rfl
      have oe2 : a0.eval (.tmp 2) = .func (.func 134) #[] #[] := by rw [← ha0]; rfl
      have oe7 : a0.eval (.tmp 7) = .pointer (some ⟨q, 0, none⟩) := by rw [← ha0]; rfl
      have hsz0 : a0.tmps.size = 23 := by rw [← ha0]; rfl
      have HA0 := Lib.hid ha0
      clear ha0
      refine wp_region_Q 23 hsz0 (by kernel_rfl) (by kernel_rfl) [18, 19, 20, 21] (by kernel_rfl) (by decide) (fun k => (R k) ∨ (w.heap.size ≤ k ∧ k < wo.heap.size)) (fun k j => (k = 0 ∧ ((R j) ∨ (w.heap.size ≤ j ∧ j < wo.heap.size)))) (by intro k j h; (try dsimp only at h ⊢); rcases h with ⟨-, h | h⟩; (exact Or.inl (h)); (exact Or.inr (h))) [qi (.func (.func 134) #[] #[]), qi (.pointer (some ⟨g, 0, none⟩)), qi (.agg cs.toArray), qi (.tuple #[])] ⟨qi_stable, qi_stable, qi_stable, qi_stable, trivial⟩ [3] (by kernel_rfl) (by decide) (by kernel_rfl) [] (by kernel_rfl) (by intro r hr; cases hr) (by intro r hr; cases hr) (by intro r hr; cases hr) ⟨?_, ?_, ?_, ?_, trivial⟩ ?_
      · refine stepq_env rfl rfl rfl fun Z tr act w' hZ hm hm0 hout hsz hd hub hpre => ?_
        refine qe_run rfl (wanted_none rfl) (ex_move rfl ((hout 2 (by decide)).trans oe2)) QE.refl ?_
        rfl
      · refine stepq_env rfl rfl rfl fun Z tr act w' hZ hm hm0 hout hsz hd hub hpre => ?_
        refine qe_run rfl (wanted_none rfl) (ex_move rfl ((hout 0 (by decide)).trans oe0)) QE.refl ?_
        rfl
      · refine stepq_env rfl rfl rfl fun Z tr act w' hZ hm hm0 hout hsz hd hub hpre => ?_
        refine qe_run rfl (wanted_none rfl) (ex_loadA rfl Try.underlying90 rfl (off := 0) (cs := cs) (by rw [HCL.out]; kernel_rfl) ((hout 7 (by decide)).trans oe7) (Cs.whole (Hx12.out.mod hm (by intro h2; (try dsimp only at h2); (try simp only [false_or] at h2); rcases h2 with ⟨h0, h2 | h2⟩ | h2 <;> first | omega | (have hb := HBR.out _ h2; omega) | (have hb := HBT.out _ h2; omega))))) QE.refl ?_
        rfl
      · exact stepq_chain rfl
      intro u4_0 hr
      have zu4_0 := hr.size
      have Hx13 := Lib.hid (Hx7.out.mod hr (by intro k h1 h2; (try dsimp only at h1 h2); (try simp only [false_or] at h1 h2); rcases h1 with h1 | h1 <;> (first | omega | (have hb := HBR.out k h1; omega) | (have hb := HBR.out k h2; omega) | (have hb := HBT.out k h1; omega) | (have hb := HBT.out k h2; omega) | exact HDJ.out k h1 h2 | exact HDJ.out k h2 h1 | (have hb := HBR.out k h1; have hb2 := HBT.out k h2; omega) | (have hb := HBT.out k h1; have hb2 := HBR.out k h2; omega))))
      have Hx14 := Lib.hid (Hx8.out.mod hr (by intro k h1 h2; (try dsimp only at h1 h2); (try simp only [false_or] at h1 h2); (first | omega | (have hb := HBR.out k h1; omega) | (have hb := HBR.out k h2; omega) | (have hb := HBT.out k h1; omega) | (have hb := HBT.out k h2; omega) | exact HDJ.out k h1 h2 | exact HDJ.out k h2 h1 | (have hb := HBR.out k h1; have hb2 := HBT.out k h2; omega) | (have hb := HBT.out k h1; have hb2 := HBR.out k h2; omega))))
      have Hx15 := Lib.hid (Hx9.out.trans hr (by intro k h1 h2; (try dsimp only at h2 ⊢); (try simp only [false_or] at h2 ⊢); first | exact h2 | omega | (have hb := HBR.out k h2; omega) | (have hb := HBT.out k h2; omega)))
      have Hx16 := Lib.hid (Hx10.out.mod hr (by intro k h1 h2; (try dsimp only at h1 h2); (try simp only [false_or] at h1 h2); (first | omega | (have hb := HBR.out k h1; omega) | (have hb := HBR.out k h2; omega) | (have hb := HBT.out k h1; omega) | (have hb := HBT.out k h2; omega) | exact HDJ.out k h1 h2 | exact HDJ.out k h2 h1 | (have hb := HBR.out k h1; have hb2 := HBT.out k h2; omega) | (have hb := HBT.out k h1; have hb2 := HBR.out k h2; omega))))
      have Hx17 := Lib.hid (Hx11.out.mod hr (by intro k h1 h2; (try dsimp only at h1 h2); (try simp only [false_or] at h1 h2); (first | omega | (have hb := HBR.out k h1; omega) | (have hb := HBR.out k h2; omega) | (have hb := HBT.out k h1; omega) | (have hb := HBT.out k h2; omega) | exact HDJ.out k h1 h2 | exact HDJ.out k h2 h1 | (have hb := HBR.out k h1; have hb2 := HBT.out k h2; omega) | (have hb := HBT.out k h1; have hb2 := HBR.out k h2; omega))))
      have Hx18 := Lib.hid (Hx12.out.mod hr (by intro h2; (try dsimp only at h2); (try simp only [false_or] at h2); omega))
      clear Hx7 Hx8 Hx9 Hx10 Hx11 Hx12
      clear hr
      refine QChain.cons rfl fun Z act hYZ hZ hout hsz hd hpre => ?_
      have h0 := hd ⟨0, .data⟩ (by simp) rfl _ rfl
      have h1 := hd ⟨1, .data⟩ (by simp) rfl _ rfl
      have h2 := hd ⟨2, .data⟩ (by simp) rfl _ rfl
      have ea19 : act.eval (.tmp 19) = .pointer (some ⟨g, 0, none⟩) := h1
      have ea20 : act.eval (.tmp 20) = .agg cs.toArray := h2
      refine qc_call (args := #[.pointer (some ⟨g, 0, none⟩), .agg cs.toArray]) rfl (wanted_none rfl) (by rw [ex_callV rfl h0 Try.func134 (by kernel_rfl) (by kernel_rfl)]; exact congrArg (fun z => Result.ok (Next.enter _ z) _) (by simp only [List.map_toArray, List.map_cons, List.map_nil, ea19, ea20]; try rfl)) (PutTb_Q _ _ _ _ _ _ _ Hx13.out (by intro k h1; (try dsimp only at h1); rcases h1 with h1 | h1 <;> (first | omega | (have hb := HBR.out k h1; omega) | (have hb := HBT.out k h1; omega))) Hx17.out (by intro k h1; (try dsimp only at h1); (first | omega | (have hb := HBR.out k h1; omega) | (have hb := HBT.out k h1; omega))) (by intro k h1 h2; (try dsimp only at h1 h2); (try simp only [false_or] at h1 h2); rcases h1 with h1 | h1 <;> (first | omega | (have hb := HBR.out k h1; omega) | (have hb := HBR.out k h2; omega) | (have hb := HBT.out k h1; omega) | (have hb := HBT.out k h2; omega) | exact HDJ.out k h1 h2 | exact HDJ.out k h2 h1 | (have hb := HBR.out k h1; have hb2 := HBT.out k h2; omega) | (have hb := HBT.out k h1; have hb2 := HBR.out k h2; omega))) HLk.out) ?_
      rintro e u4_1a ⟨rfl, qwr, hm⟩
      have zu4_1a := hm.size
      refine ⟨_, rfl, hm.mono (by intro k hk h; (try dsimp only at h ⊢); rcases h with h | h <;> first | omega | exact Or.inl ⟨(by have hb := HBR.out k h; omega), ⟨rfl, Or.inl h⟩⟩), (fun _ => rfl), ?_⟩
      intro u4_1 hr
      have zu4_1 := hr.size
      have Hx19 := Lib.hid ((qwr.widen (R' := (fun k => (R k) ∨ (w.heap.size ≤ k ∧ k < wo.heap.size) ∨ (u4_0.heap.size ≤ k ∧ k < u4_1a.heap.size))) (by intro k h1; (try unfold New at h1); (try dsimp only at h1 ⊢); (try simp only [false_or] at h1 ⊢); first | exact h1 | (simp only [or_assoc] at h1 ⊢; first | exact h1 | (rcases h1 with h1 | h1 <;> first | (left; exact h1) | (right; omega) | omega))) (Nat.le_refl _)).mod hr (by intro k h1 h2; (try dsimp only at h1 h2); (try simp only [false_or] at h1 h2); rcases h1 with h1 | h1 | h1 <;> (first | omega | (have hb := HBR.out k h1; omega) | (have hb := HBR.out k h2; omega) | (have hb := HBT.out k h1; omega) | (have hb := HBT.out k h2; omega) | exact HDJ.out k h1 h2 | exact HDJ.out k h2 h1 | (have hb := HBR.out k h1; have hb2 := HBT.out k h2; omega) | (have hb := HBT.out k h1; have hb2 := HBR.out k h2; omega))))
      have hmr := hm.two hr
      have Hx20 := Lib.hid (Hx14.out.mod hmr (by intro k h1 h2; (try dsimp only at h1 h2); (try simp only [false_or] at h1 h2); rcases h2 with (h2 | h2) | h2 <;> (first | omega | (have hb := HBR.out k h1; omega) | (have hb := HBR.out k h2; omega) | (have hb := HBT.out k h1; omega) | (have hb := HBT.out k h2; omega) | exact HDJ.out k h1 h2 | exact HDJ.out k h2 h1 | (have hb := HBR.out k h1; have hb2 := HBT.out k h2; omega) | (have hb := HBT.out k h1; have hb2 := HBR.out k h2; omega))))
      have Hx21 := Lib.hid (Hx15.out.trans hmr (by intro k h1 h2; (try dsimp only at h2 ⊢); (try simp only [false_or] at h2 ⊢); rcases h2 with (h2 | h2) | h2 <;> first | exact h2 | omega | (have hb := HBR.out k h2; omega) | (have hb := HBT.out k h2; omega)))
      have Hx22 := Lib.hid (Hx16.out.mod hmr (by intro k h1 h2; (try dsimp only at h1 h2); (try simp only [false_or] at h1 h2); rcases h2 with (h2 | h2) | h2 <;> (first | omega | (have hb := HBR.out k h1; omega) | (have hb := HBR.out k h2; omega) | (have hb := HBT.out k h1; omega) | (have hb := HBT.out k h2; omega) | exact HDJ.out k h1 h2 | exact HDJ.out k h2 h1 | (have hb := HBR.out k h1; have hb2 := HBT.out k h2; omega) | (have hb := HBT.out k h1; have hb2 := HBR.out k h2; omega))))
      have Hx23 := Lib.hid (Hx17.out.mod hmr (by intro k h1 h2; (try dsimp only at h1 h2); (try simp only [false_or] at h1 h2); rcases h2 with (h2 | h2) | h2 <;> (first | omega | (have hb := HBR.out k h1; omega) | (have hb := HBR.out k h2; omega) | (have hb := HBT.out k h1; omega) | (have hb := HBT.out k h2; omega) | exact HDJ.out k h1 h2 | exact HDJ.out k h2 h1 | (have hb := HBR.out k h1; have hb2 := HBT.out k h2; omega) | (have hb := HBT.out k h1; have hb2 := HBR.out k h2; omega))))
      have Hx24 := Lib.hid (Hx18.out.mod hmr (by intro h2; (try dsimp only at h2); (try simp only [false_or] at h2); rcases h2 with (h2 | h2) | h2 <;> first | omega | (have hb := HBR.out _ h2; omega) | (have hb := HBT.out _ h2; omega)))
      clear Hx14 Hx15 Hx16 Hx17 Hx18
      clear hmr
      clear hm hr hYZ hZ hout hsz hd hpre qwr Hx13 ea19 ea20 h0 h1 h2
      refine QChain.nil fun vs hl hzz hrows hne => ?_
      obtain ⟨Z, hYZ, hZb, hV⟩ := hzz
      obtain ⟨v0, vs0, rfl, hl0⟩ := list_cons hl
      obtain ⟨v1, vs1, rfl, hl1⟩ := list_cons hl0
      obtain ⟨v2, vs2, rfl, hl2⟩ := list_cons hl1
      obtain ⟨v3, vs3, rfl, hl3⟩ := list_cons hl2
      obtain rfl := list_nil hl3
      clear hl hl0 hl1 hl2 hl3
      obtain rfl : v0 = .func (.func 134) #[] #[] := hV 0 _ rfl
      obtain rfl : v1 = .pointer (some ⟨g, 0, none⟩) := hV 1 _ rfl
      obtain rfl : v3 = .tuple #[] := hV 3 _ rfl
      have ha0 := HA0.out
      subst ha0
      clear HA0 hV hYZ hZb hsz0 hrows hne oe0 oe2 oe7
      simp only [putAll, Act.put, List.setIfInBounds_toArray, List.set_cons_zero, List.set_cons_succ]
      have hq := Hx19.out
      rw [HE.out] at hq
      have HQ := Lib.hid hq
      clear hq
      go_wp2
      go_roundw
      case rel => exact ⟨k + 1, by go_num, by omega, by omega, (HQ.out.widen (by intro b h1; (try dsimp only at h1 ⊢); rcases h1 with h1 | h1 | h1 <;> first | exact Or.inl h1 | (right; omega)) (Nat.le_refl _)), Hx20.out, Hx21.out⟩
      case measure => simp [intOf]; omega
    · have hkk : k = l.length := by omega
      subst hkk
      go_wp2
      go_end0
      have hq := HW2.out
      rw [List.take_length] at hq
      exact ⟨rfl, hq, HM2.out⟩
set_option maxHeartbeats 4000000 in
theorem PutOp_Q : Puts OpR 132 opB := by
  intro R R2 g bs cs x w hW hB hx hB2 hD hl
  obtain ⟨v_pl, rfl, hok, hs0⟩ := hx
  have HS0 := Lib.hid hs0
  clear hs0
  have HW := Lib.hid hW
  have HBR := Lib.hid hB
  have HBT := Lib.hid hB2
  have HDJ := Lib.hid hD
  have HOK := Lib.hid hok
  have HL := Lib.hid hl
  clear hW hB hB2 hD hl hok
  unfold opB at HL
  go_enter Try.func132, Try.ntmps132
  go_upto_region 1 with (fail)
  obtain ⟨w1, hw1⟩ : ∃ zz, zz = (w.alloc (.cells (x.cells v_pl : List Value).toArray 87)) := ⟨_, rfl⟩
  change Code.wp _ _ _ _ (w.alloc (.cells (x.cells v_pl : List Value).toArray 87))
  rw [← hw1]
  have HB3 := Lib.hid (show Cs w1 (w.heap.size) (x.cells v_pl : List Value).toArray 87 by rw [hw1]; exact Cs.new _ _ _)
  have hm : Mod (fun _ => False) w w1 := by rw [hw1]; exact (Mod.refl _ _).alloc _
  have HM0 := Lib.hid (show Mod (fun k => (R k)) w w1 from hm.mono (fun _ _ h => h.elim))
  have hs1 : w1.heap.size = w.heap.size + 1 := by rw [hw1]; simp
  have Hx1 := Lib.hid (HW.out.mod hm (fun _ _ h => h))
  clear HW
  have Hx2 := Lib.hid (HS0.out.mod hm (fun _ _ h => h))
  clear HS0
  clear hw1 hm
  go_upto_region 1 with (fail)
  generalize ha0 : Act.mk _ _ = a0
  have oe0 : a0.eval (.tmp 0) = .pointer (some ⟨g, 0, none⟩) := by rw [← ha0]; rfl
  have oe3 : a0.eval (.tmp 3) = .pointer (some ⟨w.heap.size, 0, none⟩) := by rw [← ha0]; rfl
  have hsz0 : a0.tmps.size = 14 := by rw [← ha0]; rfl
  have HA0 := Lib.hid ha0
  clear ha0
  refine wp_region_Q 14 hsz0 (by kernel_rfl) (by kernel_rfl) [4, 5, 6, 7, 8, 9, 10, 11, 12, 13] (by kernel_rfl) (by decide) (fun k => (R k)) (fun k j => (k = 0 ∧ ((R j))) ∨ (k = 1 ∧ ((R j))) ∨ (k = 2 ∧ ((R j)))) (by intro k j h; (try dsimp only at h ⊢); rcases h with ⟨-, h⟩ | ⟨-, h⟩ | ⟨-, h⟩; (exact h); (exact h); (exact h)) [qi (.pointer (some ⟨g, 0, none⟩)), qi (.pointer (some ⟨w.heap.size, 0, none⟩)), qi (.int .i64 x.ix), qi (.pointer (some ⟨g, 0, none⟩)), qi (.pointer (some ⟨w.heap.size, 1, none⟩)), qi (v_pl), qi (.pointer (some ⟨g, 0, none⟩)), qi (.pointer (some ⟨w.heap.size, 2, none⟩)), qi (hv x.nc), qi (.pointer (some ⟨g, 0, none⟩))] ⟨qi_stable, qi_stable, qi_stable, qi_stable, qi_stable, qi_stable, qi_stable, qi_stable, qi_stable, qi_stable, trivial⟩ [3, 6, 9] (by kernel_rfl) (by decide) (by kernel_rfl) [] (by kernel_rfl) (by intro r hr; cases hr) (by intro r hr; cases hr) (by intro r hr; cases hr) ⟨?_, ?_, ?_, ?_, ?_, ?_, ?_, ?_, ?_, ?_, trivial⟩ ?_
  · refine stepq_env rfl rfl rfl fun Z tr act w' hZ hm hm0 hout hsz hd hub hpre => ?_
    refine qe_run rfl (wanted_none rfl) (ex_move rfl ((hout 0 (by decide)).trans oe0)) QE.refl ?_
    rfl
  · refine stepq_env rfl rfl rfl fun Z tr act w' hZ hm hm0 hout hsz hd hub hpre => ?_
    refine qe_run rfl (wanted_none rfl) (ex_field rfl Try.underlying87 rfl (by kernel_rfl) ((hout 3 (by decide)).trans oe3)) QE.refl ?_
    rfl
  · refine stepq_env rfl rfl rfl fun Z tr act w' hZ hm hm0 hout hsz hd hub hpre => ?_
    have h1 := hd ⟨1, .data⟩ (by simp) rfl _ rfl
    refine qe_run rfl (wanted_none rfl) (ex_load1 rfl Try.underlying3 rfl h1 (Cs.hd1 (HB3.out.mod hm (by intro h2; (try dsimp only at h2); (try simp only [false_or] at h2); rcases h2 with ⟨h0, h2⟩ | h2 <;> first | omega | (have hb := HBR.out _ h2; omega) | (have hb := HBT.out _ h2; omega))) rfl)) QE.refl ?_
    rfl
  · exact stepq_chain rfl
  · refine stepq_env rfl rfl rfl fun Z tr act w' hZ hm hm0 hout hsz hd hub hpre => ?_
    refine qe_run rfl (wanted_none rfl) (ex_field rfl Try.underlying87 rfl (by kernel_rfl) ((hout 3 (by decide)).trans oe3)) QE.refl ?_
    rfl
  · refine stepq_env rfl rfl rfl fun Z tr act w' hZ hm hm0 hout hsz hd hub hpre => ?_
    have h4 := hd ⟨4, .data⟩ (by simp) rfl _ rfl
    refine qe_run rfl (wanted_none rfl) (ex_load1 rfl Try.underlying38 rfl h4 (Cs.hd1 (HB3.out.mod hm (by intro h2; (try dsimp only at h2); (try simp only [false_or] at h2); rcases h2 with ⟨h0, h2⟩ | h2 <;> first | omega | (have hb := HBR.out _ h2; omega) | (have hb := HBT.out _ h2; omega))) rfl)) QE.refl ?_
    rfl
  · exact stepq_chain rfl
  · refine stepq_env rfl rfl rfl fun Z tr act w' hZ hm hm0 hout hsz hd hub hpre => ?_
    refine qe_run rfl (wanted_none rfl) (ex_field rfl Try.underlying87 rfl (by kernel_rfl) ((hout 3 (by decide)).trans oe3)) QE.refl ?_
    rfl
  · refine stepq_env rfl rfl rfl fun Z tr act w' hZ hm hm0 hout hsz hd hub hpre => ?_
    have h7 := hd ⟨7, .data⟩ (by simp) rfl _ rfl
    refine qe_run rfl (wanted_none rfl) (ex_loadA rfl Try.underlying25 rfl (off := 2) (cs := x.nc.map bv) (by rw [List.length_map, HOK.out.2.1]; exact size_hash) h7 (Cs.tlA (HB3.out.mod hm (by intro h2; (try dsimp only at h2); (try simp only [false_or] at h2); rcases h2 with ⟨h0, h2⟩ | h2 <;> first | omega | (have hb := HBR.out _ h2; omega) | (have hb := HBT.out _ h2; omega))) rfl)) QE.refl ?_
    rfl
  · exact stepq_chain rfl
  intro u1_0 hr
  have zu1_0 := hr.size
  have Hx3 := Lib.hid (Hx1.out.mod hr (by intro k h1 h2; (try dsimp only at h1 h2); (try simp only [false_or] at h1 h2); (first | omega | (have hb := HBR.out k h1; omega) | (have hb := HBR.out k h2; omega) | (have hb := HBT.out k h1; omega) | (have hb := HBT.out k h2; omega) | exact HDJ.out k h1 h2 | exact HDJ.out k h2 h1 | (have hb := HBR.out k h1; have hb2 := HBT.out k h2; omega) | (have hb := HBT.out k h1; have hb2 := HBR.out k h2; omega))))
  have Hx4 := Lib.hid (Hx2.out.mod hr (by intro k h1 h2; (try dsimp only at h1 h2); (try simp only [false_or] at h1 h2); (first | omega | (have hb := HBR.out k h1; omega) | (have hb := HBR.out k h2; omega) | (have hb := HBT.out k h1; omega) | (have hb := HBT.out k h2; omega) | exact HDJ.out k h1 h2 | exact HDJ.out k h2 h1 | (have hb := HBR.out k h1; have hb2 := HBT.out k h2; omega) | (have hb := HBT.out k h1; have hb2 := HBR.out k h2; omega))))
  have Hx5 := Lib.hid (HB3.out.mod hr (by intro h2; (try dsimp only at h2); (try simp only [false_or] at h2); omega))
  have Hx6 := Lib.hid (HM0.out.trans hr (by intro k h1 h2; (try dsimp only at h2 ⊢); (try simp only [false_or] at h2 ⊢); first | exact h2 | omega | (have hb := HBR.out k h2; omega) | (have hb := HBT.out k h2; omega)))
  clear Hx1 Hx2 HB3 HM0
  clear hr
  refine QChain.cons rfl fun Z act hYZ hZ hout hsz hd hpre => ?_
  have h0 := hd ⟨0, .data⟩ (by simp) rfl _ rfl
  have h2 := hd ⟨2, .data⟩ (by simp) rfl _ rfl
  have ea4 : act.eval (.tmp 4) = .pointer (some ⟨g, 0, none⟩) := h0
  have ea6 : act.eval (.tmp 6) = .int .i64 x.ix := h2
  refine qc_call (args := #[.pointer (some ⟨g, 0, none⟩), .int .i64 x.ix]) rfl (wanted_none rfl) (by rw [ex_callF rfl Try.func64 (by kernel_rfl) (by kernel_rfl)]; exact congrArg (fun z => Result.ok (Next.enter _ z) _) (by simp only [List.map_toArray, List.map_cons, List.map_nil, ea4, ea6]; try rfl)) (WInt_Q Hx3.out HOK.out.1 (by have := HL.out; simp only [List.length_append] at this ⊢; omega)) ?_
  rintro e u1_1a ⟨rfl, qwr, hm⟩
  have zu1_1a := hm.size
  refine ⟨_, rfl, hm.mono (by intro k hk h; (try dsimp only at h ⊢); first | omega | exact Or.inl ⟨(by have hb := HBR.out k h; omega), Or.inl ⟨rfl, h⟩⟩), (fun _ => rfl), ?_⟩
  intro u1_1 hr
  have zu1_1 := hr.size
  have Hx7 := Lib.hid ((qwr.widen (R' := (fun k => (R k) ∨ (u1_0.heap.size ≤ k ∧ k < u1_1a.heap.size))) (by intro k h1; (try unfold New at h1); (try dsimp only at h1 ⊢); (try simp only [false_or] at h1 ⊢); first | exact h1 | (simp only [or_assoc] at h1 ⊢; first | exact h1 | (rcases h1 with h1 | h1 <;> first | (left; exact h1) | (right; omega) | omega))) (Nat.le_refl _)).mod hr (by intro k h1 h2; (try dsimp only at h1 h2); (try simp only [false_or] at h1 h2); rcases h1 with h1 | h1 <;> (first | omega | (have hb := HBR.out k h1; omega) | (have hb := HBR.out k h2; omega) | (have hb := HBT.out k h1; omega) | (have hb := HBT.out k h2; omega) | exact HDJ.out k h1 h2 | exact HDJ.out k h2 h1 | (have hb := HBR.out k h1; have hb2 := HBT.out k h2; omega) | (have hb := HBT.out k h1; have hb2 := HBR.out k h2; omega))))
  have hmr := hm.two hr
  have Hx8 := Lib.hid (Hx4.out.mod hmr (by intro k h1 h2; (try dsimp only at h1 h2); (try simp only [false_or] at h1 h2); rcases h2 with h2 | h2 <;> (first | omega | (have hb := HBR.out k h1; omega) | (have hb := HBR.out k h2; omega) | (have hb := HBT.out k h1; omega) | (have hb := HBT.out k h2; omega) | exact HDJ.out k h1 h2 | exact HDJ.out k h2 h1 | (have hb := HBR.out k h1; have hb2 := HBT.out k h2; omega) | (have hb := HBT.out k h1; have hb2 := HBR.out k h2; omega))))
  have Hx9 := Lib.hid (Hx5.out.mod hmr (by intro h2; (try dsimp only at h2); (try simp only [false_or] at h2); rcases h2 with h2 | h2 <;> first | omega | (have hb := HBR.out _ h2; omega) | (have hb := HBT.out _ h2; omega)))
  have Hx10 := Lib.hid (Hx6.out.trans hmr (by intro k h1 h2; (try dsimp only at h2 ⊢); (try simp only [false_or] at h2 ⊢); rcases h2 with h2 | h2 <;> first | exact h2 | omega | (have hb := HBR.out k h2; omega) | (have hb := HBT.out k h2; omega)))
  clear Hx4 Hx5 Hx6
  clear hmr
  clear hm hr hYZ hZ hout hsz hd hpre qwr Hx3 ea4 ea6 h0 h2
  refine QChain.cons rfl fun Z act hYZ hZ hout hsz hd hpre => ?_
  have h3 := hd ⟨3, .data⟩ (by simp) rfl _ rfl
  have h5 := hd ⟨5, .data⟩ (by simp) rfl _ rfl
  have ea7 : act.eval (.tmp 7) = .pointer (some ⟨g, 0, none⟩) := h3
  have ea9 : act.eval (.tmp 9) = v_pl := h5
  refine qc_call (args := #[.pointer (some ⟨g, 0, none⟩), v_pl]) rfl (wanted_none rfl) (by rw [ex_callF rfl Try.func107 (by kernel_rfl) (by kernel_rfl)]; exact congrArg (fun z => Result.ok (Next.enter _ z) _) (by simp only [List.map_toArray, List.map_cons, List.map_nil, ea7, ea9]; try rfl)) (WRow_Q Hx7.out Hx8.out (by intro k h1 h2; (try dsimp only at h1 h2); (try simp only [false_or] at h1 h2); rcases h2 with h2 | h2 <;> (first | omega | (have hb := HBR.out k h1; omega) | (have hb := HBR.out k h2; omega) | (have hb := HBT.out k h1; omega) | (have hb := HBT.out k h2; omega) | exact HDJ.out k h1 h2 | exact HDJ.out k h2 h1 | (have hb := HBR.out k h1; have hb2 := HBT.out k h2; omega) | (have hb := HBT.out k h1; have hb2 := HBR.out k h2; omega))) (by have := HL.out; simp only [List.length_append] at this ⊢; omega)) ?_
  rintro e u1_2a ⟨rfl, qwr, hm⟩
  have zu1_2a := hm.size
  refine ⟨_, rfl, hm.mono (by intro k hk h; (try dsimp only at h ⊢); rcases h with h | h <;> first | omega | exact Or.inl ⟨(by have hb := HBR.out k h; omega), Or.inr (Or.inl ⟨rfl, h⟩)⟩), (fun _ => rfl), ?_⟩
  intro u1_2 hr
  have zu1_2 := hr.size
  have Hx11 := Lib.hid ((qwr.widen (R' := (fun k => (R k) ∨ (u1_0.heap.size ≤ k ∧ k < u1_1a.heap.size) ∨ (u1_1.heap.size ≤ k ∧ k < u1_2a.heap.size))) (by intro k h1; (try unfold New at h1); (try dsimp only at h1 ⊢); (try simp only [false_or] at h1 ⊢); first | exact h1 | (simp only [or_assoc] at h1 ⊢; first | exact h1 | (rcases h1 with h1 | h1 <;> first | (left; exact h1) | (right; omega) | omega))) (Nat.le_refl _)).mod hr (by intro k h1 h2; (try dsimp only at h1 h2); (try simp only [false_or] at h1 h2); rcases h1 with h1 | h1 | h1 <;> (first | omega | (have hb := HBR.out k h1; omega) | (have hb := HBR.out k h2; omega) | (have hb := HBT.out k h1; omega) | (have hb := HBT.out k h2; omega) | exact HDJ.out k h1 h2 | exact HDJ.out k h2 h1 | (have hb := HBR.out k h1; have hb2 := HBT.out k h2; omega) | (have hb := HBT.out k h1; have hb2 := HBR.out k h2; omega))))
  have hmr := hm.two hr
  have Hx12 := Lib.hid (Hx8.out.mod hmr (by intro k h1 h2; (try dsimp only at h1 h2); (try simp only [false_or] at h1 h2); rcases h2 with (h2 | h2) | h2 <;> (first | omega | (have hb := HBR.out k h1; omega) | (have hb := HBR.out k h2; omega) | (have hb := HBT.out k h1; omega) | (have hb := HBT.out k h2; omega) | exact HDJ.out k h1 h2 | exact HDJ.out k h2 h1 | (have hb := HBR.out k h1; have hb2 := HBT.out k h2; omega) | (have hb := HBT.out k h1; have hb2 := HBR.out k h2; omega))))
  have Hx13 := Lib.hid (Hx9.out.mod hmr (by intro h2; (try dsimp only at h2); (try simp only [false_or] at h2); rcases h2 with (h2 | h2) | h2 <;> first | omega | (have hb := HBR.out _ h2; omega) | (have hb := HBT.out _ h2; omega)))
  have Hx14 := Lib.hid (Hx10.out.trans hmr (by intro k h1 h2; (try dsimp only at h2 ⊢); (try simp only [false_or] at h2 ⊢); rcases h2 with (h2 | h2) | h2 <;> first | exact h2 | omega | (have hb := HBR.out k h2; omega) | (have hb := HBT.out k h2; omega)))
  clear Hx8 Hx9 Hx10
  clear hmr
  clear hm hr hYZ hZ hout hsz hd hpre qwr Hx7 ea7 ea9 h3 h5
  refine QChain.cons rfl fun Z act hYZ hZ hout hsz hd hpre => ?_
  have h6 := hd ⟨6, .data⟩ (by simp) rfl _ rfl
  have h8 := hd ⟨8, .data⟩ (by simp) rfl _ rfl
  have ea10 : act.eval (.tmp 10) = .pointer (some ⟨g, 0, none⟩) := h6
  have ea12 : act.eval (.tmp 12) = hv x.nc := h8
  refine qc_call (args := #[.pointer (some ⟨g, 0, none⟩), hv x.nc]) rfl (wanted_none rfl) (by rw [ex_callF rfl Try.func66 (by kernel_rfl) (by kernel_rfl)]; exact congrArg (fun z => Result.ok (Next.enter _ z) _) (by simp only [List.map_toArray, List.map_cons, List.map_nil, ea10, ea12]; try rfl)) (WHash_Q Hx11.out HOK.out.2 (by have := HL.out; simp only [List.length_append] at this ⊢; omega)) ?_
  rintro e u1_3a ⟨rfl, qwr, hm⟩
  have zu1_3a := hm.size
  refine ⟨_, rfl, hm.mono (by intro k hk h; (try dsimp only at h ⊢); rcases h with h | h | h <;> first | omega | exact Or.inl ⟨(by have hb := HBR.out k h; omega), Or.inr (Or.inr (⟨rfl, h⟩))⟩), (fun _ => rfl), ?_⟩
  intro u1_3 hr
  have zu1_3 := hr.size
  have Hx15 := Lib.hid ((qwr.widen (R' := (fun k => (R k) ∨ (u1_0.heap.size ≤ k ∧ k < u1_1a.heap.size) ∨ (u1_1.heap.size ≤ k ∧ k < u1_2a.heap.size) ∨ (u1_2.heap.size ≤ k ∧ k < u1_3a.heap.size))) (by intro k h1; (try unfold New at h1); (try dsimp only at h1 ⊢); (try simp only [false_or] at h1 ⊢); first | exact h1 | (simp only [or_assoc] at h1 ⊢; first | exact h1 | (rcases h1 with h1 | h1 <;> first | (left; exact h1) | (right; omega) | omega))) (Nat.le_refl _)).mod hr (by intro k h1 h2; (try dsimp only at h1 h2); (try simp only [false_or] at h1 h2); rcases h1 with h1 | h1 | h1 | h1 <;> (first | omega | (have hb := HBR.out k h1; omega) | (have hb := HBR.out k h2; omega) | (have hb := HBT.out k h1; omega) | (have hb := HBT.out k h2; omega) | exact HDJ.out k h1 h2 | exact HDJ.out k h2 h1 | (have hb := HBR.out k h1; have hb2 := HBT.out k h2; omega) | (have hb := HBT.out k h1; have hb2 := HBR.out k h2; omega))))
  have hmr := hm.two hr
  have Hx16 := Lib.hid (Hx12.out.mod hmr (by intro k h1 h2; (try dsimp only at h1 h2); (try simp only [false_or] at h1 h2); rcases h2 with (h2 | h2 | h2) | h2 <;> (first | omega | (have hb := HBR.out k h1; omega) | (have hb := HBR.out k h2; omega) | (have hb := HBT.out k h1; omega) | (have hb := HBT.out k h2; omega) | exact HDJ.out k h1 h2 | exact HDJ.out k h2 h1 | (have hb := HBR.out k h1; have hb2 := HBT.out k h2; omega) | (have hb := HBT.out k h1; have hb2 := HBR.out k h2; omega))))
  have Hx17 := Lib.hid (Hx13.out.mod hmr (by intro h2; (try dsimp only at h2); (try simp only [false_or] at h2); rcases h2 with (h2 | h2 | h2) | h2 <;> first | omega | (have hb := HBR.out _ h2; omega) | (have hb := HBT.out _ h2; omega)))
  have Hx18 := Lib.hid (Hx14.out.trans hmr (by intro k h1 h2; (try dsimp only at h2 ⊢); (try simp only [false_or] at h2 ⊢); rcases h2 with (h2 | h2 | h2) | h2 <;> first | exact h2 | omega | (have hb := HBR.out k h2; omega) | (have hb := HBT.out k h2; omega)))
  clear Hx12 Hx13 Hx14
  clear hmr
  clear hm hr hYZ hZ hout hsz hd hpre qwr Hx11 ea10 ea12 h6 h8
  refine QChain.nil fun vs hl hzz hrows hne => ?_
  obtain ⟨Z, hYZ, hZb, hV⟩ := hzz
  obtain ⟨v0, vs0, rfl, hl0⟩ := list_cons hl
  obtain ⟨v1, vs1, rfl, hl1⟩ := list_cons hl0
  obtain ⟨v2, vs2, rfl, hl2⟩ := list_cons hl1
  obtain ⟨v3, vs3, rfl, hl3⟩ := list_cons hl2
  obtain ⟨v4, vs4, rfl, hl4⟩ := list_cons hl3
  obtain ⟨v5, vs5, rfl, hl5⟩ := list_cons hl4
  obtain ⟨v6, vs6, rfl, hl6⟩ := list_cons hl5
  obtain ⟨v7, vs7, rfl, hl7⟩ := list_cons hl6
  obtain ⟨v8, vs8, rfl, hl8⟩ := list_cons hl7
  obtain ⟨v9, vs9, rfl, hl9⟩ := list_cons hl8
  obtain rfl := list_nil hl9
  clear hl hl0 hl1 hl2 hl3 hl4 hl5 hl6 hl7 hl8 hl9
  obtain rfl : v0 = .pointer (some ⟨g, 0, none⟩) := hV 0 _ rfl
  obtain rfl : v3 = .pointer (some ⟨g, 0, none⟩) := hV 3 _ rfl
  obtain rfl : v6 = .pointer (some ⟨g, 0, none⟩) := hV 6 _ rfl
  obtain rfl : v9 = .pointer (some ⟨g, 0, none⟩) := hV 9 _ rfl
  have ha0 := HA0.out
  subst ha0
  clear HA0 hV hYZ hZb hsz0 hrows hne oe0 oe3
  simp only [putAll, Act.put, List.setIfInBounds_toArray, List.set_cons_zero, List.set_cons_succ]
  go_wp2
  go_end0
  have hq := (Hx15.out.widen (R' := (fun k => R k ∨ New w u1_3 k)) (by intro k h1; (try dsimp only at h1 ⊢); (try simp only [false_or] at h1 ⊢); rcases h1 with h1 | h1 | h1 | h1 <;> first | exact Or.inl h1 | (right; unfold New; omega)) (Nat.le_refl _))
  simp only [List.append_assoc] at hq
  exact ⟨rfl, by simpa only [opB, List.append_assoc] using hq, Hx18.out⟩
set_option maxHeartbeats 4000000 in
theorem PutList_Op : PutsL OpR 131 132 opB := by
  intro R R2 g bs v l w hW hB hs hB2 hD hl
  obtain ⟨ao, cap, rfl⟩ := hs.shape
  have hb64 : l.length ≤ maxLen := hs.bd
  rw [maxLen_val] at hb64
  have HI64 := Lib.hid (show I64 (l.length : Int) by unfold I64; omega)
  have HW := Lib.hid hW
  have HS := Lib.hid hs
  have HBR := Lib.hid hB
  have HBT := Lib.hid hB2
  have HDJ := Lib.hid hD
  have HL := Lib.hid hl
  clear hW hB hs hB2 hD hl
  unfold listB at HL
  go_enter Try.func131, Try.ntmps131
  go_upto_region 0 with (fail)
  have HM0 := Lib.hid (Mod.refl (fun k => (R k)) w)
  go_upto_region 0 with (fail)
  generalize ha0 : Act.mk _ _ = a0
  have oe0 : a0.eval (.tmp 0) = .pointer (some ⟨g, 0, none⟩) := by rw [← ha0]; rfl
  have oe1 : a0.eval (.tmp 1) = .slice ao l.length cap := by rw [← ha0]; rfl
  have hsz0 : a0.tmps.size = 23 := by rw [← ha0]; rfl
  have HA0 := Lib.hid ha0
  clear ha0
  refine wp_region_Q 23 hsz0 (by kernel_rfl) (by kernel_rfl) [8, 9, 10, 11] (by kernel_rfl) (by decide) (fun k => (R k)) (fun k j => (k = 0 ∧ ((R j)))) (by intro k j h; (try dsimp only at h ⊢); rcases h with ⟨-, h⟩; (exact h)) [qi (.pointer (some ⟨g, 0, none⟩)), qi (.slice ao l.length cap), qi (.int .i64 l.length), qi (.pointer (some ⟨g, 0, none⟩))] ⟨qi_stable, qi_stable, qi_stable, qi_stable, trivial⟩ [3] (by kernel_rfl) (by decide) (by kernel_rfl) [] (by kernel_rfl) (by intro r hr; cases hr) (by intro r hr; cases hr) (by intro r hr; cases hr) ⟨?_, ?_, ?_, ?_, trivial⟩ ?_
  · refine stepq_env rfl rfl rfl fun Z tr act w' hZ hm hm0 hout hsz hd hub hpre => ?_
    refine qe_run rfl (wanted_none rfl) (ex_move rfl ((hout 0 (by decide)).trans oe0)) QE.refl ?_
    rfl
  · refine stepq_env rfl rfl rfl fun Z tr act w' hZ hm hm0 hout hsz hd hub hpre => ?_
    refine qe_run rfl (wanted_none rfl) (ex_move rfl ((hout 1 (by decide)).trans oe1)) QE.refl ?_
    rfl
  · refine stepq_env rfl rfl rfl fun Z tr act w' hZ hm hm0 hout hsz hd hub hpre => ?_
    have h1 := hd ⟨1, .data⟩ (by simp) rfl _ rfl
    refine qe_run rfl (wanted_none rfl) (ex_lenS rfl h1 Try.underlying57) QE.refl ?_
    rfl
  · exact stepq_chain rfl
  intro u0_0 hr
  have zu0_0 := hr.size
  have Hx1 := Lib.hid (HW.out.mod hr (by intro k h1 h2; (try dsimp only at h1 h2); (try simp only [false_or] at h1 h2); (first | omega | (have hb := HBR.out k h1; omega) | (have hb := HBR.out k h2; omega) | (have hb := HBT.out k h1; omega) | (have hb := HBT.out k h2; omega) | exact HDJ.out k h1 h2 | exact HDJ.out k h2 h1 | (have hb := HBR.out k h1; have hb2 := HBT.out k h2; omega) | (have hb := HBT.out k h1; have hb2 := HBR.out k h2; omega))))
  have Hx2 := Lib.hid (HS.out.mod hr (by intro k h1 h2; (try dsimp only at h1 h2); (try simp only [false_or] at h1 h2); (first | omega | (have hb := HBR.out k h1; omega) | (have hb := HBR.out k h2; omega) | (have hb := HBT.out k h1; omega) | (have hb := HBT.out k h2; omega) | exact HDJ.out k h1 h2 | exact HDJ.out k h2 h1 | (have hb := HBR.out k h1; have hb2 := HBT.out k h2; omega) | (have hb := HBT.out k h1; have hb2 := HBR.out k h2; omega))))
  have Hx3 := Lib.hid (HM0.out.trans hr (by intro k h1 h2; (try dsimp only at h2 ⊢); (try simp only [false_or] at h2 ⊢); first | exact h2 | omega | (have hb := HBR.out k h2; omega) | (have hb := HBT.out k h2; omega)))
  clear HW HS HM0
  clear hr
  refine QChain.cons rfl fun Z act hYZ hZ hout hsz hd hpre => ?_
  have h0 := hd ⟨0, .data⟩ (by simp) rfl _ rfl
  have h2 := hd ⟨2, .data⟩ (by simp) rfl _ rfl
  have ea8 : act.eval (.tmp 8) = .pointer (some ⟨g, 0, none⟩) := h0
  have ea10 : act.eval (.tmp 10) = .int .i64 l.length := h2
  refine qc_call (args := #[.pointer (some ⟨g, 0, none⟩), .int .i64 l.length]) rfl (wanted_none rfl) (by rw [ex_callF rfl Try.func64 (by kernel_rfl) (by kernel_rfl)]; exact congrArg (fun z => Result.ok (Next.enter _ z) _) (by simp only [List.map_toArray, List.map_cons, List.map_nil, ea8, ea10]; try rfl)) (WInt_Q Hx1.out HI64.out (by have := HL.out; simp only [List.length_append] at this ⊢; omega)) ?_
  rintro e u0_1a ⟨rfl, qwr, hm⟩
  have zu0_1a := hm.size
  refine ⟨_, rfl, hm.mono (by intro k hk h; (try dsimp only at h ⊢); first | omega | exact Or.inl ⟨(by have hb := HBR.out k h; omega), ⟨rfl, h⟩⟩), (fun _ => rfl), ?_⟩
  intro u0_1 hr
  have zu0_1 := hr.size
  have Hx4 := Lib.hid ((qwr.widen (R' := (fun k => (R k) ∨ (u0_0.heap.size ≤ k ∧ k < u0_1a.heap.size))) (by intro k h1; (try unfold New at h1); (try dsimp only at h1 ⊢); (try simp only [false_or] at h1 ⊢); first | exact h1 | (simp only [or_assoc] at h1 ⊢; first | exact h1 | (rcases h1 with h1 | h1 <;> first | (left; exact h1) | (right; omega) | omega))) (Nat.le_refl _)).mod hr (by intro k h1 h2; (try dsimp only at h1 h2); (try simp only [false_or] at h1 h2); rcases h1 with h1 | h1 <;> (first | omega | (have hb := HBR.out k h1; omega) | (have hb := HBR.out k h2; omega) | (have hb := HBT.out k h1; omega) | (have hb := HBT.out k h2; omega) | exact HDJ.out k h1 h2 | exact HDJ.out k h2 h1 | (have hb := HBR.out k h1; have hb2 := HBT.out k h2; omega) | (have hb := HBT.out k h1; have hb2 := HBR.out k h2; omega))))
  have hmr := hm.two hr
  have Hx5 := Lib.hid (Hx2.out.mod hmr (by intro k h1 h2; (try dsimp only at h1 h2); (try simp only [false_or] at h1 h2); rcases h2 with h2 | h2 <;> (first | omega | (have hb := HBR.out k h1; omega) | (have hb := HBR.out k h2; omega) | (have hb := HBT.out k h1; omega) | (have hb := HBT.out k h2; omega) | exact HDJ.out k h1 h2 | exact HDJ.out k h2 h1 | (have hb := HBR.out k h1; have hb2 := HBT.out k h2; omega) | (have hb := HBT.out k h1; have hb2 := HBR.out k h2; omega))))
  have Hx6 := Lib.hid (Hx3.out.trans hmr (by intro k h1 h2; (try dsimp only at h2 ⊢); (try simp only [false_or] at h2 ⊢); rcases h2 with h2 | h2 <;> first | exact h2 | omega | (have hb := HBR.out k h2; omega) | (have hb := HBT.out k h2; omega)))
  clear Hx2 Hx3
  clear hmr
  clear hm hr hYZ hZ hout hsz hd hpre qwr Hx1 ea8 ea10 h0 h2
  refine QChain.nil fun vs hl hzz hrows hne => ?_
  obtain ⟨Z, hYZ, hZb, hV⟩ := hzz
  obtain ⟨v0, vs0, rfl, hl0⟩ := list_cons hl
  obtain ⟨v1, vs1, rfl, hl1⟩ := list_cons hl0
  obtain ⟨v2, vs2, rfl, hl2⟩ := list_cons hl1
  obtain ⟨v3, vs3, rfl, hl3⟩ := list_cons hl2
  obtain rfl := list_nil hl3
  clear hl hl0 hl1 hl2 hl3
  obtain rfl : v0 = .pointer (some ⟨g, 0, none⟩) := hV 0 _ rfl
  obtain rfl : v1 = .slice ao l.length cap := hV 1 _ rfl
  obtain rfl : v2 = .int .i64 l.length := hV 2 _ rfl
  obtain rfl : v3 = .pointer (some ⟨g, 0, none⟩) := hV 3 _ rfl
  have ha0 := HA0.out
  subst ha0
  clear HA0 hV hYZ hZb hsz0 hrows hne oe0 oe1
  simp only [putAll, Act.put, List.setIfInBounds_toArray, List.set_cons_zero, List.set_cons_succ]
  go_wp2
  go_loopw [14] (fun t wr => ∃ k : Nat, t = .int .i64 (k : Int) ∧ k ≤ l.length ∧ u0_1.heap.size ≤ wr.heap.size ∧ WrR (fun b => R b ∨ (w.heap.size ≤ b ∧ b < wr.heap.size)) 900000 wr g (bs ++ (encI l.length ++ ((l.take k).map opB).flatten)) ∧ RdS OpR R2 wr (.slice ao l.length cap) l ∧ Mod R w wr) (fun t _ => l.length - (intOf t).toNat)
  case atStart => exact ⟨0, rfl, Nat.zero_le _, Nat.le_refl _, by have hq := (Hx4.out.widen (R' := (fun k => R k ∨ (w.heap.size ≤ k ∧ k < u0_1.heap.size))) (by intro k h1; (try dsimp only at h1 ⊢); (try simp only [false_or] at h1 ⊢); rcases h1 with h1 | h1 <;> first | exact Or.inl h1 | (right; omega)) (Nat.le_refl _)); simpa only [List.take_zero, List.map_nil, List.flatten_nil, List.append_nil] using hq, Hx5.out, Hx6.out⟩
  case round =>
    obtain ⟨k, rfl, hk, hz, hw, hs, hm⟩ := hrel
    have HW2 := Lib.hid hw
    have HS2 := Lib.hid hs
    have HM2 := Lib.hid hm
    clear hw hs hm Hx4 Hx5 Hx6
    obtain ⟨wo, rfl⟩ : ∃ x, x = wr := ⟨_, rfl⟩
    by_cases hlt : k < l.length
    · skip
      obtain ⟨g0, o0, cs, rfl, hrg, hrd, hcs⟩ := HS2.out.at hlt
      have hcl : cs.length = 34 := OpR.len hrd
      have HCL := Lib.hid hcl
      have HAT := Lib.hid (show CellsAt R2 wo g0 (o0 + k * 34) cs from ⟨hrg, hcs⟩)
      have HRD := Lib.hid hrd
      have HOC := Lib.hid (OpR.one hrd)
      clear hcl hcs hrd hrg
      have HE : Hid (bs ++ (encI l.length ++ ((l.take k).map opB).flatten) ++ opB l[k] = bs ++ (encI l.length ++ ((l.take (k + 1)).map opB).flatten)) := Lib.hid (by rw [List.take_succ_eq_append_getElem hlt, List.map_append, List.flatten_append]; simp [List.append_assoc])
      have HLk := Lib.hid (show (bs ++ (encI l.length ++ ((l.take k).map opB).flatten) ++ opB l[k]).length ≤ 900000 by rw [HE.out]; exact Nat.le_trans (put_len _ _ _ _ _) HL.out)
      go_upto_region 3 with (fail)
      generalize ha0 : Act.mk _ _ = a0
      have oe12 : a0.eval (.tmp 12) = .slice (some ⟨g0, o0, none⟩) l.length cap := by rw [← ha0]; rfl
      have oe14 : a0.eval (.tmp 14) = .int .i64 ((k : Nat) : Int) := by rw [← ha0]; rfl
      have hsz0 : a0.tmps.size = 23 := by rw [← ha0]; rfl
      have HA0 := Lib.hid ha0
      clear ha0
      refine wp_region_Q 23 hsz0 (by kernel_rfl) (by kernel_rfl) [16, 17, 7, 26] (by kernel_rfl) (by decide) (fun _ => False) (fun _ _ => False) (fun _ _ h => h) [qi (.pointer (some ⟨g0, o0 + k * 34, none⟩)), qi (.agg cs.toArray), qa, qa] ⟨qi_stable, qi_stable, qa_stable, qa_stable, trivial⟩ [] (by kernel_rfl) (by decide) (by kernel_rfl) [⟨2, 3, 87, [.int .i64 0, .slice none 0 0, .int .u8 0, .int .u8 0, .int .u8 0, .int .u8 0, .int .u8 0, .int .u8 0, .int .u8 0, .int .u8 0, .int .u8 0, .int .u8 0, .int .u8 0, .int .u8 0, .int .u8 0, .int .u8 0, .int .u8 0, .int .u8 0, .int .u8 0, .int .u8 0, .int .u8 0, .int .u8 0, .int .u8 0, .int .u8 0, .int .u8 0, .int .u8 0, .int .u8 0, .int .u8 0, .int .u8 0, .int .u8 0, .int .u8 0, .int .u8 0, .int .u8 0, .int .u8 0], 0, (fun t => cs)⟩] (by kernel_rfl) (by intro r hr; simp only [List.mem_cons, List.not_mem_nil, or_false] at hr; rcases hr with rfl <;> exact ⟨by kernel_rfl, by kernel_rfl⟩) (by intro r hr; simp only [List.mem_cons, List.not_mem_nil, or_false] at hr; rcases hr with rfl <;> exact ⟨of_decide_eq_true (by kernel_rfl), of_decide_eq_true (by kernel_rfl)⟩) (by intro r hr; simp only [List.mem_cons, List.not_mem_nil, or_false] at hr; rcases hr with rfl <;> exact fun _ _ _ _ => ⟨trivial, trivial⟩) ⟨?_, ?_, ?_, ?_, trivial⟩ ?_
      · refine stepq_env rfl rfl rfl fun Z tr act w' hZ hm hm0 hout hsz hd hub hpre => ?_
        refine qe_run rfl (wanted_none rfl) (ex_idxS (i := k) (s := 34) rfl Try.underlying57 (by kernel_rfl) ((hout 12 (by decide)).trans oe12) ((hout 14 (by decide)).trans oe14) (by omega)) QE.refl ?_
        rfl
      · refine stepq_env rfl rfl rfl fun Z tr act w' hZ hm hm0 hout hsz hd hub hpre => ?_
        have h0 := hd ⟨0, .data⟩ (by simp) rfl _ rfl
        refine qe_run rfl (wanted_none rfl) (ex_loadA rfl Try.underlying87 rfl (off := o0 + k * 34) (cs := cs) (by rw [HCL.out]; kernel_rfl) h0 (fun j u hu => ((HAT.out.mod (Mod.mono (S' := fun k => wo.heap.size ≤ k) hm (fun _ _ h => h.elim (fun h => h.2.elim) (fun h => h))) (by intro k h1 h2; (try dsimp only at h1 h2); (try simp only [false_or] at h1 h2); (first | omega | (have hb := HBR.out k h1; omega) | (have hb := HBR.out k h2; omega) | (have hb := HBT.out k h1; omega) | (have hb := HBT.out k h2; omega) | exact HDJ.out k h1 h2 | exact HDJ.out k h2 h1 | (have hb := HBR.out k h1; have hb2 := HBT.out k h2; omega) | (have hb := HBT.out k h1; have hb2 := HBR.out k h2; omega))))).2 j u hu)) QE.refl ?_
        rfl
      · exact stepq_make rfl rfl ⟨rfl, rfl, by kernel_rfl, by kernel_rfl⟩
      · refine stepq_write rfl rfl rfl ⟨rfl, 7, (.tmp 17), rfl, by decide, rfl, by kernel_rfl, fun Z tr act w' hm hout hsz hd hpre => ?_⟩
        have h1 := hd ⟨1, .data⟩ (by simp) rfl _ rfl
        exact ⟨Nat.zero_le _, (by rw [show act.eval ((.tmp 17)) = _ from h1]; rfl), (by rw [HCL.out]; rfl), HOC.out⟩
      intro u3_0 hr
      have zu3_0 := hr.size
      have Hx7 := Lib.hid (HW2.out.mod hr (by intro k h1 h2; (try dsimp only at h1 h2); (try simp only [false_or] at h1 h2); rcases h1 with h1 | h1 <;> (first | omega | (have hb := HBR.out k h1; omega) | (have hb := HBR.out k h2; omega) | (have hb := HBT.out k h1; omega) | (have hb := HBT.out k h2; omega) | exact HDJ.out k h1 h2 | exact HDJ.out k h2 h1 | (have hb := HBR.out k h1; have hb2 := HBT.out k h2; omega) | (have hb := HBT.out k h1; have hb2 := HBR.out k h2; omega))))
      have Hx8 := Lib.hid (HS2.out.mod hr (by intro k h1 h2; (try dsimp only at h1 h2); (try simp only [false_or] at h1 h2); (first | omega | (have hb := HBR.out k h1; omega) | (have hb := HBR.out k h2; omega) | (have hb := HBT.out k h1; omega) | (have hb := HBT.out k h2; omega) | exact HDJ.out k h1 h2 | exact HDJ.out k h2 h1 | (have hb := HBR.out k h1; have hb2 := HBT.out k h2; omega) | (have hb := HBT.out k h1; have hb2 := HBR.out k h2; omega))))
      have Hx9 := Lib.hid (HM2.out.trans hr (by intro k h1 h2; (try dsimp only at h2 ⊢); (try simp only [false_or] at h2 ⊢); first | exact h2 | omega | (have hb := HBR.out k h2; omega) | (have hb := HBT.out k h2; omega)))
      have Hx10 := Lib.hid (HAT.out.mod hr (by intro k h1 h2; (try dsimp only at h1 h2); (try simp only [false_or] at h1 h2); (first | omega | (have hb := HBR.out k h1; omega) | (have hb := HBR.out k h2; omega) | (have hb := HBT.out k h1; omega) | (have hb := HBT.out k h2; omega) | exact HDJ.out k h1 h2 | exact HDJ.out k h2 h1 | (have hb := HBR.out k h1; have hb2 := HBT.out k h2; omega) | (have hb := HBT.out k h1; have hb2 := HBR.out k h2; omega))))
      have Hx11 := Lib.hid (HRD.out.mod hr (by intro k h1 h2; (try dsimp only at h1 h2); (try simp only [false_or] at h1 h2); (first | omega | (have hb := HBR.out k h1; omega) | (have hb := HBR.out k h2; omega) | (have hb := HBT.out k h1; omega) | (have hb := HBT.out k h2; omega) | exact HDJ.out k h1 h2 | exact HDJ.out k h2 h1 | (have hb := HBR.out k h1; have hb2 := HBT.out k h2; omega) | (have hb := HBT.out k h1; have hb2 := HBR.out k h2; omega))))
      clear HW2 HS2 HM2 HAT HRD
      clear hr
      refine QChain.nil fun vs hl hzz hrows hne => ?_
      obtain ⟨Z, hYZ, hZb, hV⟩ := hzz
      obtain ⟨v0, vs0, rfl, hl0⟩ := list_cons hl
      obtain ⟨v1, vs1, rfl, hl1⟩ := list_cons hl0
      obtain ⟨v2, vs2, rfl, hl2⟩ := list_cons hl1
      obtain ⟨v3, vs3, rfl, hl3⟩ := list_cons hl2
      obtain rfl := list_nil hl3
      clear hl hl0 hl1 hl2 hl3
      obtain ⟨q, fq, hBq, hYq, hCq⟩ := hrows _ (by simp only [List.mem_cons, List.not_mem_nil, or_false]; trivial)
      obtain rfl : v2 = _ := Option.some.inj fq
      (try dsimp only at hBq hYq); (try simp only [false_or] at hBq hYq)
      have zqq := hCq.lt
      have Hx12 := Lib.hid (show Cs u3_0 q (cs : List Value).toArray 87 from hCq)
      clear hCq fq
      have ha0 := HA0.out
      subst ha0
      clear HA0 hV hYZ hZb hsz0 hrows hne oe12 oe14
      simp only [putAll, Act.put, List.setIfInBounds_toArray, List.set_cons_zero, List.set_cons_succ, List.set_nil]
      go_upto_region 4 with (fail)
      generalize ha0 : Act.mk _ _ = a0
      have oe0 : a0.eval (.tmp 0) = .pointer (some ⟨g, 0, none⟩) := by rw [← ha0]; rfl
      have oe2 : a0.eval (.tmp 2) = .func (.func 132) #[] #[] := by rw [← ha0]; rfl
      have oe7 : a0.eval (.tmp 7) = .pointer (some ⟨q, 0, none⟩) := by rw [← ha0]; rfl
      have hsz0 : a0.tmps.size = 23 := by rw [← ha0]; rfl
      have HA0 := Lib.hid ha0
      clear ha0
      refine wp_region_Q 23 hsz0 (by kernel_rfl) (by kernel_rfl) [18, 19, 20, 21] (by kernel_rfl) (by decide) (fun k => (R k) ∨ (w.heap.size ≤ k ∧ k < wo.heap.size)) (fun k j => (k = 0 ∧ ((R j) ∨ (w.heap.size ≤ j ∧ j < wo.heap.size)))) (by intro k j h; (try dsimp only at h ⊢); rcases h with ⟨-, h | h⟩; (exact Or.inl (h)); (exact Or.inr (h))) [qi (.func (.func 132) #[] #[]), qi (.pointer (some ⟨g, 0, none⟩)), qi (.agg cs.toArray), qi (.tuple #[])] ⟨qi_stable, qi_stable, qi_stable, qi_stable, trivial⟩ [3] (by kernel_rfl) (by decide) (by kernel_rfl) [] (by kernel_rfl) (by intro r hr; cases hr) (by intro r hr; cases hr) (by intro r hr; cases hr) ⟨?_, ?_, ?_, ?_, trivial⟩ ?_
      · refine stepq_env rfl rfl rfl fun Z tr act w' hZ hm hm0 hout hsz hd hub hpre => ?_
        refine qe_run rfl (wanted_none rfl) (ex_move rfl ((hout 2 (by decide)).trans oe2)) QE.refl ?_
        rfl
      · refine stepq_env rfl rfl rfl fun Z tr act w' hZ hm hm0 hout hsz hd hub hpre => ?_
        refine qe_run rfl (wanted_none rfl) (ex_move rfl ((hout 0 (by decide)).trans oe0)) QE.refl ?_
        rfl
      · refine stepq_env rfl rfl rfl fun Z tr act w' hZ hm hm0 hout hsz hd hub hpre => ?_
        refine qe_run rfl (wanted_none rfl) (ex_loadA rfl Try.underlying87 rfl (off := 0) (cs := cs) (by rw [HCL.out]; kernel_rfl) ((hout 7 (by decide)).trans oe7) (Cs.whole (Hx12.out.mod hm (by intro h2; (try dsimp only at h2); (try simp only [false_or] at h2); rcases h2 with ⟨h0, h2 | h2⟩ | h2 <;> first | omega | (have hb := HBR.out _ h2; omega) | (have hb := HBT.out _ h2; omega))))) QE.refl ?_
        rfl
      · exact stepq_chain rfl
      intro u4_0 hr
      have zu4_0 := hr.size
      have Hx13 := Lib.hid (Hx7.out.mod hr (by intro k h1 h2; (try dsimp only at h1 h2); (try simp only [false_or] at h1 h2); rcases h1 with h1 | h1 <;> (first | omega | (have hb := HBR.out k h1; omega) | (have hb := HBR.out k h2; omega) | (have hb := HBT.out k h1; omega) | (have hb := HBT.out k h2; omega) | exact HDJ.out k h1 h2 | exact HDJ.out k h2 h1 | (have hb := HBR.out k h1; have hb2 := HBT.out k h2; omega) | (have hb := HBT.out k h1; have hb2 := HBR.out k h2; omega))))
      have Hx14 := Lib.hid (Hx8.out.mod hr (by intro k h1 h2; (try dsimp only at h1 h2); (try simp only [false_or] at h1 h2); (first | omega | (have hb := HBR.out k h1; omega) | (have hb := HBR.out k h2; omega) | (have hb := HBT.out k h1; omega) | (have hb := HBT.out k h2; omega) | exact HDJ.out k h1 h2 | exact HDJ.out k h2 h1 | (have hb := HBR.out k h1; have hb2 := HBT.out k h2; omega) | (have hb := HBT.out k h1; have hb2 := HBR.out k h2; omega))))
      have Hx15 := Lib.hid (Hx9.out.trans hr (by intro k h1 h2; (try dsimp only at h2 ⊢); (try simp only [false_or] at h2 ⊢); first | exact h2 | omega | (have hb := HBR.out k h2; omega) | (have hb := HBT.out k h2; omega)))
      have Hx16 := Lib.hid (Hx10.out.mod hr (by intro k h1 h2; (try dsimp only at h1 h2); (try simp only [false_or] at h1 h2); (first | omega | (have hb := HBR.out k h1; omega) | (have hb := HBR.out k h2; omega) | (have hb := HBT.out k h1; omega) | (have hb := HBT.out k h2; omega) | exact HDJ.out k h1 h2 | exact HDJ.out k h2 h1 | (have hb := HBR.out k h1; have hb2 := HBT.out k h2; omega) | (have hb := HBT.out k h1; have hb2 := HBR.out k h2; omega))))
      have Hx17 := Lib.hid (Hx11.out.mod hr (by intro k h1 h2; (try dsimp only at h1 h2); (try simp only [false_or] at h1 h2); (first | omega | (have hb := HBR.out k h1; omega) | (have hb := HBR.out k h2; omega) | (have hb := HBT.out k h1; omega) | (have hb := HBT.out k h2; omega) | exact HDJ.out k h1 h2 | exact HDJ.out k h2 h1 | (have hb := HBR.out k h1; have hb2 := HBT.out k h2; omega) | (have hb := HBT.out k h1; have hb2 := HBR.out k h2; omega))))
      have Hx18 := Lib.hid (Hx12.out.mod hr (by intro h2; (try dsimp only at h2); (try simp only [false_or] at h2); omega))
      clear Hx7 Hx8 Hx9 Hx10 Hx11 Hx12
      clear hr
      refine QChain.cons rfl fun Z act hYZ hZ hout hsz hd hpre => ?_
      have h0 := hd ⟨0, .data⟩ (by simp) rfl _ rfl
      have h1 := hd ⟨1, .data⟩ (by simp) rfl _ rfl
      have h2 := hd ⟨2, .data⟩ (by simp) rfl _ rfl
      have ea19 : act.eval (.tmp 19) = .pointer (some ⟨g, 0, none⟩) := h1
      have ea20 : act.eval (.tmp 20) = .agg cs.toArray := h2
      refine qc_call (args := #[.pointer (some ⟨g, 0, none⟩), .agg cs.toArray]) rfl (wanted_none rfl) (by rw [ex_callV rfl h0 Try.func132 (by kernel_rfl) (by kernel_rfl)]; exact congrArg (fun z => Result.ok (Next.enter _ z) _) (by simp only [List.map_toArray, List.map_cons, List.map_nil, ea19, ea20]; try rfl)) (PutOp_Q _ _ _ _ _ _ _ Hx13.out (by intro k h1; (try dsimp only at h1); rcases h1 with h1 | h1 <;> (first | omega | (have hb := HBR.out k h1; omega) | (have hb := HBT.out k h1; omega))) Hx17.out (by intro k h1; (try dsimp only at h1); (first | omega | (have hb := HBR.out k h1; omega) | (have hb := HBT.out k h1; omega))) (by intro k h1 h2; (try dsimp only at h1 h2); (try simp only [false_or] at h1 h2); rcases h1 with h1 | h1 <;> (first | omega | (have hb := HBR.out k h1; omega) | (have hb := HBR.out k h2; omega) | (have hb := HBT.out k h1; omega) | (have hb := HBT.out k h2; omega) | exact HDJ.out k h1 h2 | exact HDJ.out k h2 h1 | (have hb := HBR.out k h1; have hb2 := HBT.out k h2; omega) | (have hb := HBT.out k h1; have hb2 := HBR.out k h2; omega))) HLk.out) ?_
      rintro e u4_1a ⟨rfl, qwr, hm⟩
      have zu4_1a := hm.size
      refine ⟨_, rfl, hm.mono (by intro k hk h; (try dsimp only at h ⊢); rcases h with h | h <;> first | omega | exact Or.inl ⟨(by have hb := HBR.out k h; omega), ⟨rfl, Or.inl h⟩⟩), (fun _ => rfl), ?_⟩
      intro u4_1 hr
      have zu4_1 := hr.size
      have Hx19 := Lib.hid ((qwr.widen (R' := (fun k => (R k) ∨ (w.heap.size ≤ k ∧ k < wo.heap.size) ∨ (u4_0.heap.size ≤ k ∧ k < u4_1a.heap.size))) (by intro k h1; (try unfold New at h1); (try dsimp only at h1 ⊢); (try simp only [false_or] at h1 ⊢); first | exact h1 | (simp only [or_assoc] at h1 ⊢; first | exact h1 | (rcases h1 with h1 | h1 <;> first | (left; exact h1) | (right; omega) | omega))) (Nat.le_refl _)).mod hr (by intro k h1 h2; (try dsimp only at h1 h2); (try simp only [false_or] at h1 h2); rcases h1 with h1 | h1 | h1 <;> (first | omega | (have hb := HBR.out k h1; omega) | (have hb := HBR.out k h2; omega) | (have hb := HBT.out k h1; omega) | (have hb := HBT.out k h2; omega) | exact HDJ.out k h1 h2 | exact HDJ.out k h2 h1 | (have hb := HBR.out k h1; have hb2 := HBT.out k h2; omega) | (have hb := HBT.out k h1; have hb2 := HBR.out k h2; omega))))
      have hmr := hm.two hr
      have Hx20 := Lib.hid (Hx14.out.mod hmr (by intro k h1 h2; (try dsimp only at h1 h2); (try simp only [false_or] at h1 h2); rcases h2 with (h2 | h2) | h2 <;> (first | omega | (have hb := HBR.out k h1; omega) | (have hb := HBR.out k h2; omega) | (have hb := HBT.out k h1; omega) | (have hb := HBT.out k h2; omega) | exact HDJ.out k h1 h2 | exact HDJ.out k h2 h1 | (have hb := HBR.out k h1; have hb2 := HBT.out k h2; omega) | (have hb := HBT.out k h1; have hb2 := HBR.out k h2; omega))))
      have Hx21 := Lib.hid (Hx15.out.trans hmr (by intro k h1 h2; (try dsimp only at h2 ⊢); (try simp only [false_or] at h2 ⊢); rcases h2 with (h2 | h2) | h2 <;> first | exact h2 | omega | (have hb := HBR.out k h2; omega) | (have hb := HBT.out k h2; omega)))
      have Hx22 := Lib.hid (Hx16.out.mod hmr (by intro k h1 h2; (try dsimp only at h1 h2); (try simp only [false_or] at h1 h2); rcases h2 with (h2 | h2) | h2 <;> (first | omega | (have hb := HBR.out k h1; omega) | (have hb := HBR.out k h2; omega) | (have hb := HBT.out k h1; omega) | (have hb := HBT.out k h2; omega) | exact HDJ.out k h1 h2 | exact HDJ.out k h2 h1 | (have hb := HBR.out k h1; have hb2 := HBT.out k h2; omega) | (have hb := HBT.out k h1; have hb2 := HBR.out k h2; omega))))
      have Hx23 := Lib.hid (Hx17.out.mod hmr (by intro k h1 h2; (try dsimp only at h1 h2); (try simp only [false_or] at h1 h2); rcases h2 with (h2 | h2) | h2 <;> (first | omega | (have hb := HBR.out k h1; omega) | (have hb := HBR.out k h2; omega) | (have hb := HBT.out k h1; omega) | (have hb := HBT.out k h2; omega) | exact HDJ.out k h1 h2 | exact HDJ.out k h2 h1 | (have hb := HBR.out k h1; have hb2 := HBT.out k h2; omega) | (have hb := HBT.out k h1; have hb2 := HBR.out k h2; omega))))
      have Hx24 := Lib.hid (Hx18.out.mod hmr (by intro h2; (try dsimp only at h2); (try simp only [false_or] at h2); rcases h2 with (h2 | h2) | h2 <;> first | omega | (have hb := HBR.out _ h2; omega) | (have hb := HBT.out _ h2; omega)))
      clear Hx14 Hx15 Hx16 Hx17 Hx18
      clear hmr
      clear hm hr hYZ hZ hout hsz hd hpre qwr Hx13 ea19 ea20 h0 h1 h2
      refine QChain.nil fun vs hl hzz hrows hne => ?_
      obtain ⟨Z, hYZ, hZb, hV⟩ := hzz
      obtain ⟨v0, vs0, rfl, hl0⟩ := list_cons hl
      obtain ⟨v1, vs1, rfl, hl1⟩ := list_cons hl0
      obtain ⟨v2, vs2, rfl, hl2⟩ := list_cons hl1
      obtain ⟨v3, vs3, rfl, hl3⟩ := list_cons hl2
      obtain rfl := list_nil hl3
      clear hl hl0 hl1 hl2 hl3
      obtain rfl : v0 = .func (.func 132) #[] #[] := hV 0 _ rfl
      obtain rfl : v1 = .pointer (some ⟨g, 0, none⟩) := hV 1 _ rfl
      obtain rfl : v3 = .tuple #[] := hV 3 _ rfl
      have ha0 := HA0.out
      subst ha0
      clear HA0 hV hYZ hZb hsz0 hrows hne oe0 oe2 oe7
      simp only [putAll, Act.put, List.setIfInBounds_toArray, List.set_cons_zero, List.set_cons_succ]
      have hq := Hx19.out
      rw [HE.out] at hq
      have HQ := Lib.hid hq
      clear hq
      go_wp2
      go_roundw
      case rel => exact ⟨k + 1, by go_num, by omega, by omega, (HQ.out.widen (by intro b h1; (try dsimp only at h1 ⊢); rcases h1 with h1 | h1 | h1 <;> first | exact Or.inl h1 | (right; omega)) (Nat.le_refl _)), Hx20.out, Hx21.out⟩
      case measure => simp [intOf]; omega
    · have hkk : k = l.length := by omega
      subst hkk
      go_wp2
      go_end0
      have hq := HW2.out
      rw [List.take_length] at hq
      exact ⟨rfl, hq, HM2.out⟩
set_option maxHeartbeats 4000000 in
theorem PutList_Ce : PutsL CeR 105 98 ceB := by
  intro R R2 g bs v l w hW hB hs hB2 hD hl
  obtain ⟨ao, cap, rfl⟩ := hs.shape
  have hb64 : l.length ≤ maxLen := hs.bd
  rw [maxLen_val] at hb64
  have HI64 := Lib.hid (show I64 (l.length : Int) by unfold I64; omega)
  have HW := Lib.hid hW
  have HS := Lib.hid hs
  have HBR := Lib.hid hB
  have HBT := Lib.hid hB2
  have HDJ := Lib.hid hD
  have HL := Lib.hid hl
  clear hW hB hs hB2 hD hl
  unfold listB at HL
  go_enter Try.func105, Try.ntmps105
  go_upto_region 0 with (fail)
  have HM0 := Lib.hid (Mod.refl (fun k => (R k)) w)
  go_upto_region 0 with (fail)
  generalize ha0 : Act.mk _ _ = a0
  have oe0 : a0.eval (.tmp 0) = .pointer (some ⟨g, 0, none⟩) := by rw [← ha0]; rfl
  have oe1 : a0.eval (.tmp 1) = .slice ao l.length cap := by rw [← ha0]; rfl
  have hsz0 : a0.tmps.size = 23 := by rw [← ha0]; rfl
  have HA0 := Lib.hid ha0
  clear ha0
  refine wp_region_Q 23 hsz0 (by kernel_rfl) (by kernel_rfl) [8, 9, 10, 11] (by kernel_rfl) (by decide) (fun k => (R k)) (fun k j => (k = 0 ∧ ((R j)))) (by intro k j h; (try dsimp only at h ⊢); rcases h with ⟨-, h⟩; (exact h)) [qi (.pointer (some ⟨g, 0, none⟩)), qi (.slice ao l.length cap), qi (.int .i64 l.length), qi (.pointer (some ⟨g, 0, none⟩))] ⟨qi_stable, qi_stable, qi_stable, qi_stable, trivial⟩ [3] (by kernel_rfl) (by decide) (by kernel_rfl) [] (by kernel_rfl) (by intro r hr; cases hr) (by intro r hr; cases hr) (by intro r hr; cases hr) ⟨?_, ?_, ?_, ?_, trivial⟩ ?_
  · refine stepq_env rfl rfl rfl fun Z tr act w' hZ hm hm0 hout hsz hd hub hpre => ?_
    refine qe_run rfl (wanted_none rfl) (ex_move rfl ((hout 0 (by decide)).trans oe0)) QE.refl ?_
    rfl
  · refine stepq_env rfl rfl rfl fun Z tr act w' hZ hm hm0 hout hsz hd hub hpre => ?_
    refine qe_run rfl (wanted_none rfl) (ex_move rfl ((hout 1 (by decide)).trans oe1)) QE.refl ?_
    rfl
  · refine stepq_env rfl rfl rfl fun Z tr act w' hZ hm hm0 hout hsz hd hub hpre => ?_
    have h1 := hd ⟨1, .data⟩ (by simp) rfl _ rfl
    refine qe_run rfl (wanted_none rfl) (ex_lenS rfl h1 Try.underlying53) QE.refl ?_
    rfl
  · exact stepq_chain rfl
  intro u0_0 hr
  have zu0_0 := hr.size
  have Hx1 := Lib.hid (HW.out.mod hr (by intro k h1 h2; (try dsimp only at h1 h2); (try simp only [false_or] at h1 h2); (first | omega | (have hb := HBR.out k h1; omega) | (have hb := HBR.out k h2; omega) | (have hb := HBT.out k h1; omega) | (have hb := HBT.out k h2; omega) | exact HDJ.out k h1 h2 | exact HDJ.out k h2 h1 | (have hb := HBR.out k h1; have hb2 := HBT.out k h2; omega) | (have hb := HBT.out k h1; have hb2 := HBR.out k h2; omega))))
  have Hx2 := Lib.hid (HS.out.mod hr (by intro k h1 h2; (try dsimp only at h1 h2); (try simp only [false_or] at h1 h2); (first | omega | (have hb := HBR.out k h1; omega) | (have hb := HBR.out k h2; omega) | (have hb := HBT.out k h1; omega) | (have hb := HBT.out k h2; omega) | exact HDJ.out k h1 h2 | exact HDJ.out k h2 h1 | (have hb := HBR.out k h1; have hb2 := HBT.out k h2; omega) | (have hb := HBT.out k h1; have hb2 := HBR.out k h2; omega))))
  have Hx3 := Lib.hid (HM0.out.trans hr (by intro k h1 h2; (try dsimp only at h2 ⊢); (try simp only [false_or] at h2 ⊢); first | exact h2 | omega | (have hb := HBR.out k h2; omega) | (have hb := HBT.out k h2; omega)))
  clear HW HS HM0
  clear hr
  refine QChain.cons rfl fun Z act hYZ hZ hout hsz hd hpre => ?_
  have h0 := hd ⟨0, .data⟩ (by simp) rfl _ rfl
  have h2 := hd ⟨2, .data⟩ (by simp) rfl _ rfl
  have ea8 : act.eval (.tmp 8) = .pointer (some ⟨g, 0, none⟩) := h0
  have ea10 : act.eval (.tmp 10) = .int .i64 l.length := h2
  refine qc_call (args := #[.pointer (some ⟨g, 0, none⟩), .int .i64 l.length]) rfl (wanted_none rfl) (by rw [ex_callF rfl Try.func64 (by kernel_rfl) (by kernel_rfl)]; exact congrArg (fun z => Result.ok (Next.enter _ z) _) (by simp only [List.map_toArray, List.map_cons, List.map_nil, ea8, ea10]; try rfl)) (WInt_Q Hx1.out HI64.out (by have := HL.out; simp only [List.length_append] at this ⊢; omega)) ?_
  rintro e u0_1a ⟨rfl, qwr, hm⟩
  have zu0_1a := hm.size
  refine ⟨_, rfl, hm.mono (by intro k hk h; (try dsimp only at h ⊢); first | omega | exact Or.inl ⟨(by have hb := HBR.out k h; omega), ⟨rfl, h⟩⟩), (fun _ => rfl), ?_⟩
  intro u0_1 hr
  have zu0_1 := hr.size
  have Hx4 := Lib.hid ((qwr.widen (R' := (fun k => (R k) ∨ (u0_0.heap.size ≤ k ∧ k < u0_1a.heap.size))) (by intro k h1; (try unfold New at h1); (try dsimp only at h1 ⊢); (try simp only [false_or] at h1 ⊢); first | exact h1 | (simp only [or_assoc] at h1 ⊢; first | exact h1 | (rcases h1 with h1 | h1 <;> first | (left; exact h1) | (right; omega) | omega))) (Nat.le_refl _)).mod hr (by intro k h1 h2; (try dsimp only at h1 h2); (try simp only [false_or] at h1 h2); rcases h1 with h1 | h1 <;> (first | omega | (have hb := HBR.out k h1; omega) | (have hb := HBR.out k h2; omega) | (have hb := HBT.out k h1; omega) | (have hb := HBT.out k h2; omega) | exact HDJ.out k h1 h2 | exact HDJ.out k h2 h1 | (have hb := HBR.out k h1; have hb2 := HBT.out k h2; omega) | (have hb := HBT.out k h1; have hb2 := HBR.out k h2; omega))))
  have hmr := hm.two hr
  have Hx5 := Lib.hid (Hx2.out.mod hmr (by intro k h1 h2; (try dsimp only at h1 h2); (try simp only [false_or] at h1 h2); rcases h2 with h2 | h2 <;> (first | omega | (have hb := HBR.out k h1; omega) | (have hb := HBR.out k h2; omega) | (have hb := HBT.out k h1; omega) | (have hb := HBT.out k h2; omega) | exact HDJ.out k h1 h2 | exact HDJ.out k h2 h1 | (have hb := HBR.out k h1; have hb2 := HBT.out k h2; omega) | (have hb := HBT.out k h1; have hb2 := HBR.out k h2; omega))))
  have Hx6 := Lib.hid (Hx3.out.trans hmr (by intro k h1 h2; (try dsimp only at h2 ⊢); (try simp only [false_or] at h2 ⊢); rcases h2 with h2 | h2 <;> first | exact h2 | omega | (have hb := HBR.out k h2; omega) | (have hb := HBT.out k h2; omega)))
  clear Hx2 Hx3
  clear hmr
  clear hm hr hYZ hZ hout hsz hd hpre qwr Hx1 ea8 ea10 h0 h2
  refine QChain.nil fun vs hl hzz hrows hne => ?_
  obtain ⟨Z, hYZ, hZb, hV⟩ := hzz
  obtain ⟨v0, vs0, rfl, hl0⟩ := list_cons hl
  obtain ⟨v1, vs1, rfl, hl1⟩ := list_cons hl0
  obtain ⟨v2, vs2, rfl, hl2⟩ := list_cons hl1
  obtain ⟨v3, vs3, rfl, hl3⟩ := list_cons hl2
  obtain rfl := list_nil hl3
  clear hl hl0 hl1 hl2 hl3
  obtain rfl : v0 = .pointer (some ⟨g, 0, none⟩) := hV 0 _ rfl
  obtain rfl : v1 = .slice ao l.length cap := hV 1 _ rfl
  obtain rfl : v2 = .int .i64 l.length := hV 2 _ rfl
  obtain rfl : v3 = .pointer (some ⟨g, 0, none⟩) := hV 3 _ rfl
  have ha0 := HA0.out
  subst ha0
  clear HA0 hV hYZ hZb hsz0 hrows hne oe0 oe1
  simp only [putAll, Act.put, List.setIfInBounds_toArray, List.set_cons_zero, List.set_cons_succ]
  go_wp2
  go_loopw [14] (fun t wr => ∃ k : Nat, t = .int .i64 (k : Int) ∧ k ≤ l.length ∧ u0_1.heap.size ≤ wr.heap.size ∧ WrR (fun b => R b ∨ (w.heap.size ≤ b ∧ b < wr.heap.size)) 900000 wr g (bs ++ (encI l.length ++ ((l.take k).map ceB).flatten)) ∧ RdS CeR R2 wr (.slice ao l.length cap) l ∧ Mod R w wr) (fun t _ => l.length - (intOf t).toNat)
  case atStart => exact ⟨0, rfl, Nat.zero_le _, Nat.le_refl _, by have hq := (Hx4.out.widen (R' := (fun k => R k ∨ (w.heap.size ≤ k ∧ k < u0_1.heap.size))) (by intro k h1; (try dsimp only at h1 ⊢); (try simp only [false_or] at h1 ⊢); rcases h1 with h1 | h1 <;> first | exact Or.inl h1 | (right; omega)) (Nat.le_refl _)); simpa only [List.take_zero, List.map_nil, List.flatten_nil, List.append_nil] using hq, Hx5.out, Hx6.out⟩
  case round =>
    obtain ⟨k, rfl, hk, hz, hw, hs, hm⟩ := hrel
    have HW2 := Lib.hid hw
    have HS2 := Lib.hid hs
    have HM2 := Lib.hid hm
    clear hw hs hm Hx4 Hx5 Hx6
    obtain ⟨wo, rfl⟩ : ∃ x, x = wr := ⟨_, rfl⟩
    by_cases hlt : k < l.length
    · skip
      obtain ⟨g0, o0, cs, rfl, hrg, hrd, hcs⟩ := HS2.out.at hlt
      have hcl : cs.length = 38 := CeR.len hrd
      have HCL := Lib.hid hcl
      have HAT := Lib.hid (show CellsAt R2 wo g0 (o0 + k * 38) cs from ⟨hrg, hcs⟩)
      have HRD := Lib.hid hrd
      have HOC := Lib.hid (CeR.one hrd)
      clear hcl hcs hrd hrg
      have HE : Hid (bs ++ (encI l.length ++ ((l.take k).map ceB).flatten) ++ ceB l[k] = bs ++ (encI l.length ++ ((l.take (k + 1)).map ceB).flatten)) := Lib.hid (by rw [List.take_succ_eq_append_getElem hlt, List.map_append, List.flatten_append]; simp [List.append_assoc])
      have HLk := Lib.hid (show (bs ++ (encI l.length ++ ((l.take k).map ceB).flatten) ++ ceB l[k]).length ≤ 900000 by rw [HE.out]; exact Nat.le_trans (put_len _ _ _ _ _) HL.out)
      go_upto_region 3 with (fail)
      generalize ha0 : Act.mk _ _ = a0
      have oe12 : a0.eval (.tmp 12) = .slice (some ⟨g0, o0, none⟩) l.length cap := by rw [← ha0]; rfl
      have oe14 : a0.eval (.tmp 14) = .int .i64 ((k : Nat) : Int) := by rw [← ha0]; rfl
      have hsz0 : a0.tmps.size = 23 := by rw [← ha0]; rfl
      have HA0 := Lib.hid ha0
      clear ha0
      refine wp_region_Q 23 hsz0 (by kernel_rfl) (by kernel_rfl) [16, 17, 7, 26] (by kernel_rfl) (by decide) (fun _ => False) (fun _ _ => False) (fun _ _ h => h) [qi (.pointer (some ⟨g0, o0 + k * 38, none⟩)), qi (.agg cs.toArray), qa, qa] ⟨qi_stable, qi_stable, qa_stable, qa_stable, trivial⟩ [] (by kernel_rfl) (by decide) (by kernel_rfl) [⟨2, 3, 52, [.int .i64 0, .int .i64 0, .int .u8 0, .int .u8 0, .int .u8 0, .int .u8 0, .int .u8 0, .int .u8 0, .int .u8 0, .int .u8 0, .int .u8 0, .int .u8 0, .int .u8 0, .int .u8 0, .int .u8 0, .int .u8 0, .int .u8 0, .int .u8 0, .int .u8 0, .int .u8 0, .int .u8 0, .int .u8 0, .int .u8 0, .int .u8 0, .int .u8 0, .int .u8 0, .int .u8 0, .int .u8 0, .int .u8 0, .int .u8 0, .int .u8 0, .int .u8 0, .int .u8 0, .int .u8 0, .int .i64 0, .int .i64 0, .int .i64 0, .slice none 0 0], 0, (fun t => cs)⟩] (by kernel_rfl) (by intro r hr; simp only [List.mem_cons, List.not_mem_nil, or_false] at hr; rcases hr with rfl <;> exact ⟨by kernel_rfl, by kernel_rfl⟩) (by intro r hr; simp only [List.mem_cons, List.not_mem_nil, or_false] at hr; rcases hr with rfl <;> exact ⟨of_decide_eq_true (by kernel_rfl), of_decide_eq_true (by kernel_rfl)⟩) (by intro r hr; simp only [List.mem_cons, List.not_mem_nil, or_false] at hr; rcases hr with rfl <;> exact fun _ _ _ _ => ⟨trivial, trivial⟩) ⟨?_, ?_, ?_, ?_, trivial⟩ ?_
      · refine stepq_env rfl rfl rfl fun Z tr act w' hZ hm hm0 hout hsz hd hub hpre => ?_
        refine qe_run rfl (wanted_none rfl) (ex_idxS (i := k) (s := 38) rfl Try.underlying53 (by kernel_rfl) ((hout 12 (by decide)).trans oe12) ((hout 14 (by decide)).trans oe14) (by omega)) QE.refl ?_
        rfl
      · refine stepq_env rfl rfl rfl fun Z tr act w' hZ hm hm0 hout hsz hd hub hpre => ?_
        have h0 := hd ⟨0, .data⟩ (by simp) rfl _ rfl
        refine qe_run rfl (wanted_none rfl) (ex_loadA rfl Try.underlying52 rfl (off := o0 + k * 38) (cs := cs) (by rw [HCL.out]; kernel_rfl) h0 (fun j u hu => ((HAT.out.mod (Mod.mono (S' := fun k => wo.heap.size ≤ k) hm (fun _ _ h => h.elim (fun h => h.2.elim) (fun h => h))) (by intro k h1 h2; (try dsimp only at h1 h2); (try simp only [false_or] at h1 h2); (first | omega | (have hb := HBR.out k h1; omega) | (have hb := HBR.out k h2; omega) | (have hb := HBT.out k h1; omega) | (have hb := HBT.out k h2; omega) | exact HDJ.out k h1 h2 | exact HDJ.out k h2 h1 | (have hb := HBR.out k h1; have hb2 := HBT.out k h2; omega) | (have hb := HBT.out k h1; have hb2 := HBR.out k h2; omega))))).2 j u hu)) QE.refl ?_
        rfl
      · exact stepq_make rfl rfl ⟨rfl, rfl, by kernel_rfl, by kernel_rfl⟩
      · refine stepq_write rfl rfl rfl ⟨rfl, 7, (.tmp 17), rfl, by decide, rfl, by kernel_rfl, fun Z tr act w' hm hout hsz hd hpre => ?_⟩
        have h1 := hd ⟨1, .data⟩ (by simp) rfl _ rfl
        exact ⟨Nat.zero_le _, (by rw [show act.eval ((.tmp 17)) = _ from h1]; rfl), (by rw [HCL.out]; rfl), HOC.out⟩
      intro u3_0 hr
      have zu3_0 := hr.size
      have Hx7 := Lib.hid (HW2.out.mod hr (by intro k h1 h2; (try dsimp only at h1 h2); (try simp only [false_or] at h1 h2); rcases h1 with h1 | h1 <;> (first | omega | (have hb := HBR.out k h1; omega) | (have hb := HBR.out k h2; omega) | (have hb := HBT.out k h1; omega) | (have hb := HBT.out k h2; omega) | exact HDJ.out k h1 h2 | exact HDJ.out k h2 h1 | (have hb := HBR.out k h1; have hb2 := HBT.out k h2; omega) | (have hb := HBT.out k h1; have hb2 := HBR.out k h2; omega))))
      have Hx8 := Lib.hid (HS2.out.mod hr (by intro k h1 h2; (try dsimp only at h1 h2); (try simp only [false_or] at h1 h2); (first | omega | (have hb := HBR.out k h1; omega) | (have hb := HBR.out k h2; omega) | (have hb := HBT.out k h1; omega) | (have hb := HBT.out k h2; omega) | exact HDJ.out k h1 h2 | exact HDJ.out k h2 h1 | (have hb := HBR.out k h1; have hb2 := HBT.out k h2; omega) | (have hb := HBT.out k h1; have hb2 := HBR.out k h2; omega))))
      have Hx9 := Lib.hid (HM2.out.trans hr (by intro k h1 h2; (try dsimp only at h2 ⊢); (try simp only [false_or] at h2 ⊢); first | exact h2 | omega | (have hb := HBR.out k h2; omega) | (have hb := HBT.out k h2; omega)))
      have Hx10 := Lib.hid (HAT.out.mod hr (by intro k h1 h2; (try dsimp only at h1 h2); (try simp only [false_or] at h1 h2); (first | omega | (have hb := HBR.out k h1; omega) | (have hb := HBR.out k h2; omega) | (have hb := HBT.out k h1; omega) | (have hb := HBT.out k h2; omega) | exact HDJ.out k h1 h2 | exact HDJ.out k h2 h1 | (have hb := HBR.out k h1; have hb2 := HBT.out k h2; omega) | (have hb := HBT.out k h1; have hb2 := HBR.out k h2; omega))))
      have Hx11 := Lib.hid (HRD.out.mod hr (by intro k h1 h2; (try dsimp only at h1 h2); (try simp only [false_or] at h1 h2); (first | omega | (have hb := HBR.out k h1; omega) | (have hb := HBR.out k h2; omega) | (have hb := HBT.out k h1; omega) | (have hb := HBT.out k h2; omega) | exact HDJ.out k h1 h2 | exact HDJ.out k h2 h1 | (have hb := HBR.out k h1; have hb2 := HBT.out k h2; omega) | (have hb := HBT.out k h1; have hb2 := HBR.out k h2; omega))))
      clear HW2 HS2 HM2 HAT HRD
      clear hr
      refine QChain.nil fun vs hl hzz hrows hne => ?_
      obtain ⟨Z, hYZ, hZb, hV⟩ := hzz
      obtain ⟨v0, vs0, rfl, hl0⟩ := list_cons hl
      obtain ⟨v1, vs1, rfl, hl1⟩ := list_cons hl0
      obtain ⟨v2, vs2, rfl, hl2⟩ := list_cons hl1
      obtain ⟨v3, vs3, rfl, hl3⟩ := list_cons hl2
      obtain rfl := list_nil hl3
      clear hl hl0 hl1 hl2 hl3
      obtain ⟨q, fq, hBq, hYq, hCq⟩ := hrows _ (by simp only [List.mem_cons, List.not_mem_nil, or_false]; trivial)
      obtain rfl : v2 = _ := Option.some.inj fq
      (try dsimp only at hBq hYq); (try simp only [false_or] at hBq hYq)
      have zqq := hCq.lt
      have Hx12 := Lib.hid (show Cs u3_0 q (cs : List Value).toArray 52 from hCq)
      clear hCq fq
      have ha0 := HA0.out
      subst ha0
      clear HA0 hV hYZ hZb hsz0 hrows hne oe12 oe14
      simp only [putAll, Act.put, List.setIfInBounds_toArray, List.set_cons_zero, List.set_cons_succ, List.set_nil]
      go_upto_region 4 with (fail)
      generalize ha0 : Act.mk _ _ = a0
      have oe0 : a0.eval (.tmp 0) = .pointer (some ⟨g, 0, none⟩) := by rw [← ha0]; rfl
      have oe2 : a0.eval (.tmp 2) = .func (.func 98) #[] #[] := by rw [← ha0]; rfl
      have oe7 : a0.eval (.tmp 7) = .pointer (some ⟨q, 0, none⟩) := by rw [← ha0]; rfl
      have hsz0 : a0.tmps.size = 23 := by rw [← ha0]; rfl
      have HA0 := Lib.hid ha0
      clear ha0
      refine wp_region_Q 23 hsz0 (by kernel_rfl) (by kernel_rfl) [18, 19, 20, 21] (by kernel_rfl) (by decide) (fun k => (R k) ∨ (w.heap.size ≤ k ∧ k < wo.heap.size)) (fun k j => (k = 0 ∧ ((R j) ∨ (w.heap.size ≤ j ∧ j < wo.heap.size)))) (by intro k j h; (try dsimp only at h ⊢); rcases h with ⟨-, h | h⟩; (exact Or.inl (h)); (exact Or.inr (h))) [qi (.func (.func 98) #[] #[]), qi (.pointer (some ⟨g, 0, none⟩)), qi (.agg cs.toArray), qi (.tuple #[])] ⟨qi_stable, qi_stable, qi_stable, qi_stable, trivial⟩ [3] (by kernel_rfl) (by decide) (by kernel_rfl) [] (by kernel_rfl) (by intro r hr; cases hr) (by intro r hr; cases hr) (by intro r hr; cases hr) ⟨?_, ?_, ?_, ?_, trivial⟩ ?_
      · refine stepq_env rfl rfl rfl fun Z tr act w' hZ hm hm0 hout hsz hd hub hpre => ?_
        refine qe_run rfl (wanted_none rfl) (ex_move rfl ((hout 2 (by decide)).trans oe2)) QE.refl ?_
        rfl
      · refine stepq_env rfl rfl rfl fun Z tr act w' hZ hm hm0 hout hsz hd hub hpre => ?_
        refine qe_run rfl (wanted_none rfl) (ex_move rfl ((hout 0 (by decide)).trans oe0)) QE.refl ?_
        rfl
      · refine stepq_env rfl rfl rfl fun Z tr act w' hZ hm hm0 hout hsz hd hub hpre => ?_
        refine qe_run rfl (wanted_none rfl) (ex_loadA rfl Try.underlying52 rfl (off := 0) (cs := cs) (by rw [HCL.out]; kernel_rfl) ((hout 7 (by decide)).trans oe7) (Cs.whole (Hx12.out.mod hm (by intro h2; (try dsimp only at h2); (try simp only [false_or] at h2); rcases h2 with ⟨h0, h2 | h2⟩ | h2 <;> first | omega | (have hb := HBR.out _ h2; omega) | (have hb := HBT.out _ h2; omega))))) QE.refl ?_
        rfl
      · exact stepq_chain rfl
      intro u4_0 hr
      have zu4_0 := hr.size
      have Hx13 := Lib.hid (Hx7.out.mod hr (by intro k h1 h2; (try dsimp only at h1 h2); (try simp only [false_or] at h1 h2); rcases h1 with h1 | h1 <;> (first | omega | (have hb := HBR.out k h1; omega) | (have hb := HBR.out k h2; omega) | (have hb := HBT.out k h1; omega) | (have hb := HBT.out k h2; omega) | exact HDJ.out k h1 h2 | exact HDJ.out k h2 h1 | (have hb := HBR.out k h1; have hb2 := HBT.out k h2; omega) | (have hb := HBT.out k h1; have hb2 := HBR.out k h2; omega))))
      have Hx14 := Lib.hid (Hx8.out.mod hr (by intro k h1 h2; (try dsimp only at h1 h2); (try simp only [false_or] at h1 h2); (first | omega | (have hb := HBR.out k h1; omega) | (have hb := HBR.out k h2; omega) | (have hb := HBT.out k h1; omega) | (have hb := HBT.out k h2; omega) | exact HDJ.out k h1 h2 | exact HDJ.out k h2 h1 | (have hb := HBR.out k h1; have hb2 := HBT.out k h2; omega) | (have hb := HBT.out k h1; have hb2 := HBR.out k h2; omega))))
      have Hx15 := Lib.hid (Hx9.out.trans hr (by intro k h1 h2; (try dsimp only at h2 ⊢); (try simp only [false_or] at h2 ⊢); first | exact h2 | omega | (have hb := HBR.out k h2; omega) | (have hb := HBT.out k h2; omega)))
      have Hx16 := Lib.hid (Hx10.out.mod hr (by intro k h1 h2; (try dsimp only at h1 h2); (try simp only [false_or] at h1 h2); (first | omega | (have hb := HBR.out k h1; omega) | (have hb := HBR.out k h2; omega) | (have hb := HBT.out k h1; omega) | (have hb := HBT.out k h2; omega) | exact HDJ.out k h1 h2 | exact HDJ.out k h2 h1 | (have hb := HBR.out k h1; have hb2 := HBT.out k h2; omega) | (have hb := HBT.out k h1; have hb2 := HBR.out k h2; omega))))
      have Hx17 := Lib.hid (Hx11.out.mod hr (by intro k h1 h2; (try dsimp only at h1 h2); (try simp only [false_or] at h1 h2); (first | omega | (have hb := HBR.out k h1; omega) | (have hb := HBR.out k h2; omega) | (have hb := HBT.out k h1; omega) | (have hb := HBT.out k h2; omega) | exact HDJ.out k h1 h2 | exact HDJ.out k h2 h1 | (have hb := HBR.out k h1; have hb2 := HBT.out k h2; omega) | (have hb := HBT.out k h1; have hb2 := HBR.out k h2; omega))))
      have Hx18 := Lib.hid (Hx12.out.mod hr (by intro h2; (try dsimp only at h2); (try simp only [false_or] at h2); omega))
      clear Hx7 Hx8 Hx9 Hx10 Hx11 Hx12
      clear hr
      refine QChain.cons rfl fun Z act hYZ hZ hout hsz hd hpre => ?_
      have h0 := hd ⟨0, .data⟩ (by simp) rfl _ rfl
      have h1 := hd ⟨1, .data⟩ (by simp) rfl _ rfl
      have h2 := hd ⟨2, .data⟩ (by simp) rfl _ rfl
      have ea19 : act.eval (.tmp 19) = .pointer (some ⟨g, 0, none⟩) := h1
      have ea20 : act.eval (.tmp 20) = .agg cs.toArray := h2
      refine qc_call (args := #[.pointer (some ⟨g, 0, none⟩), .agg cs.toArray]) rfl (wanted_none rfl) (by rw [ex_callV rfl h0 Try.func98 (by kernel_rfl) (by kernel_rfl)]; exact congrArg (fun z => Result.ok (Next.enter _ z) _) (by simp only [List.map_toArray, List.map_cons, List.map_nil, ea19, ea20]; try rfl)) (PutCe_Q _ _ _ _ _ _ _ Hx13.out (by intro k h1; (try dsimp only at h1); rcases h1 with h1 | h1 <;> (first | omega | (have hb := HBR.out k h1; omega) | (have hb := HBT.out k h1; omega))) Hx17.out (by intro k h1; (try dsimp only at h1); (first | omega | (have hb := HBR.out k h1; omega) | (have hb := HBT.out k h1; omega))) (by intro k h1 h2; (try dsimp only at h1 h2); (try simp only [false_or] at h1 h2); rcases h1 with h1 | h1 <;> (first | omega | (have hb := HBR.out k h1; omega) | (have hb := HBR.out k h2; omega) | (have hb := HBT.out k h1; omega) | (have hb := HBT.out k h2; omega) | exact HDJ.out k h1 h2 | exact HDJ.out k h2 h1 | (have hb := HBR.out k h1; have hb2 := HBT.out k h2; omega) | (have hb := HBT.out k h1; have hb2 := HBR.out k h2; omega))) HLk.out) ?_
      rintro e u4_1a ⟨rfl, qwr, hm⟩
      have zu4_1a := hm.size
      refine ⟨_, rfl, hm.mono (by intro k hk h; (try dsimp only at h ⊢); rcases h with h | h <;> first | omega | exact Or.inl ⟨(by have hb := HBR.out k h; omega), ⟨rfl, Or.inl h⟩⟩), (fun _ => rfl), ?_⟩
      intro u4_1 hr
      have zu4_1 := hr.size
      have Hx19 := Lib.hid ((qwr.widen (R' := (fun k => (R k) ∨ (w.heap.size ≤ k ∧ k < wo.heap.size) ∨ (u4_0.heap.size ≤ k ∧ k < u4_1a.heap.size))) (by intro k h1; (try unfold New at h1); (try dsimp only at h1 ⊢); (try simp only [false_or] at h1 ⊢); first | exact h1 | (simp only [or_assoc] at h1 ⊢; first | exact h1 | (rcases h1 with h1 | h1 <;> first | (left; exact h1) | (right; omega) | omega))) (Nat.le_refl _)).mod hr (by intro k h1 h2; (try dsimp only at h1 h2); (try simp only [false_or] at h1 h2); rcases h1 with h1 | h1 | h1 <;> (first | omega | (have hb := HBR.out k h1; omega) | (have hb := HBR.out k h2; omega) | (have hb := HBT.out k h1; omega) | (have hb := HBT.out k h2; omega) | exact HDJ.out k h1 h2 | exact HDJ.out k h2 h1 | (have hb := HBR.out k h1; have hb2 := HBT.out k h2; omega) | (have hb := HBT.out k h1; have hb2 := HBR.out k h2; omega))))
      have hmr := hm.two hr
      have Hx20 := Lib.hid (Hx14.out.mod hmr (by intro k h1 h2; (try dsimp only at h1 h2); (try simp only [false_or] at h1 h2); rcases h2 with (h2 | h2) | h2 <;> (first | omega | (have hb := HBR.out k h1; omega) | (have hb := HBR.out k h2; omega) | (have hb := HBT.out k h1; omega) | (have hb := HBT.out k h2; omega) | exact HDJ.out k h1 h2 | exact HDJ.out k h2 h1 | (have hb := HBR.out k h1; have hb2 := HBT.out k h2; omega) | (have hb := HBT.out k h1; have hb2 := HBR.out k h2; omega))))
      have Hx21 := Lib.hid (Hx15.out.trans hmr (by intro k h1 h2; (try dsimp only at h2 ⊢); (try simp only [false_or] at h2 ⊢); rcases h2 with (h2 | h2) | h2 <;> first | exact h2 | omega | (have hb := HBR.out k h2; omega) | (have hb := HBT.out k h2; omega)))
      have Hx22 := Lib.hid (Hx16.out.mod hmr (by intro k h1 h2; (try dsimp only at h1 h2); (try simp only [false_or] at h1 h2); rcases h2 with (h2 | h2) | h2 <;> (first | omega | (have hb := HBR.out k h1; omega) | (have hb := HBR.out k h2; omega) | (have hb := HBT.out k h1; omega) | (have hb := HBT.out k h2; omega) | exact HDJ.out k h1 h2 | exact HDJ.out k h2 h1 | (have hb := HBR.out k h1; have hb2 := HBT.out k h2; omega) | (have hb := HBT.out k h1; have hb2 := HBR.out k h2; omega))))
      have Hx23 := Lib.hid (Hx17.out.mod hmr (by intro k h1 h2; (try dsimp only at h1 h2); (try simp only [false_or] at h1 h2); rcases h2 with (h2 | h2) | h2 <;> (first | omega | (have hb := HBR.out k h1; omega) | (have hb := HBR.out k h2; omega) | (have hb := HBT.out k h1; omega) | (have hb := HBT.out k h2; omega) | exact HDJ.out k h1 h2 | exact HDJ.out k h2 h1 | (have hb := HBR.out k h1; have hb2 := HBT.out k h2; omega) | (have hb := HBT.out k h1; have hb2 := HBR.out k h2; omega))))
      have Hx24 := Lib.hid (Hx18.out.mod hmr (by intro h2; (try dsimp only at h2); (try simp only [false_or] at h2); rcases h2 with (h2 | h2) | h2 <;> first | omega | (have hb := HBR.out _ h2; omega) | (have hb := HBT.out _ h2; omega)))
      clear Hx14 Hx15 Hx16 Hx17 Hx18
      clear hmr
      clear hm hr hYZ hZ hout hsz hd hpre qwr Hx13 ea19 ea20 h0 h1 h2
      refine QChain.nil fun vs hl hzz hrows hne => ?_
      obtain ⟨Z, hYZ, hZb, hV⟩ := hzz
      obtain ⟨v0, vs0, rfl, hl0⟩ := list_cons hl
      obtain ⟨v1, vs1, rfl, hl1⟩ := list_cons hl0
      obtain ⟨v2, vs2, rfl, hl2⟩ := list_cons hl1
      obtain ⟨v3, vs3, rfl, hl3⟩ := list_cons hl2
      obtain rfl := list_nil hl3
      clear hl hl0 hl1 hl2 hl3
      obtain rfl : v0 = .func (.func 98) #[] #[] := hV 0 _ rfl
      obtain rfl : v1 = .pointer (some ⟨g, 0, none⟩) := hV 1 _ rfl
      obtain rfl : v3 = .tuple #[] := hV 3 _ rfl
      have ha0 := HA0.out
      subst ha0
      clear HA0 hV hYZ hZb hsz0 hrows hne oe0 oe2 oe7
      simp only [putAll, Act.put, List.setIfInBounds_toArray, List.set_cons_zero, List.set_cons_succ]
      have hq := Hx19.out
      rw [HE.out] at hq
      have HQ := Lib.hid hq
      clear hq
      go_wp2
      go_roundw
      case rel => exact ⟨k + 1, by go_num, by omega, by omega, (HQ.out.widen (by intro b h1; (try dsimp only at h1 ⊢); rcases h1 with h1 | h1 | h1 <;> first | exact Or.inl h1 | (right; omega)) (Nat.le_refl _)), Hx20.out, Hx21.out⟩
      case measure => simp [intOf]; omega
    · have hkk : k = l.length := by omega
      subst hkk
      go_wp2
      go_end0
      have hq := HW2.out
      rw [List.take_length] at hq
      exact ⟨rfl, hq, HM2.out⟩
set_option maxHeartbeats 4000000 in
theorem PutPm_Q : Puts PmR 99 pmB := by
  intro R R2 g bs cs x w hW hB hx hB2 hD hl
  obtain ⟨v_l, rfl, hok, hs0⟩ := hx
  have HS0 := Lib.hid hs0
  clear hs0
  have HW := Lib.hid hW
  have HBR := Lib.hid hB
  have HBT := Lib.hid hB2
  have HDJ := Lib.hid hD
  have HOK := Lib.hid hok
  have HL := Lib.hid hl
  clear hW hB hB2 hD hl hok
  unfold pmB at HL
  go_enter Try.func99, Try.ntmps99
  go_upto_region 1 with (fail)
  obtain ⟨w1, hw1⟩ : ∃ zz, zz = (w.alloc (.cells (x.cells v_l : List Value).toArray 55)) := ⟨_, rfl⟩
  change Code.wp _ _ _ _ (w.alloc (.cells (x.cells v_l : List Value).toArray 55))
  rw [← hw1]
  have HB3 := Lib.hid (show Cs w1 (w.heap.size) (x.cells v_l : List Value).toArray 55 by rw [hw1]; exact Cs.new _ _ _)
  have hm : Mod (fun _ => False) w w1 := by rw [hw1]; exact (Mod.refl _ _).alloc _
  have HM0 := Lib.hid (show Mod (fun k => (R k)) w w1 from hm.mono (fun _ _ h => h.elim))
  have hs1 : w1.heap.size = w.heap.size + 1 := by rw [hw1]; simp
  have Hx1 := Lib.hid (HW.out.mod hm (fun _ _ h => h))
  clear HW
  have Hx2 := Lib.hid (HS0.out.mod hm (fun _ _ h => h))
  clear HS0
  clear hw1 hm
  go_upto_region 1 with (fail)
  generalize ha0 : Act.mk _ _ = a0
  have oe0 : a0.eval (.tmp 0) = .pointer (some ⟨g, 0, none⟩) := by rw [← ha0]; rfl
  have oe3 : a0.eval (.tmp 3) = .pointer (some ⟨w.heap.size, 0, none⟩) := by rw [← ha0]; rfl
  have hsz0 : a0.tmps.size = 22 := by rw [← ha0]; rfl
  have HA0 := Lib.hid ha0
  clear ha0
  refine wp_region_Q 22 hsz0 (by kernel_rfl) (by kernel_rfl) [4, 5, 6, 7, 8, 9, 10, 11, 12, 13] (by kernel_rfl) (by decide) (fun k => (R k)) (fun k j => (k = 0 ∧ ((R j))) ∨ (k = 1 ∧ ((R j))) ∨ (k = 2 ∧ ((R j)))) (by intro k j h; (try dsimp only at h ⊢); rcases h with ⟨-, h⟩ | ⟨-, h⟩ | ⟨-, h⟩; (exact h); (exact h); (exact h)) [qi (.pointer (some ⟨g, 0, none⟩)), qi (.pointer (some ⟨w.heap.size, 0, none⟩)), qi (.int .i64 x.rp), qi (.pointer (some ⟨g, 0, none⟩)), qi (.pointer (some ⟨w.heap.size, 1, none⟩)), qi (.int .i64 x.ep), qi (.pointer (some ⟨g, 0, none⟩)), qi (.pointer (some ⟨w.heap.size, 2, none⟩)), qi (.int .u64 (x.fl : Nat)), qi (.pointer (some ⟨g, 0, none⟩))] ⟨qi_stable, qi_stable, qi_stable, qi_stable, qi_stable, qi_stable, qi_stable, qi_stable, qi_stable, qi_stable, trivial⟩ [3, 6, 9] (by kernel_rfl) (by decide) (by kernel_rfl) [] (by kernel_rfl) (by intro r hr; cases hr) (by intro r hr; cases hr) (by intro r hr; cases hr) ⟨?_, ?_, ?_, ?_, ?_, ?_, ?_, ?_, ?_, ?_, trivial⟩ ?_
  · refine stepq_env rfl rfl rfl fun Z tr act w' hZ hm hm0 hout hsz hd hub hpre => ?_
    refine qe_run rfl (wanted_none rfl) (ex_move rfl ((hout 0 (by decide)).trans oe0)) QE.refl ?_
    rfl
  · refine stepq_env rfl rfl rfl fun Z tr act w' hZ hm hm0 hout hsz hd hub hpre => ?_
    refine qe_run rfl (wanted_none rfl) (ex_field rfl Try.underlying55 rfl (by kernel_rfl) ((hout 3 (by decide)).trans oe3)) QE.refl ?_
    rfl
  · refine stepq_env rfl rfl rfl fun Z tr act w' hZ hm hm0 hout hsz hd hub hpre => ?_
    have h1 := hd ⟨1, .data⟩ (by simp) rfl _ rfl
    refine qe_run rfl (wanted_none rfl) (ex_load1 rfl Try.underlying3 rfl h1 (Cs.lit1 (HB3.out.mod hm (by intro h2; (try dsimp only at h2); (try simp only [false_or] at h2); rcases h2 with ⟨h0, h2⟩ | h2 <;> first | omega | (have hb := HBR.out _ h2; omega) | (have hb := HBT.out _ h2; omega))) rfl)) QE.refl ?_
    rfl
  · exact stepq_chain rfl
  · refine stepq_env rfl rfl rfl fun Z tr act w' hZ hm hm0 hout hsz hd hub hpre => ?_
    refine qe_run rfl (wanted_none rfl) (ex_field rfl Try.underlying55 rfl (by kernel_rfl) ((hout 3 (by decide)).trans oe3)) QE.refl ?_
    rfl
  · refine stepq_env rfl rfl rfl fun Z tr act w' hZ hm hm0 hout hsz hd hub hpre => ?_
    have h4 := hd ⟨4, .data⟩ (by simp) rfl _ rfl
    refine qe_run rfl (wanted_none rfl) (ex_load1 rfl Try.underlying3 rfl h4 (Cs.lit1 (HB3.out.mod hm (by intro h2; (try dsimp only at h2); (try simp only [false_or] at h2); rcases h2 with ⟨h0, h2⟩ | h2 <;> first | omega | (have hb := HBR.out _ h2; omega) | (have hb := HBT.out _ h2; omega))) rfl)) QE.refl ?_
    rfl
  · exact stepq_chain rfl
  · refine stepq_env rfl rfl rfl fun Z tr act w' hZ hm hm0 hout hsz hd hub hpre => ?_
    refine qe_run rfl (wanted_none rfl) (ex_field rfl Try.underlying55 rfl (by kernel_rfl) ((hout 3 (by decide)).trans oe3)) QE.refl ?_
    rfl
  · refine stepq_env rfl rfl rfl fun Z tr act w' hZ hm hm0 hout hsz hd hub hpre => ?_
    have h7 := hd ⟨7, .data⟩ (by simp) rfl _ rfl
    refine qe_run rfl (wanted_none rfl) (ex_load1 rfl Try.underlying26 rfl h7 (Cs.lit1 (HB3.out.mod hm (by intro h2; (try dsimp only at h2); (try simp only [false_or] at h2); rcases h2 with ⟨h0, h2⟩ | h2 <;> first | omega | (have hb := HBR.out _ h2; omega) | (have hb := HBT.out _ h2; omega))) rfl)) QE.refl ?_
    rfl
  · exact stepq_chain rfl
  intro u1_0 hr
  have zu1_0 := hr.size
  have Hx3 := Lib.hid (Hx1.out.mod hr (by intro k h1 h2; (try dsimp only at h1 h2); (try simp only [false_or] at h1 h2); (first | omega | (have hb := HBR.out k h1; omega) | (have hb := HBR.out k h2; omega) | (have hb := HBT.out k h1; omega) | (have hb := HBT.out k h2; omega) | exact HDJ.out k h1 h2 | exact HDJ.out k h2 h1 | (have hb := HBR.out k h1; have hb2 := HBT.out k h2; omega) | (have hb := HBT.out k h1; have hb2 := HBR.out k h2; omega))))
  have Hx4 := Lib.hid (Hx2.out.mod hr (by intro k h1 h2; (try dsimp only at h1 h2); (try simp only [false_or] at h1 h2); (first | omega | (have hb := HBR.out k h1; omega) | (have hb := HBR.out k h2; omega) | (have hb := HBT.out k h1; omega) | (have hb := HBT.out k h2; omega) | exact HDJ.out k h1 h2 | exact HDJ.out k h2 h1 | (have hb := HBR.out k h1; have hb2 := HBT.out k h2; omega) | (have hb := HBT.out k h1; have hb2 := HBR.out k h2; omega))))
  have Hx5 := Lib.hid (HB3.out.mod hr (by intro h2; (try dsimp only at h2); (try simp only [false_or] at h2); omega))
  have Hx6 := Lib.hid (HM0.out.trans hr (by intro k h1 h2; (try dsimp only at h2 ⊢); (try simp only [false_or] at h2 ⊢); first | exact h2 | omega | (have hb := HBR.out k h2; omega) | (have hb := HBT.out k h2; omega)))
  clear Hx1 Hx2 HB3 HM0
  clear hr
  refine QChain.cons rfl fun Z act hYZ hZ hout hsz hd hpre => ?_
  have h0 := hd ⟨0, .data⟩ (by simp) rfl _ rfl
  have h2 := hd ⟨2, .data⟩ (by simp) rfl _ rfl
  have ea4 : act.eval (.tmp 4) = .pointer (some ⟨g, 0, none⟩) := h0
  have ea6 : act.eval (.tmp 6) = .int .i64 x.rp := h2
  refine qc_call (args := #[.pointer (some ⟨g, 0, none⟩), .int .i64 x.rp]) rfl (wanted_none rfl) (by rw [ex_callF rfl Try.func64 (by kernel_rfl) (by kernel_rfl)]; exact congrArg (fun z => Result.ok (Next.enter _ z) _) (by simp only [List.map_toArray, List.map_cons, List.map_nil, ea4, ea6]; try rfl)) (WInt_Q Hx3.out HOK.out.1 (by have := HL.out; simp only [List.length_append] at this ⊢; omega)) ?_
  rintro e u1_1a ⟨rfl, qwr, hm⟩
  have zu1_1a := hm.size
  refine ⟨_, rfl, hm.mono (by intro k hk h; (try dsimp only at h ⊢); first | omega | exact Or.inl ⟨(by have hb := HBR.out k h; omega), Or.inl ⟨rfl, h⟩⟩), (fun _ => rfl), ?_⟩
  intro u1_1 hr
  have zu1_1 := hr.size
  have Hx7 := Lib.hid ((qwr.widen (R' := (fun k => (R k) ∨ (u1_0.heap.size ≤ k ∧ k < u1_1a.heap.size))) (by intro k h1; (try unfold New at h1); (try dsimp only at h1 ⊢); (try simp only [false_or] at h1 ⊢); first | exact h1 | (simp only [or_assoc] at h1 ⊢; first | exact h1 | (rcases h1 with h1 | h1 <;> first | (left; exact h1) | (right; omega) | omega))) (Nat.le_refl _)).mod hr (by intro k h1 h2; (try dsimp only at h1 h2); (try simp only [false_or] at h1 h2); rcases h1 with h1 | h1 <;> (first | omega | (have hb := HBR.out k h1; omega) | (have hb := HBR.out k h2; omega) | (have hb := HBT.out k h1; omega) | (have hb := HBT.out k h2; omega) | exact HDJ.out k h1 h2 | exact HDJ.out k h2 h1 | (have hb := HBR.out k h1; have hb2 := HBT.out k h2; omega) | (have hb := HBT.out k h1; have hb2 := HBR.out k h2; omega))))
  have hmr := hm.two hr
  have Hx8 := Lib.hid (Hx4.out.mod hmr (by intro k h1 h2; (try dsimp only at h1 h2); (try simp only [false_or] at h1 h2); rcases h2 with h2 | h2 <;> (first | omega | (have hb := HBR.out k h1; omega) | (have hb := HBR.out k h2; omega) | (have hb := HBT.out k h1; omega) | (have hb := HBT.out k h2; omega) | exact HDJ.out k h1 h2 | exact HDJ.out k h2 h1 | (have hb := HBR.out k h1; have hb2 := HBT.out k h2; omega) | (have hb := HBT.out k h1; have hb2 := HBR.out k h2; omega))))
  have Hx9 := Lib.hid (Hx5.out.mod hmr (by intro h2; (try dsimp only at h2); (try simp only [false_or] at h2); rcases h2 with h2 | h2 <;> first | omega | (have hb := HBR.out _ h2; omega) | (have hb := HBT.out _ h2; omega)))
  have Hx10 := Lib.hid (Hx6.out.trans hmr (by intro k h1 h2; (try dsimp only at h2 ⊢); (try simp only [false_or] at h2 ⊢); rcases h2 with h2 | h2 <;> first | exact h2 | omega | (have hb := HBR.out k h2; omega) | (have hb := HBT.out k h2; omega)))
  clear Hx4 Hx5 Hx6
  clear hmr
  clear hm hr hYZ hZ hout hsz hd hpre qwr Hx3 ea4 ea6 h0 h2
  refine QChain.cons rfl fun Z act hYZ hZ hout hsz hd hpre => ?_
  have h3 := hd ⟨3, .data⟩ (by simp) rfl _ rfl
  have h5 := hd ⟨5, .data⟩ (by simp) rfl _ rfl
  have ea7 : act.eval (.tmp 7) = .pointer (some ⟨g, 0, none⟩) := h3
  have ea9 : act.eval (.tmp 9) = .int .i64 x.ep := h5
  refine qc_call (args := #[.pointer (some ⟨g, 0, none⟩), .int .i64 x.ep]) rfl (wanted_none rfl) (by rw [ex_callF rfl Try.func64 (by kernel_rfl) (by kernel_rfl)]; exact congrArg (fun z => Result.ok (Next.enter _ z) _) (by simp only [List.map_toArray, List.map_cons, List.map_nil, ea7, ea9]; try rfl)) (WInt_Q Hx7.out HOK.out.2.1 (by have := HL.out; simp only [List.length_append] at this ⊢; omega)) ?_
  rintro e u1_2a ⟨rfl, qwr, hm⟩
  have zu1_2a := hm.size
  refine ⟨_, rfl, hm.mono (by intro k hk h; (try dsimp only at h ⊢); rcases h with h | h <;> first | omega | exact Or.inl ⟨(by have hb := HBR.out k h; omega), Or.inr (Or.inl ⟨rfl, h⟩)⟩), (fun _ => rfl), ?_⟩
  intro u1_2 hr
  have zu1_2 := hr.size
  have Hx11 := Lib.hid ((qwr.widen (R' := (fun k => (R k) ∨ (u1_0.heap.size ≤ k ∧ k < u1_1a.heap.size) ∨ (u1_1.heap.size ≤ k ∧ k < u1_2a.heap.size))) (by intro k h1; (try unfold New at h1); (try dsimp only at h1 ⊢); (try simp only [false_or] at h1 ⊢); first | exact h1 | (simp only [or_assoc] at h1 ⊢; first | exact h1 | (rcases h1 with h1 | h1 <;> first | (left; exact h1) | (right; omega) | omega))) (Nat.le_refl _)).mod hr (by intro k h1 h2; (try dsimp only at h1 h2); (try simp only [false_or] at h1 h2); rcases h1 with h1 | h1 | h1 <;> (first | omega | (have hb := HBR.out k h1; omega) | (have hb := HBR.out k h2; omega) | (have hb := HBT.out k h1; omega) | (have hb := HBT.out k h2; omega) | exact HDJ.out k h1 h2 | exact HDJ.out k h2 h1 | (have hb := HBR.out k h1; have hb2 := HBT.out k h2; omega) | (have hb := HBT.out k h1; have hb2 := HBR.out k h2; omega))))
  have hmr := hm.two hr
  have Hx12 := Lib.hid (Hx8.out.mod hmr (by intro k h1 h2; (try dsimp only at h1 h2); (try simp only [false_or] at h1 h2); rcases h2 with (h2 | h2) | h2 <;> (first | omega | (have hb := HBR.out k h1; omega) | (have hb := HBR.out k h2; omega) | (have hb := HBT.out k h1; omega) | (have hb := HBT.out k h2; omega) | exact HDJ.out k h1 h2 | exact HDJ.out k h2 h1 | (have hb := HBR.out k h1; have hb2 := HBT.out k h2; omega) | (have hb := HBT.out k h1; have hb2 := HBR.out k h2; omega))))
  have Hx13 := Lib.hid (Hx9.out.mod hmr (by intro h2; (try dsimp only at h2); (try simp only [false_or] at h2); rcases h2 with (h2 | h2) | h2 <;> first | omega | (have hb := HBR.out _ h2; omega) | (have hb := HBT.out _ h2; omega)))
  have Hx14 := Lib.hid (Hx10.out.trans hmr (by intro k h1 h2; (try dsimp only at h2 ⊢); (try simp only [false_or] at h2 ⊢); rcases h2 with (h2 | h2) | h2 <;> first | exact h2 | omega | (have hb := HBR.out k h2; omega) | (have hb := HBT.out k h2; omega)))
  clear Hx8 Hx9 Hx10
  clear hmr
  clear hm hr hYZ hZ hout hsz hd hpre qwr Hx7 ea7 ea9 h3 h5
  refine QChain.cons rfl fun Z act hYZ hZ hout hsz hd hpre => ?_
  have h6 := hd ⟨6, .data⟩ (by simp) rfl _ rfl
  have h8 := hd ⟨8, .data⟩ (by simp) rfl _ rfl
  have ea10 : act.eval (.tmp 10) = .pointer (some ⟨g, 0, none⟩) := h6
  have ea12 : act.eval (.tmp 12) = .int .u64 (x.fl : Nat) := h8
  refine qc_call (args := #[.pointer (some ⟨g, 0, none⟩), .int .u64 (x.fl : Nat)]) rfl (wanted_none rfl) (by rw [ex_callF rfl Try.func67 (by kernel_rfl) (by kernel_rfl)]; exact congrArg (fun z => Result.ok (Next.enter _ z) _) (by simp only [List.map_toArray, List.map_cons, List.map_nil, ea10, ea12]; try rfl)) (WNum_Q Hx11.out HOK.out.2.2.1 (by have := HL.out; simp only [List.length_append] at this ⊢; omega)) ?_
  rintro e u1_3a ⟨rfl, qwr, hm⟩
  have zu1_3a := hm.size
  refine ⟨_, rfl, hm.mono (by intro k hk h; (try dsimp only at h ⊢); rcases h with h | h | h <;> first | omega | exact Or.inl ⟨(by have hb := HBR.out k h; omega), Or.inr (Or.inr (⟨rfl, h⟩))⟩), (fun _ => rfl), ?_⟩
  intro u1_3 hr
  have zu1_3 := hr.size
  have Hx15 := Lib.hid ((qwr.widen (R' := (fun k => (R k) ∨ (u1_0.heap.size ≤ k ∧ k < u1_1a.heap.size) ∨ (u1_1.heap.size ≤ k ∧ k < u1_2a.heap.size) ∨ (u1_2.heap.size ≤ k ∧ k < u1_3a.heap.size))) (by intro k h1; (try unfold New at h1); (try dsimp only at h1 ⊢); (try simp only [false_or] at h1 ⊢); first | exact h1 | (simp only [or_assoc] at h1 ⊢; first | exact h1 | (rcases h1 with h1 | h1 <;> first | (left; exact h1) | (right; omega) | omega))) (Nat.le_refl _)).mod hr (by intro k h1 h2; (try dsimp only at h1 h2); (try simp only [false_or] at h1 h2); rcases h1 with h1 | h1 | h1 | h1 <;> (first | omega | (have hb := HBR.out k h1; omega) | (have hb := HBR.out k h2; omega) | (have hb := HBT.out k h1; omega) | (have hb := HBT.out k h2; omega) | exact HDJ.out k h1 h2 | exact HDJ.out k h2 h1 | (have hb := HBR.out k h1; have hb2 := HBT.out k h2; omega) | (have hb := HBT.out k h1; have hb2 := HBR.out k h2; omega))))
  have hmr := hm.two hr
  have Hx16 := Lib.hid (Hx12.out.mod hmr (by intro k h1 h2; (try dsimp only at h1 h2); (try simp only [false_or] at h1 h2); rcases h2 with (h2 | h2 | h2) | h2 <;> (first | omega | (have hb := HBR.out k h1; omega) | (have hb := HBR.out k h2; omega) | (have hb := HBT.out k h1; omega) | (have hb := HBT.out k h2; omega) | exact HDJ.out k h1 h2 | exact HDJ.out k h2 h1 | (have hb := HBR.out k h1; have hb2 := HBT.out k h2; omega) | (have hb := HBT.out k h1; have hb2 := HBR.out k h2; omega))))
  have Hx17 := Lib.hid (Hx13.out.mod hmr (by intro h2; (try dsimp only at h2); (try simp only [false_or] at h2); rcases h2 with (h2 | h2 | h2) | h2 <;> first | omega | (have hb := HBR.out _ h2; omega) | (have hb := HBT.out _ h2; omega)))
  have Hx18 := Lib.hid (Hx14.out.trans hmr (by intro k h1 h2; (try dsimp only at h2 ⊢); (try simp only [false_or] at h2 ⊢); rcases h2 with (h2 | h2 | h2) | h2 <;> first | exact h2 | omega | (have hb := HBR.out k h2; omega) | (have hb := HBT.out k h2; omega)))
  clear Hx12 Hx13 Hx14
  clear hmr
  clear hm hr hYZ hZ hout hsz hd hpre qwr Hx11 ea10 ea12 h6 h8
  refine QChain.nil fun vs hl hzz hrows hne => ?_
  obtain ⟨Z, hYZ, hZb, hV⟩ := hzz
  obtain ⟨v0, vs0, rfl, hl0⟩ := list_cons hl
  obtain ⟨v1, vs1, rfl, hl1⟩ := list_cons hl0
  obtain ⟨v2, vs2, rfl, hl2⟩ := list_cons hl1
  obtain ⟨v3, vs3, rfl, hl3⟩ := list_cons hl2
  obtain ⟨v4, vs4, rfl, hl4⟩ := list_cons hl3
  obtain ⟨v5, vs5, rfl, hl5⟩ := list_cons hl4
  obtain ⟨v6, vs6, rfl, hl6⟩ := list_cons hl5
  obtain ⟨v7, vs7, rfl, hl7⟩ := list_cons hl6
  obtain ⟨v8, vs8, rfl, hl8⟩ := list_cons hl7
  obtain ⟨v9, vs9, rfl, hl9⟩ := list_cons hl8
  obtain rfl := list_nil hl9
  clear hl hl0 hl1 hl2 hl3 hl4 hl5 hl6 hl7 hl8 hl9
  obtain rfl : v0 = .pointer (some ⟨g, 0, none⟩) := hV 0 _ rfl
  obtain rfl : v3 = .pointer (some ⟨g, 0, none⟩) := hV 3 _ rfl
  obtain rfl : v6 = .pointer (some ⟨g, 0, none⟩) := hV 6 _ rfl
  obtain rfl : v9 = .pointer (some ⟨g, 0, none⟩) := hV 9 _ rfl
  have ha0 := HA0.out
  subst ha0
  clear HA0 hV hYZ hZb hsz0 hrows hne oe0 oe3
  simp only [putAll, Act.put, List.setIfInBounds_toArray, List.set_cons_zero, List.set_cons_succ]
  go_upto_region 2 with (fail)
  generalize ha0 : Act.mk _ _ = a0
  have oe0 : a0.eval (.tmp 0) = .pointer (some ⟨g, 0, none⟩) := by rw [← ha0]; rfl
  have oe3 : a0.eval (.tmp 3) = .pointer (some ⟨w.heap.size, 0, none⟩) := by rw [← ha0]; rfl
  have hsz0 : a0.tmps.size = 22 := by rw [← ha0]; rfl
  have HA0 := Lib.hid ha0
  clear ha0
  refine wp_region_Q 22 hsz0 (by kernel_rfl) (by kernel_rfl) [14, 15, 16, 17] (by kernel_rfl) (by decide) (fun k => (R k) ∨ (u1_0.heap.size ≤ k ∧ k < u1_1a.heap.size) ∨ (u1_1.heap.size ≤ k ∧ k < u1_2a.heap.size) ∨ (u1_2.heap.size ≤ k ∧ k < u1_3a.heap.size)) (fun k j => (k = 0 ∧ ((R j) ∨ (u1_0.heap.size ≤ j ∧ j < u1_1a.heap.size) ∨ (u1_1.heap.size ≤ j ∧ j < u1_2a.heap.size) ∨ (u1_2.heap.size ≤ j ∧ j < u1_3a.heap.size)))) (by intro k j h; (try dsimp only at h ⊢); rcases h with ⟨-, h | h | h | h⟩; (exact Or.inl (h)); (exact Or.inr (Or.inl (h))); (exact Or.inr (Or.inr (Or.inl (h)))); (exact Or.inr (Or.inr (Or.inr (h))))) [qi (.pointer (some ⟨g, 0, none⟩)), qi (.pointer (some ⟨w.heap.size, 3, none⟩)), qi (v_l), qi (.tuple #[])] ⟨qi_stable, qi_stable, qi_stable, qi_stable, trivial⟩ [3] (by kernel_rfl) (by decide) (by kernel_rfl) [] (by kernel_rfl) (by intro r hr; cases hr) (by intro r hr; cases hr) (by intro r hr; cases hr) ⟨?_, ?_, ?_, ?_, trivial⟩ ?_
  · refine stepq_env rfl rfl rfl fun Z tr act w' hZ hm hm0 hout hsz hd hub hpre => ?_
    refine qe_run rfl (wanted_none rfl) (ex_move rfl ((hout 0 (by decide)).trans oe0)) QE.refl ?_
    rfl
  · refine stepq_env rfl rfl rfl fun Z tr act w' hZ hm hm0 hout hsz hd hub hpre => ?_
    refine qe_run rfl (wanted_none rfl) (ex_field rfl Try.underlying55 rfl (by kernel_rfl) ((hout 3 (by decide)).trans oe3)) QE.refl ?_
    rfl
  · refine stepq_env rfl rfl rfl fun Z tr act w' hZ hm hm0 hout hsz hd hub hpre => ?_
    have h1 := hd ⟨1, .data⟩ (by simp) rfl _ rfl
    refine qe_run rfl (wanted_none rfl) (ex_load1 rfl Try.underlying53 rfl h1 (Cs.lit1 (Hx17.out.mod hm (by intro h2; (try dsimp only at h2); (try simp only [false_or] at h2); rcases h2 with ⟨h0, h2 | h2 | h2 | h2⟩ | h2 <;> first | omega | (have hb := HBR.out _ h2; omega) | (have hb := HBT.out _ h2; omega))) rfl)) QE.refl ?_
    rfl
  · exact stepq_chain rfl
  intro u2_0 hr
  have zu2_0 := hr.size
  have Hx19 := Lib.hid (Hx15.out.mod hr (by intro k h1 h2; (try dsimp only at h1 h2); (try simp only [false_or] at h1 h2); rcases h1 with h1 | h1 | h1 | h1 <;> (first | omega | (have hb := HBR.out k h1; omega) | (have hb := HBR.out k h2; omega) | (have hb := HBT.out k h1; omega) | (have hb := HBT.out k h2; omega) | exact HDJ.out k h1 h2 | exact HDJ.out k h2 h1 | (have hb := HBR.out k h1; have hb2 := HBT.out k h2; omega) | (have hb := HBT.out k h1; have hb2 := HBR.out k h2; omega))))
  have Hx20 := Lib.hid (Hx16.out.mod hr (by intro k h1 h2; (try dsimp only at h1 h2); (try simp only [false_or] at h1 h2); (first | omega | (have hb := HBR.out k h1; omega) | (have hb := HBR.out k h2; omega) | (have hb := HBT.out k h1; omega) | (have hb := HBT.out k h2; omega) | exact HDJ.out k h1 h2 | exact HDJ.out k h2 h1 | (have hb := HBR.out k h1; have hb2 := HBT.out k h2; omega) | (have hb := HBT.out k h1; have hb2 := HBR.out k h2; omega))))
  have Hx21 := Lib.hid (Hx17.out.mod hr (by intro h2; (try dsimp only at h2); (try simp only [false_or] at h2); omega))
  have Hx22 := Lib.hid (Hx18.out.trans hr (by intro k h1 h2; (try dsimp only at h2 ⊢); (try simp only [false_or] at h2 ⊢); first | exact h2 | omega | (have hb := HBR.out k h2; omega) | (have hb := HBT.out k h2; omega)))
  clear Hx15 Hx16 Hx17 Hx18
  clear hr
  refine QChain.cons rfl fun Z act hYZ hZ hout hsz hd hpre => ?_
  have h0 := hd ⟨0, .data⟩ (by simp) rfl _ rfl
  have h2 := hd ⟨2, .data⟩ (by simp) rfl _ rfl
  have ea14 : act.eval (.tmp 14) = .pointer (some ⟨g, 0, none⟩) := h0
  have ea16 : act.eval (.tmp 16) = v_l := h2
  refine qc_call (args := #[.pointer (some ⟨g, 0, none⟩), v_l, .func (.func 98) #[] #[]]) rfl (wanted_none rfl) (by rw [ex_callF rfl Try.func105 (by kernel_rfl) (by kernel_rfl)]; exact congrArg (fun z => Result.ok (Next.enter _ z) _) (by simp only [List.map_toArray, List.map_cons, List.map_nil, ea14, ea16]; try rfl)) (PutList_Ce _ _ _ _ _ _ _ Hx19.out (by intro k h1; (try dsimp only at h1); rcases h1 with h1 | h1 | h1 | h1 <;> (first | omega | (have hb := HBR.out k h1; omega) | (have hb := HBT.out k h1; omega))) Hx20.out (by intro k h1; (try dsimp only at h1); (first | omega | (have hb := HBR.out k h1; omega) | (have hb := HBT.out k h1; omega))) (by intro k h1 h2; (try dsimp only at h1 h2); (try simp only [false_or] at h1 h2); rcases h1 with h1 | h1 | h1 | h1 <;> (first | omega | (have hb := HBR.out k h1; omega) | (have hb := HBR.out k h2; omega) | (have hb := HBT.out k h1; omega) | (have hb := HBT.out k h2; omega) | exact HDJ.out k h1 h2 | exact HDJ.out k h2 h1 | (have hb := HBR.out k h1; have hb2 := HBT.out k h2; omega) | (have hb := HBT.out k h1; have hb2 := HBR.out k h2; omega))) (by have := HL.out; simp only [List.length_append] at this ⊢; omega)) ?_
  rintro e u2_1a ⟨rfl, qwr, hm⟩
  have zu2_1a := hm.size
  refine ⟨_, rfl, hm.mono (by intro k hk h; (try dsimp only at h ⊢); rcases h with h | h | h | h <;> first | omega | exact Or.inl ⟨(by have hb := HBR.out k h; omega), ⟨rfl, Or.inl h⟩⟩), (fun _ => rfl), ?_⟩
  intro u2_1 hr
  have zu2_1 := hr.size
  have Hx23 := Lib.hid ((qwr.widen (R' := (fun k => (R k) ∨ (u1_0.heap.size ≤ k ∧ k < u1_1a.heap.size) ∨ (u1_1.heap.size ≤ k ∧ k < u1_2a.heap.size) ∨ (u1_2.heap.size ≤ k ∧ k < u1_3a.heap.size) ∨ (u2_0.heap.size ≤ k ∧ k < u2_1a.heap.size))) (by intro k h1; (try unfold New at h1); (try dsimp only at h1 ⊢); (try simp only [false_or] at h1 ⊢); first | exact h1 | (simp only [or_assoc] at h1 ⊢; first | exact h1 | (rcases h1 with h1 | h1 <;> first | (left; exact h1) | (right; omega) | omega))) (Nat.le_refl _)).mod hr (by intro k h1 h2; (try dsimp only at h1 h2); (try simp only [false_or] at h1 h2); rcases h1 with h1 | h1 | h1 | h1 | h1 <;> (first | omega | (have hb := HBR.out k h1; omega) | (have hb := HBR.out k h2; omega) | (have hb := HBT.out k h1; omega) | (have hb := HBT.out k h2; omega) | exact HDJ.out k h1 h2 | exact HDJ.out k h2 h1 | (have hb := HBR.out k h1; have hb2 := HBT.out k h2; omega) | (have hb := HBT.out k h1; have hb2 := HBR.out k h2; omega))))
  have hmr := hm.two hr
  have Hx24 := Lib.hid (Hx20.out.mod hmr (by intro k h1 h2; (try dsimp only at h1 h2); (try simp only [false_or] at h1 h2); rcases h2 with (h2 | h2 | h2 | h2) | h2 <;> (first | omega | (have hb := HBR.out k h1; omega) | (have hb := HBR.out k h2; omega) | (have hb := HBT.out k h1; omega) | (have hb := HBT.out k h2; omega) | exact HDJ.out k h1 h2 | exact HDJ.out k h2 h1 | (have hb := HBR.out k h1; have hb2 := HBT.out k h2; omega) | (have hb := HBT.out k h1; have hb2 := HBR.out k h2; omega))))
  have Hx25 := Lib.hid (Hx21.out.mod hmr (by intro h2; (try dsimp only at h2); (try simp only [false_or] at h2); rcases h2 with (h2 | h2 | h2 | h2) | h2 <;> first | omega | (have hb := HBR.out _ h2; omega) | (have hb := HBT.out _ h2; omega)))
  have Hx26 := Lib.hid (Hx22.out.trans hmr (by intro k h1 h2; (try dsimp only at h2 ⊢); (try simp only [false_or] at h2 ⊢); rcases h2 with (h2 | h2 | h2 | h2) | h2 <;> first | exact h2 | omega | (have hb := HBR.out k h2; omega) | (have hb := HBT.out k h2; omega)))
  clear Hx20 Hx21 Hx22
  clear hmr
  clear hm hr hYZ hZ hout hsz hd hpre qwr Hx19 ea14 ea16 h0 h2
  refine QChain.nil fun vs hl hzz hrows hne => ?_
  obtain ⟨Z, hYZ, hZb, hV⟩ := hzz
  obtain ⟨v0, vs0, rfl, hl0⟩ := list_cons hl
  obtain ⟨v1, vs1, rfl, hl1⟩ := list_cons hl0
  obtain ⟨v2, vs2, rfl, hl2⟩ := list_cons hl1
  obtain ⟨v3, vs3, rfl, hl3⟩ := list_cons hl2
  obtain rfl := list_nil hl3
  clear hl hl0 hl1 hl2 hl3
  obtain rfl : v0 = .pointer (some ⟨g, 0, none⟩) := hV 0 _ rfl
  obtain rfl : v3 = .tuple #[] := hV 3 _ rfl
  have ha0 := HA0.out
  subst ha0
  clear HA0 hV hYZ hZb hsz0 hrows hne oe0 oe3
  simp only [putAll, Act.put, List.setIfInBounds_toArray, List.set_cons_zero, List.set_cons_succ]
  go_upto_region 3 with (fail)
  generalize ha0 : Act.mk _ _ = a0
  have oe0 : a0.eval (.tmp 0) = .pointer (some ⟨g, 0, none⟩) := by rw [← ha0]; rfl
  have oe3 : a0.eval (.tmp 3) = .pointer (some ⟨w.heap.size, 0, none⟩) := by rw [← ha0]; rfl
  have hsz0 : a0.tmps.size = 22 := by rw [← ha0]; rfl
  have HA0 := Lib.hid ha0
  clear ha0
  refine wp_region_Q 22 hsz0 (by kernel_rfl) (by kernel_rfl) [18, 19, 20, 21] (by kernel_rfl) (by decide) (fun k => (R k) ∨ (u1_0.heap.size ≤ k ∧ k < u1_1a.heap.size) ∨ (u1_1.heap.size ≤ k ∧ k < u1_2a.heap.size) ∨ (u1_2.heap.size ≤ k ∧ k < u1_3a.heap.size) ∨ (u2_0.heap.size ≤ k ∧ k < u2_1a.heap.size)) (fun k j => (k = 0 ∧ ((R j) ∨ (u1_0.heap.size ≤ j ∧ j < u1_1a.heap.size) ∨ (u1_1.heap.size ≤ j ∧ j < u1_2a.heap.size) ∨ (u1_2.heap.size ≤ j ∧ j < u1_3a.heap.size) ∨ (u2_0.heap.size ≤ j ∧ j < u2_1a.heap.size)))) (by intro k j h; (try dsimp only at h ⊢); rcases h with ⟨-, h | h | h | h | h⟩; (exact Or.inl (h)); (exact Or.inr (Or.inl (h))); (exact Or.inr (Or.inr (Or.inl (h)))); (exact Or.inr (Or.inr (Or.inr (Or.inl (h))))); (exact Or.inr (Or.inr (Or.inr (Or.inr (h)))))) [qi (.pointer (some ⟨g, 0, none⟩)), qi (.pointer (some ⟨w.heap.size, 4, none⟩)), qi (.agg #[.int .i64 x.sb, .int .i64 x.mr]), qi (.tuple #[])] ⟨qi_stable, qi_stable, qi_stable, qi_stable, trivial⟩ [3] (by kernel_rfl) (by decide) (by kernel_rfl) [] (by kernel_rfl) (by intro r hr; cases hr) (by intro r hr; cases hr) (by intro r hr; cases hr) ⟨?_, ?_, ?_, ?_, trivial⟩ ?_
  · refine stepq_env rfl rfl rfl fun Z tr act w' hZ hm hm0 hout hsz hd hub hpre => ?_
    refine qe_run rfl (wanted_none rfl) (ex_move rfl ((hout 0 (by decide)).trans oe0)) QE.refl ?_
    rfl
  · refine stepq_env rfl rfl rfl fun Z tr act w' hZ hm hm0 hout hsz hd hub hpre => ?_
    refine qe_run rfl (wanted_none rfl) (ex_field rfl Try.underlying55 rfl (by kernel_rfl) ((hout 3 (by decide)).trans oe3)) QE.refl ?_
    rfl
  · refine stepq_env rfl rfl rfl fun Z tr act w' hZ hm hm0 hout hsz hd hub hpre => ?_
    have h1 := hd ⟨1, .data⟩ (by simp) rfl _ rfl
    refine qe_run rfl (wanted_none rfl) (ex_loadA rfl Try.underlying28 rfl (off := 4) (cs := [.int .i64 x.sb, .int .i64 x.mr]) (by kernel_rfl) h1 (Cs.litA (Hx25.out.mod hm (by intro h2; (try dsimp only at h2); (try simp only [false_or] at h2); rcases h2 with ⟨h0, h2 | h2 | h2 | h2 | h2⟩ | h2 <;> first | omega | (have hb := HBR.out _ h2; omega) | (have hb := HBT.out _ h2; omega))) rfl)) QE.refl ?_
    rfl
  · exact stepq_chain rfl
  intro u3_0 hr
  have zu3_0 := hr.size
  have Hx27 := Lib.hid (Hx23.out.mod hr (by intro k h1 h2; (try dsimp only at h1 h2); (try simp only [false_or] at h1 h2); rcases h1 with h1 | h1 | h1 | h1 | h1 <;> (first | omega | (have hb := HBR.out k h1; omega) | (have hb := HBR.out k h2; omega) | (have hb := HBT.out k h1; omega) | (have hb := HBT.out k h2; omega) | exact HDJ.out k h1 h2 | exact HDJ.out k h2 h1 | (have hb := HBR.out k h1; have hb2 := HBT.out k h2; omega) | (have hb := HBT.out k h1; have hb2 := HBR.out k h2; omega))))
  have Hx28 := Lib.hid (Hx24.out.mod hr (by intro k h1 h2; (try dsimp only at h1 h2); (try simp only [false_or] at h1 h2); (first | omega | (have hb := HBR.out k h1; omega) | (have hb := HBR.out k h2; omega) | (have hb := HBT.out k h1; omega) | (have hb := HBT.out k h2; omega) | exact HDJ.out k h1 h2 | exact HDJ.out k h2 h1 | (have hb := HBR.out k h1; have hb2 := HBT.out k h2; omega) | (have hb := HBT.out k h1; have hb2 := HBR.out k h2; omega))))
  have Hx29 := Lib.hid (Hx25.out.mod hr (by intro h2; (try dsimp only at h2); (try simp only [false_or] at h2); omega))
  have Hx30 := Lib.hid (Hx26.out.trans hr (by intro k h1 h2; (try dsimp only at h2 ⊢); (try simp only [false_or] at h2 ⊢); first | exact h2 | omega | (have hb := HBR.out k h2; omega) | (have hb := HBT.out k h2; omega)))
  clear Hx23 Hx24 Hx25 Hx26
  clear hr
  refine QChain.cons rfl fun Z act hYZ hZ hout hsz hd hpre => ?_
  have h0 := hd ⟨0, .data⟩ (by simp) rfl _ rfl
  have h2 := hd ⟨2, .data⟩ (by simp) rfl _ rfl
  have ea18 : act.eval (.tmp 18) = .pointer (some ⟨g, 0, none⟩) := h0
  have ea20 : act.eval (.tmp 20) = .agg #[.int .i64 x.sb, .int .i64 x.mr] := h2
  refine qc_call (args := #[.pointer (some ⟨g, 0, none⟩), .agg #[.int .i64 x.sb, .int .i64 x.mr]]) rfl (wanted_none rfl) (by rw [ex_callF rfl Try.func142 (by kernel_rfl) (by kernel_rfl)]; exact congrArg (fun z => Result.ok (Next.enter _ z) _) (by simp only [List.map_toArray, List.map_cons, List.map_nil, ea18, ea20]; try rfl)) (PutSig_Q Hx27.out (by intro k h1; (try dsimp only at h1); rcases h1 with h1 | h1 | h1 | h1 | h1 <;> (first | omega | (have hb := HBR.out k h1; omega) | (have hb := HBT.out k h1; omega))) HOK.out.2.2.2.1 HOK.out.2.2.2.2 (by have := HL.out; simp only [List.length_append] at this ⊢; omega)) ?_
  rintro e u3_1a ⟨rfl, qwr, hm⟩
  have zu3_1a := hm.size
  refine ⟨_, rfl, hm.mono (by intro k hk h; (try dsimp only at h ⊢); rcases h with h | h | h | h | h <;> first | omega | exact Or.inl ⟨(by have hb := HBR.out k h; omega), ⟨rfl, Or.inl h⟩⟩), (fun _ => rfl), ?_⟩
  intro u3_1 hr
  have zu3_1 := hr.size
  have Hx31 := Lib.hid ((qwr.widen (R' := (fun k => (R k) ∨ (u1_0.heap.size ≤ k ∧ k < u1_1a.heap.size) ∨ (u1_1.heap.size ≤ k ∧ k < u1_2a.heap.size) ∨ (u1_2.heap.size ≤ k ∧ k < u1_3a.heap.size) ∨ (u2_0.heap.size ≤ k ∧ k < u2_1a.heap.size) ∨ (u3_0.heap.size ≤ k ∧ k < u3_1a.heap.size))) (by intro k h1; (try unfold New at h1); (try dsimp only at h1 ⊢); (try simp only [false_or] at h1 ⊢); first | exact h1 | (simp only [or_assoc] at h1 ⊢; first | exact h1 | (rcases h1 with h1 | h1 <;> first | (left; exact h1) | (right; omega) | omega))) (Nat.le_refl _)).mod hr (by intro k h1 h2; (try dsimp only at h1 h2); (try simp only [false_or] at h1 h2); rcases h1 with h1 | h1 | h1 | h1 | h1 | h1 <;> (first | omega | (have hb := HBR.out k h1; omega) | (have hb := HBR.out k h2; omega) | (have hb := HBT.out k h1; omega) | (have hb := HBT.out k h2; omega) | exact HDJ.out k h1 h2 | exact HDJ.out k h2 h1 | (have hb := HBR.out k h1; have hb2 := HBT.out k h2; omega) | (have hb := HBT.out k h1; have hb2 := HBR.out k h2; omega))))
  have hmr := hm.two hr
  have Hx32 := Lib.hid (Hx28.out.mod hmr (by intro k h1 h2; (try dsimp only at h1 h2); (try simp only [false_or] at h1 h2); rcases h2 with (h2 | h2 | h2 | h2 | h2) | h2 <;> (first | omega | (have hb := HBR.out k h1; omega) | (have hb := HBR.out k h2; omega) | (have hb := HBT.out k h1; omega) | (have hb := HBT.out k h2; omega) | exact HDJ.out k h1 h2 | exact HDJ.out k h2 h1 | (have hb := HBR.out k h1; have hb2 := HBT.out k h2; omega) | (have hb := HBT.out k h1; have hb2 := HBR.out k h2; omega))))
  have Hx33 := Lib.hid (Hx29.out.mod hmr (by intro h2; (try dsimp only at h2); (try simp only [false_or] at h2); rcases h2 with (h2 | h2 | h2 | h2 | h2) | h2 <;> first | omega | (have hb := HBR.out _ h2; omega) | (have hb := HBT.out _ h2; omega)))
  have Hx34 := Lib.hid (Hx30.out.trans hmr (by intro k h1 h2; (try dsimp only at h2 ⊢); (try simp only [false_or] at h2 ⊢); rcases h2 with (h2 | h2 | h2 | h2 | h2) | h2 <;> first | exact h2 | omega | (have hb := HBR.out k h2; omega) | (have hb := HBT.out k h2; omega)))
  clear Hx28 Hx29 Hx30
  clear hmr
  clear hm hr hYZ hZ hout hsz hd hpre qwr Hx27 ea18 ea20 h0 h2
  refine QChain.nil fun vs hl hzz hrows hne => ?_
  obtain ⟨Z, hYZ, hZb, hV⟩ := hzz
  obtain ⟨v0, vs0, rfl, hl0⟩ := list_cons hl
  obtain ⟨v1, vs1, rfl, hl1⟩ := list_cons hl0
  obtain ⟨v2, vs2, rfl, hl2⟩ := list_cons hl1
  obtain ⟨v3, vs3, rfl, hl3⟩ := list_cons hl2
  obtain rfl := list_nil hl3
  clear hl hl0 hl1 hl2 hl3
  obtain rfl : v0 = .pointer (some ⟨g, 0, none⟩) := hV 0 _ rfl
  obtain rfl : v3 = .tuple #[] := hV 3 _ rfl
  have ha0 := HA0.out
  subst ha0
  clear HA0 hV hYZ hZb hsz0 hrows hne oe0 oe3
  simp only [putAll, Act.put, List.setIfInBounds_toArray, List.set_cons_zero, List.set_cons_succ]
  go_wp2
  go_end0
  have hq := (Hx31.out.widen (R' := (fun k => R k ∨ New w u3_1 k)) (by intro k h1; (try dsimp only at h1 ⊢); (try simp only [false_or] at h1 ⊢); rcases h1 with h1 | h1 | h1 | h1 | h1 | h1 <;> first | exact Or.inl h1 | (right; unfold New; omega)) (Nat.le_refl _))
  simp only [List.append_assoc] at hq
  exact ⟨rfl, by simpa only [pmB, List.append_assoc] using hq, Hx34.out⟩
set_option maxHeartbeats 4000000 in
theorem PutList_Pm : PutsL PmR 130 99 pmB := by
  intro R R2 g bs v l w hW hB hs hB2 hD hl
  obtain ⟨ao, cap, rfl⟩ := hs.shape
  have hb64 : l.length ≤ maxLen := hs.bd
  rw [maxLen_val] at hb64
  have HI64 := Lib.hid (show I64 (l.length : Int) by unfold I64; omega)
  have HW := Lib.hid hW
  have HS := Lib.hid hs
  have HBR := Lib.hid hB
  have HBT := Lib.hid hB2
  have HDJ := Lib.hid hD
  have HL := Lib.hid hl
  clear hW hB hs hB2 hD hl
  unfold listB at HL
  go_enter Try.func130, Try.ntmps130
  go_upto_region 0 with (fail)
  have HM0 := Lib.hid (Mod.refl (fun k => (R k)) w)
  go_upto_region 0 with (fail)
  generalize ha0 : Act.mk _ _ = a0
  have oe0 : a0.eval (.tmp 0) = .pointer (some ⟨g, 0, none⟩) := by rw [← ha0]; rfl
  have oe1 : a0.eval (.tmp 1) = .slice ao l.length cap := by rw [← ha0]; rfl
  have hsz0 : a0.tmps.size = 23 := by rw [← ha0]; rfl
  have HA0 := Lib.hid ha0
  clear ha0
  refine wp_region_Q 23 hsz0 (by kernel_rfl) (by kernel_rfl) [8, 9, 10, 11] (by kernel_rfl) (by decide) (fun k => (R k)) (fun k j => (k = 0 ∧ ((R j)))) (by intro k j h; (try dsimp only at h ⊢); rcases h with ⟨-, h⟩; (exact h)) [qi (.pointer (some ⟨g, 0, none⟩)), qi (.slice ao l.length cap), qi (.int .i64 l.length), qi (.pointer (some ⟨g, 0, none⟩))] ⟨qi_stable, qi_stable, qi_stable, qi_stable, trivial⟩ [3] (by kernel_rfl) (by decide) (by kernel_rfl) [] (by kernel_rfl) (by intro r hr; cases hr) (by intro r hr; cases hr) (by intro r hr; cases hr) ⟨?_, ?_, ?_, ?_, trivial⟩ ?_
  · refine stepq_env rfl rfl rfl fun Z tr act w' hZ hm hm0 hout hsz hd hub hpre => ?_
    refine qe_run rfl (wanted_none rfl) (ex_move rfl ((hout 0 (by decide)).trans oe0)) QE.refl ?_
    rfl
  · refine stepq_env rfl rfl rfl fun Z tr act w' hZ hm hm0 hout hsz hd hub hpre => ?_
    refine qe_run rfl (wanted_none rfl) (ex_move rfl ((hout 1 (by decide)).trans oe1)) QE.refl ?_
    rfl
  · refine stepq_env rfl rfl rfl fun Z tr act w' hZ hm hm0 hout hsz hd hub hpre => ?_
    have h1 := hd ⟨1, .data⟩ (by simp) rfl _ rfl
    refine qe_run rfl (wanted_none rfl) (ex_lenS rfl h1 Try.underlying56) QE.refl ?_
    rfl
  · exact stepq_chain rfl
  intro u0_0 hr
  have zu0_0 := hr.size
  have Hx1 := Lib.hid (HW.out.mod hr (by intro k h1 h2; (try dsimp only at h1 h2); (try simp only [false_or] at h1 h2); (first | omega | (have hb := HBR.out k h1; omega) | (have hb := HBR.out k h2; omega) | (have hb := HBT.out k h1; omega) | (have hb := HBT.out k h2; omega) | exact HDJ.out k h1 h2 | exact HDJ.out k h2 h1 | (have hb := HBR.out k h1; have hb2 := HBT.out k h2; omega) | (have hb := HBT.out k h1; have hb2 := HBR.out k h2; omega))))
  have Hx2 := Lib.hid (HS.out.mod hr (by intro k h1 h2; (try dsimp only at h1 h2); (try simp only [false_or] at h1 h2); (first | omega | (have hb := HBR.out k h1; omega) | (have hb := HBR.out k h2; omega) | (have hb := HBT.out k h1; omega) | (have hb := HBT.out k h2; omega) | exact HDJ.out k h1 h2 | exact HDJ.out k h2 h1 | (have hb := HBR.out k h1; have hb2 := HBT.out k h2; omega) | (have hb := HBT.out k h1; have hb2 := HBR.out k h2; omega))))
  have Hx3 := Lib.hid (HM0.out.trans hr (by intro k h1 h2; (try dsimp only at h2 ⊢); (try simp only [false_or] at h2 ⊢); first | exact h2 | omega | (have hb := HBR.out k h2; omega) | (have hb := HBT.out k h2; omega)))
  clear HW HS HM0
  clear hr
  refine QChain.cons rfl fun Z act hYZ hZ hout hsz hd hpre => ?_
  have h0 := hd ⟨0, .data⟩ (by simp) rfl _ rfl
  have h2 := hd ⟨2, .data⟩ (by simp) rfl _ rfl
  have ea8 : act.eval (.tmp 8) = .pointer (some ⟨g, 0, none⟩) := h0
  have ea10 : act.eval (.tmp 10) = .int .i64 l.length := h2
  refine qc_call (args := #[.pointer (some ⟨g, 0, none⟩), .int .i64 l.length]) rfl (wanted_none rfl) (by rw [ex_callF rfl Try.func64 (by kernel_rfl) (by kernel_rfl)]; exact congrArg (fun z => Result.ok (Next.enter _ z) _) (by simp only [List.map_toArray, List.map_cons, List.map_nil, ea8, ea10]; try rfl)) (WInt_Q Hx1.out HI64.out (by have := HL.out; simp only [List.length_append] at this ⊢; omega)) ?_
  rintro e u0_1a ⟨rfl, qwr, hm⟩
  have zu0_1a := hm.size
  refine ⟨_, rfl, hm.mono (by intro k hk h; (try dsimp only at h ⊢); first | omega | exact Or.inl ⟨(by have hb := HBR.out k h; omega), ⟨rfl, h⟩⟩), (fun _ => rfl), ?_⟩
  intro u0_1 hr
  have zu0_1 := hr.size
  have Hx4 := Lib.hid ((qwr.widen (R' := (fun k => (R k) ∨ (u0_0.heap.size ≤ k ∧ k < u0_1a.heap.size))) (by intro k h1; (try unfold New at h1); (try dsimp only at h1 ⊢); (try simp only [false_or] at h1 ⊢); first | exact h1 | (simp only [or_assoc] at h1 ⊢; first | exact h1 | (rcases h1 with h1 | h1 <;> first | (left; exact h1) | (right; omega) | omega))) (Nat.le_refl _)).mod hr (by intro k h1 h2; (try dsimp only at h1 h2); (try simp only [false_or] at h1 h2); rcases h1 with h1 | h1 <;> (first | omega | (have hb := HBR.out k h1; omega) | (have hb := HBR.out k h2; omega) | (have hb := HBT.out k h1; omega) | (have hb := HBT.out k h2; omega) | exact HDJ.out k h1 h2 | exact HDJ.out k h2 h1 | (have hb := HBR.out k h1; have hb2 := HBT.out k h2; omega) | (have hb := HBT.out k h1; have hb2 := HBR.out k h2; omega))))
  have hmr := hm.two hr
  have Hx5 := Lib.hid (Hx2.out.mod hmr (by intro k h1 h2; (try dsimp only at h1 h2); (try simp only [false_or] at h1 h2); rcases h2 with h2 | h2 <;> (first | omega | (have hb := HBR.out k h1; omega) | (have hb := HBR.out k h2; omega) | (have hb := HBT.out k h1; omega) | (have hb := HBT.out k h2; omega) | exact HDJ.out k h1 h2 | exact HDJ.out k h2 h1 | (have hb := HBR.out k h1; have hb2 := HBT.out k h2; omega) | (have hb := HBT.out k h1; have hb2 := HBR.out k h2; omega))))
  have Hx6 := Lib.hid (Hx3.out.trans hmr (by intro k h1 h2; (try dsimp only at h2 ⊢); (try simp only [false_or] at h2 ⊢); rcases h2 with h2 | h2 <;> first | exact h2 | omega | (have hb := HBR.out k h2; omega) | (have hb := HBT.out k h2; omega)))
  clear Hx2 Hx3
  clear hmr
  clear hm hr hYZ hZ hout hsz hd hpre qwr Hx1 ea8 ea10 h0 h2
  refine QChain.nil fun vs hl hzz hrows hne => ?_
  obtain ⟨Z, hYZ, hZb, hV⟩ := hzz
  obtain ⟨v0, vs0, rfl, hl0⟩ := list_cons hl
  obtain ⟨v1, vs1, rfl, hl1⟩ := list_cons hl0
  obtain ⟨v2, vs2, rfl, hl2⟩ := list_cons hl1
  obtain ⟨v3, vs3, rfl, hl3⟩ := list_cons hl2
  obtain rfl := list_nil hl3
  clear hl hl0 hl1 hl2 hl3
  obtain rfl : v0 = .pointer (some ⟨g, 0, none⟩) := hV 0 _ rfl
  obtain rfl : v1 = .slice ao l.length cap := hV 1 _ rfl
  obtain rfl : v2 = .int .i64 l.length := hV 2 _ rfl
  obtain rfl : v3 = .pointer (some ⟨g, 0, none⟩) := hV 3 _ rfl
  have ha0 := HA0.out
  subst ha0
  clear HA0 hV hYZ hZb hsz0 hrows hne oe0 oe1
  simp only [putAll, Act.put, List.setIfInBounds_toArray, List.set_cons_zero, List.set_cons_succ]
  go_wp2
  go_loopw [14] (fun t wr => ∃ k : Nat, t = .int .i64 (k : Int) ∧ k ≤ l.length ∧ u0_1.heap.size ≤ wr.heap.size ∧ WrR (fun b => R b ∨ (w.heap.size ≤ b ∧ b < wr.heap.size)) 900000 wr g (bs ++ (encI l.length ++ ((l.take k).map pmB).flatten)) ∧ RdS PmR R2 wr (.slice ao l.length cap) l ∧ Mod R w wr) (fun t _ => l.length - (intOf t).toNat)
  case atStart => exact ⟨0, rfl, Nat.zero_le _, Nat.le_refl _, by have hq := (Hx4.out.widen (R' := (fun k => R k ∨ (w.heap.size ≤ k ∧ k < u0_1.heap.size))) (by intro k h1; (try dsimp only at h1 ⊢); (try simp only [false_or] at h1 ⊢); rcases h1 with h1 | h1 <;> first | exact Or.inl h1 | (right; omega)) (Nat.le_refl _)); simpa only [List.take_zero, List.map_nil, List.flatten_nil, List.append_nil] using hq, Hx5.out, Hx6.out⟩
  case round =>
    obtain ⟨k, rfl, hk, hz, hw, hs, hm⟩ := hrel
    have HW2 := Lib.hid hw
    have HS2 := Lib.hid hs
    have HM2 := Lib.hid hm
    clear hw hs hm Hx4 Hx5 Hx6
    obtain ⟨wo, rfl⟩ : ∃ x, x = wr := ⟨_, rfl⟩
    by_cases hlt : k < l.length
    · skip
      obtain ⟨g0, o0, cs, rfl, hrg, hrd, hcs⟩ := HS2.out.at hlt
      have hcl : cs.length = 6 := PmR.len hrd
      have HCL := Lib.hid hcl
      have HAT := Lib.hid (show CellsAt R2 wo g0 (o0 + k * 6) cs from ⟨hrg, hcs⟩)
      have HRD := Lib.hid hrd
      have HOC := Lib.hid (PmR.one hrd)
      clear hcl hcs hrd hrg
      have HE : Hid (bs ++ (encI l.length ++ ((l.take k).map pmB).flatten) ++ pmB l[k] = bs ++ (encI l.length ++ ((l.take (k + 1)).map pmB).flatten)) := Lib.hid (by rw [List.take_succ_eq_append_getElem hlt, List.map_append, List.flatten_append]; simp [List.append_assoc])
      have HLk := Lib.hid (show (bs ++ (encI l.length ++ ((l.take k).map pmB).flatten) ++ pmB l[k]).length ≤ 900000 by rw [HE.out]; exact Nat.le_trans (put_len _ _ _ _ _) HL.out)
      go_upto_region 3 with (fail)
      generalize ha0 : Act.mk _ _ = a0
      have oe12 : a0.eval (.tmp 12) = .slice (some ⟨g0, o0, none⟩) l.length cap := by rw [← ha0]; rfl
      have oe14 : a0.eval (.tmp 14) = .int .i64 ((k : Nat) : Int) := by rw [← ha0]; rfl
      have hsz0 : a0.tmps.size = 23 := by rw [← ha0]; rfl
      have HA0 := Lib.hid ha0
      clear ha0
      refine wp_region_Q 23 hsz0 (by kernel_rfl) (by kernel_rfl) [16, 17, 7, 26] (by kernel_rfl) (by decide) (fun _ => False) (fun _ _ => False) (fun _ _ h => h) [qi (.pointer (some ⟨g0, o0 + k * 6, none⟩)), qi (.agg cs.toArray), qa, qa] ⟨qi_stable, qi_stable, qa_stable, qa_stable, trivial⟩ [] (by kernel_rfl) (by decide) (by kernel_rfl) [⟨2, 3, 55, [.int .i64 0, .int .i64 0, .int .u64 0, .slice none 0 0, .int .i64 0, .int .i64 0], 0, (fun t => cs)⟩] (by kernel_rfl) (by intro r hr; simp only [List.mem_cons, List.not_mem_nil, or_false] at hr; rcases hr with rfl <;> exact ⟨by kernel_rfl, by kernel_rfl⟩) (by intro r hr; simp only [List.mem_cons, List.not_mem_nil, or_false] at hr; rcases hr with rfl <;> exact ⟨of_decide_eq_true (by kernel_rfl), of_decide_eq_true (by kernel_rfl)⟩) (by intro r hr; simp only [List.mem_cons, List.not_mem_nil, or_false] at hr; rcases hr with rfl <;> exact fun _ _ _ _ => ⟨trivial, trivial⟩) ⟨?_, ?_, ?_, ?_, trivial⟩ ?_
      · refine stepq_env rfl rfl rfl fun Z tr act w' hZ hm hm0 hout hsz hd hub hpre => ?_
        refine qe_run rfl (wanted_none rfl) (ex_idxS (i := k) (s := 6) rfl Try.underlying56 (by kernel_rfl) ((hout 12 (by decide)).trans oe12) ((hout 14 (by decide)).trans oe14) (by omega)) QE.refl ?_
        rfl
      · refine stepq_env rfl rfl rfl fun Z tr act w' hZ hm hm0 hout hsz hd hub hpre => ?_
        have h0 := hd ⟨0, .data⟩ (by simp) rfl _ rfl
        refine qe_run rfl (wanted_none rfl) (ex_loadA rfl Try.underlying55 rfl (off := o0 + k * 6) (cs := cs) (by rw [HCL.out]; kernel_rfl) h0 (fun j u hu => ((HAT.out.mod (Mod.mono (S' := fun k => wo.heap.size ≤ k) hm (fun _ _ h => h.elim (fun h => h.2.elim) (fun h => h))) (by intro k h1 h2; (try dsimp only at h1 h2); (try simp only [false_or] at h1 h2); (first | omega | (have hb := HBR.out k h1; omega) | (have hb := HBR.out k h2; omega) | (have hb := HBT.out k h1; omega) | (have hb := HBT.out k h2; omega) | exact HDJ.out k h1 h2 | exact HDJ.out k h2 h1 | (have hb := HBR.out k h1; have hb2 := HBT.out k h2; omega) | (have hb := HBT.out k h1; have hb2 := HBR.out k h2; omega))))).2 j u hu)) QE.refl ?_
        rfl
      · exact stepq_make rfl rfl ⟨rfl, rfl, by kernel_rfl, by kernel_rfl⟩
      · refine stepq_write rfl rfl rfl ⟨rfl, 7, (.tmp 17), rfl, by decide, rfl, by kernel_rfl, fun Z tr act w' hm hout hsz hd hpre => ?_⟩
        have h1 := hd ⟨1, .data⟩ (by simp) rfl _ rfl
        exact ⟨Nat.zero_le _, (by rw [show act.eval ((.tmp 17)) = _ from h1]; rfl), (by rw [HCL.out]; rfl), HOC.out⟩
      intro u3_0 hr
      have zu3_0 := hr.size
      have Hx7 := Lib.hid (HW2.out.mod hr (by intro k h1 h2; (try dsimp only at h1 h2); (try simp only [false_or] at h1 h2); rcases h1 with h1 | h1 <;> (first | omega | (have hb := HBR.out k h1; omega) | (have hb := HBR.out k h2; omega) | (have hb := HBT.out k h1; omega) | (have hb := HBT.out k h2; omega) | exact HDJ.out k h1 h2 | exact HDJ.out k h2 h1 | (have hb := HBR.out k h1; have hb2 := HBT.out k h2; omega) | (have hb := HBT.out k h1; have hb2 := HBR.out k h2; omega))))
      have Hx8 := Lib.hid (HS2.out.mod hr (by intro k h1 h2; (try dsimp only at h1 h2); (try simp only [false_or] at h1 h2); (first | omega | (have hb := HBR.out k h1; omega) | (have hb := HBR.out k h2; omega) | (have hb := HBT.out k h1; omega) | (have hb := HBT.out k h2; omega) | exact HDJ.out k h1 h2 | exact HDJ.out k h2 h1 | (have hb := HBR.out k h1; have hb2 := HBT.out k h2; omega) | (have hb := HBT.out k h1; have hb2 := HBR.out k h2; omega))))
      have Hx9 := Lib.hid (HM2.out.trans hr (by intro k h1 h2; (try dsimp only at h2 ⊢); (try simp only [false_or] at h2 ⊢); first | exact h2 | omega | (have hb := HBR.out k h2; omega) | (have hb := HBT.out k h2; omega)))
      have Hx10 := Lib.hid (HAT.out.mod hr (by intro k h1 h2; (try dsimp only at h1 h2); (try simp only [false_or] at h1 h2); (first | omega | (have hb := HBR.out k h1; omega) | (have hb := HBR.out k h2; omega) | (have hb := HBT.out k h1; omega) | (have hb := HBT.out k h2; omega) | exact HDJ.out k h1 h2 | exact HDJ.out k h2 h1 | (have hb := HBR.out k h1; have hb2 := HBT.out k h2; omega) | (have hb := HBT.out k h1; have hb2 := HBR.out k h2; omega))))
      have Hx11 := Lib.hid (HRD.out.mod hr (by intro k h1 h2; (try dsimp only at h1 h2); (try simp only [false_or] at h1 h2); (first | omega | (have hb := HBR.out k h1; omega) | (have hb := HBR.out k h2; omega) | (have hb := HBT.out k h1; omega) | (have hb := HBT.out k h2; omega) | exact HDJ.out k h1 h2 | exact HDJ.out k h2 h1 | (have hb := HBR.out k h1; have hb2 := HBT.out k h2; omega) | (have hb := HBT.out k h1; have hb2 := HBR.out k h2; omega))))
      clear HW2 HS2 HM2 HAT HRD
      clear hr
      refine QChain.nil fun vs hl hzz hrows hne => ?_
      obtain ⟨Z, hYZ, hZb, hV⟩ := hzz
      obtain ⟨v0, vs0, rfl, hl0⟩ := list_cons hl
      obtain ⟨v1, vs1, rfl, hl1⟩ := list_cons hl0
      obtain ⟨v2, vs2, rfl, hl2⟩ := list_cons hl1
      obtain ⟨v3, vs3, rfl, hl3⟩ := list_cons hl2
      obtain rfl := list_nil hl3
      clear hl hl0 hl1 hl2 hl3
      obtain ⟨q, fq, hBq, hYq, hCq⟩ := hrows _ (by simp only [List.mem_cons, List.not_mem_nil, or_false]; trivial)
      obtain rfl : v2 = _ := Option.some.inj fq
      (try dsimp only at hBq hYq); (try simp only [false_or] at hBq hYq)
      have zqq := hCq.lt
      have Hx12 := Lib.hid (show Cs u3_0 q (cs : List Value).toArray 55 from hCq)
      clear hCq fq
      have ha0 := HA0.out
      subst ha0
      clear HA0 hV hYZ hZb hsz0 hrows hne oe12 oe14
      simp only [putAll, Act.put, List.setIfInBounds_toArray, List.set_cons_zero, List.set_cons_succ, List.set_nil]
      go_upto_region 4 with (fail)
      generalize ha0 : Act.mk _ _ = a0
      have oe0 : a0.eval (.tmp 0) = .pointer (some ⟨g, 0, none⟩) := by rw [← ha0]; rfl
      have oe2 : a0.eval (.tmp 2) = .func (.func 99) #[] #[] := by rw [← ha0]; rfl
      have oe7 : a0.eval (.tmp 7) = .pointer (some ⟨q, 0, none⟩) := by rw [← ha0]; rfl
      have hsz0 : a0.tmps.size = 23 := by rw [← ha0]; rfl
      have HA0 := Lib.hid ha0
      clear ha0
      refine wp_region_Q 23 hsz0 (by kernel_rfl) (by kernel_rfl) [18, 19, 20, 21] (by kernel_rfl) (by decide) (fun k => (R k) ∨ (w.heap.size ≤ k ∧ k < wo.heap.size)) (fun k j => (k = 0 ∧ ((R j) ∨ (w.heap.size ≤ j ∧ j < wo.heap.size)))) (by intro k j h; (try dsimp only at h ⊢); rcases h with ⟨-, h | h⟩; (exact Or.inl (h)); (exact Or.inr (h))) [qi (.func (.func 99) #[] #[]), qi (.pointer (some ⟨g, 0, none⟩)), qi (.agg cs.toArray), qi (.tuple #[])] ⟨qi_stable, qi_stable, qi_stable, qi_stable, trivial⟩ [3] (by kernel_rfl) (by decide) (by kernel_rfl) [] (by kernel_rfl) (by intro r hr; cases hr) (by intro r hr; cases hr) (by intro r hr; cases hr) ⟨?_, ?_, ?_, ?_, trivial⟩ ?_
      · refine stepq_env rfl rfl rfl fun Z tr act w' hZ hm hm0 hout hsz hd hub hpre => ?_
        refine qe_run rfl (wanted_none rfl) (ex_move rfl ((hout 2 (by decide)).trans oe2)) QE.refl ?_
        rfl
      · refine stepq_env rfl rfl rfl fun Z tr act w' hZ hm hm0 hout hsz hd hub hpre => ?_
        refine qe_run rfl (wanted_none rfl) (ex_move rfl ((hout 0 (by decide)).trans oe0)) QE.refl ?_
        rfl
      · refine stepq_env rfl rfl rfl fun Z tr act w' hZ hm hm0 hout hsz hd hub hpre => ?_
        refine qe_run rfl (wanted_none rfl) (ex_loadA rfl Try.underlying55 rfl (off := 0) (cs := cs) (by rw [HCL.out]; kernel_rfl) ((hout 7 (by decide)).trans oe7) (Cs.whole (Hx12.out.mod hm (by intro h2; (try dsimp only at h2); (try simp only [false_or] at h2); rcases h2 with ⟨h0, h2 | h2⟩ | h2 <;> first | omega | (have hb := HBR.out _ h2; omega) | (have hb := HBT.out _ h2; omega))))) QE.refl ?_
        rfl
      · exact stepq_chain rfl
      intro u4_0 hr
      have zu4_0 := hr.size
      have Hx13 := Lib.hid (Hx7.out.mod hr (by intro k h1 h2; (try dsimp only at h1 h2); (try simp only [false_or] at h1 h2); rcases h1 with h1 | h1 <;> (first | omega | (have hb := HBR.out k h1; omega) | (have hb := HBR.out k h2; omega) | (have hb := HBT.out k h1; omega) | (have hb := HBT.out k h2; omega) | exact HDJ.out k h1 h2 | exact HDJ.out k h2 h1 | (have hb := HBR.out k h1; have hb2 := HBT.out k h2; omega) | (have hb := HBT.out k h1; have hb2 := HBR.out k h2; omega))))
      have Hx14 := Lib.hid (Hx8.out.mod hr (by intro k h1 h2; (try dsimp only at h1 h2); (try simp only [false_or] at h1 h2); (first | omega | (have hb := HBR.out k h1; omega) | (have hb := HBR.out k h2; omega) | (have hb := HBT.out k h1; omega) | (have hb := HBT.out k h2; omega) | exact HDJ.out k h1 h2 | exact HDJ.out k h2 h1 | (have hb := HBR.out k h1; have hb2 := HBT.out k h2; omega) | (have hb := HBT.out k h1; have hb2 := HBR.out k h2; omega))))
      have Hx15 := Lib.hid (Hx9.out.trans hr (by intro k h1 h2; (try dsimp only at h2 ⊢); (try simp only [false_or] at h2 ⊢); first | exact h2 | omega | (have hb := HBR.out k h2; omega) | (have hb := HBT.out k h2; omega)))
      have Hx16 := Lib.hid (Hx10.out.mod hr (by intro k h1 h2; (try dsimp only at h1 h2); (try simp only [false_or] at h1 h2); (first | omega | (have hb := HBR.out k h1; omega) | (have hb := HBR.out k h2; omega) | (have hb := HBT.out k h1; omega) | (have hb := HBT.out k h2; omega) | exact HDJ.out k h1 h2 | exact HDJ.out k h2 h1 | (have hb := HBR.out k h1; have hb2 := HBT.out k h2; omega) | (have hb := HBT.out k h1; have hb2 := HBR.out k h2; omega))))
      have Hx17 := Lib.hid (Hx11.out.mod hr (by intro k h1 h2; (try dsimp only at h1 h2); (try simp only [false_or] at h1 h2); (first | omega | (have hb := HBR.out k h1; omega) | (have hb := HBR.out k h2; omega) | (have hb := HBT.out k h1; omega) | (have hb := HBT.out k h2; omega) | exact HDJ.out k h1 h2 | exact HDJ.out k h2 h1 | (have hb := HBR.out k h1; have hb2 := HBT.out k h2; omega) | (have hb := HBT.out k h1; have hb2 := HBR.out k h2; omega))))
      have Hx18 := Lib.hid (Hx12.out.mod hr (by intro h2; (try dsimp only at h2); (try simp only [false_or] at h2); omega))
      clear Hx7 Hx8 Hx9 Hx10 Hx11 Hx12
      clear hr
      refine QChain.cons rfl fun Z act hYZ hZ hout hsz hd hpre => ?_
      have h0 := hd ⟨0, .data⟩ (by simp) rfl _ rfl
      have h1 := hd ⟨1, .data⟩ (by simp) rfl _ rfl
      have h2 := hd ⟨2, .data⟩ (by simp) rfl _ rfl
      have ea19 : act.eval (.tmp 19) = .pointer (some ⟨g, 0, none⟩) := h1
      have ea20 : act.eval (.tmp 20) = .agg cs.toArray := h2
      refine qc_call (args := #[.pointer (some ⟨g, 0, none⟩), .agg cs.toArray]) rfl (wanted_none rfl) (by rw [ex_callV rfl h0 Try.func99 (by kernel_rfl) (by kernel_rfl)]; exact congrArg (fun z => Result.ok (Next.enter _ z) _) (by simp only [List.map_toArray, List.map_cons, List.map_nil, ea19, ea20]; try rfl)) (PutPm_Q _ _ _ _ _ _ _ Hx13.out (by intro k h1; (try dsimp only at h1); rcases h1 with h1 | h1 <;> (first | omega | (have hb := HBR.out k h1; omega) | (have hb := HBT.out k h1; omega))) Hx17.out (by intro k h1; (try dsimp only at h1); (first | omega | (have hb := HBR.out k h1; omega) | (have hb := HBT.out k h1; omega))) (by intro k h1 h2; (try dsimp only at h1 h2); (try simp only [false_or] at h1 h2); rcases h1 with h1 | h1 <;> (first | omega | (have hb := HBR.out k h1; omega) | (have hb := HBR.out k h2; omega) | (have hb := HBT.out k h1; omega) | (have hb := HBT.out k h2; omega) | exact HDJ.out k h1 h2 | exact HDJ.out k h2 h1 | (have hb := HBR.out k h1; have hb2 := HBT.out k h2; omega) | (have hb := HBT.out k h1; have hb2 := HBR.out k h2; omega))) HLk.out) ?_
      rintro e u4_1a ⟨rfl, qwr, hm⟩
      have zu4_1a := hm.size
      refine ⟨_, rfl, hm.mono (by intro k hk h; (try dsimp only at h ⊢); rcases h with h | h <;> first | omega | exact Or.inl ⟨(by have hb := HBR.out k h; omega), ⟨rfl, Or.inl h⟩⟩), (fun _ => rfl), ?_⟩
      intro u4_1 hr
      have zu4_1 := hr.size
      have Hx19 := Lib.hid ((qwr.widen (R' := (fun k => (R k) ∨ (w.heap.size ≤ k ∧ k < wo.heap.size) ∨ (u4_0.heap.size ≤ k ∧ k < u4_1a.heap.size))) (by intro k h1; (try unfold New at h1); (try dsimp only at h1 ⊢); (try simp only [false_or] at h1 ⊢); first | exact h1 | (simp only [or_assoc] at h1 ⊢; first | exact h1 | (rcases h1 with h1 | h1 <;> first | (left; exact h1) | (right; omega) | omega))) (Nat.le_refl _)).mod hr (by intro k h1 h2; (try dsimp only at h1 h2); (try simp only [false_or] at h1 h2); rcases h1 with h1 | h1 | h1 <;> (first | omega | (have hb := HBR.out k h1; omega) | (have hb := HBR.out k h2; omega) | (have hb := HBT.out k h1; omega) | (have hb := HBT.out k h2; omega) | exact HDJ.out k h1 h2 | exact HDJ.out k h2 h1 | (have hb := HBR.out k h1; have hb2 := HBT.out k h2; omega) | (have hb := HBT.out k h1; have hb2 := HBR.out k h2; omega))))
      have hmr := hm.two hr
      have Hx20 := Lib.hid (Hx14.out.mod hmr (by intro k h1 h2; (try dsimp only at h1 h2); (try simp only [false_or] at h1 h2); rcases h2 with (h2 | h2) | h2 <;> (first | omega | (have hb := HBR.out k h1; omega) | (have hb := HBR.out k h2; omega) | (have hb := HBT.out k h1; omega) | (have hb := HBT.out k h2; omega) | exact HDJ.out k h1 h2 | exact HDJ.out k h2 h1 | (have hb := HBR.out k h1; have hb2 := HBT.out k h2; omega) | (have hb := HBT.out k h1; have hb2 := HBR.out k h2; omega))))
      have Hx21 := Lib.hid (Hx15.out.trans hmr (by intro k h1 h2; (try dsimp only at h2 ⊢); (try simp only [false_or] at h2 ⊢); rcases h2 with (h2 | h2) | h2 <;> first | exact h2 | omega | (have hb := HBR.out k h2; omega) | (have hb := HBT.out k h2; omega)))
      have Hx22 := Lib.hid (Hx16.out.mod hmr (by intro k h1 h2; (try dsimp only at h1 h2); (try simp only [false_or] at h1 h2); rcases h2 with (h2 | h2) | h2 <;> (first | omega | (have hb := HBR.out k h1; omega) | (have hb := HBR.out k h2; omega) | (have hb := HBT.out k h1; omega) | (have hb := HBT.out k h2; omega) | exact HDJ.out k h1 h2 | exact HDJ.out k h2 h1 | (have hb := HBR.out k h1; have hb2 := HBT.out k h2; omega) | (have hb := HBT.out k h1; have hb2 := HBR.out k h2; omega))))
      have Hx23 := Lib.hid (Hx17.out.mod hmr (by intro k h1 h2; (try dsimp only at h1 h2); (try simp only [false_or] at h1 h2); rcases h2 with (h2 | h2) | h2 <;> (first | omega | (have hb := HBR.out k h1; omega) | (have hb := HBR.out k h2; omega) | (have hb := HBT.out k h1; omega) | (have hb := HBT.out k h2; omega) | exact HDJ.out k h1 h2 | exact HDJ.out k h2 h1 | (have hb := HBR.out k h1; have hb2 := HBT.out k h2; omega) | (have hb := HBT.out k h1; have hb2 := HBR.out k h2; omega))))
      have Hx24 := Lib.hid (Hx18.out.mod hmr (by intro h2; (try dsimp only at h2); (try simp only [false_or] at h2); rcases h2 with (h2 | h2) | h2 <;> first | omega | (have hb := HBR.out _ h2; omega) | (have hb := HBT.out _ h2; omega)))
      clear Hx14 Hx15 Hx16 Hx17 Hx18
      clear hmr
      clear hm hr hYZ hZ hout hsz hd hpre qwr Hx13 ea19 ea20 h0 h1 h2
      refine QChain.nil fun vs hl hzz hrows hne => ?_
      obtain ⟨Z, hYZ, hZb, hV⟩ := hzz
      obtain ⟨v0, vs0, rfl, hl0⟩ := list_cons hl
      obtain ⟨v1, vs1, rfl, hl1⟩ := list_cons hl0
      obtain ⟨v2, vs2, rfl, hl2⟩ := list_cons hl1
      obtain ⟨v3, vs3, rfl, hl3⟩ := list_cons hl2
      obtain rfl := list_nil hl3
      clear hl hl0 hl1 hl2 hl3
      obtain rfl : v0 = .func (.func 99) #[] #[] := hV 0 _ rfl
      obtain rfl : v1 = .pointer (some ⟨g, 0, none⟩) := hV 1 _ rfl
      obtain rfl : v3 = .tuple #[] := hV 3 _ rfl
      have ha0 := HA0.out
      subst ha0
      clear HA0 hV hYZ hZb hsz0 hrows hne oe0 oe2 oe7
      simp only [putAll, Act.put, List.setIfInBounds_toArray, List.set_cons_zero, List.set_cons_succ]
      have hq := Hx19.out
      rw [HE.out] at hq
      have HQ := Lib.hid hq
      clear hq
      go_wp2
      go_roundw
      case rel => exact ⟨k + 1, by go_num, by omega, by omega, (HQ.out.widen (by intro b h1; (try dsimp only at h1 ⊢); rcases h1 with h1 | h1 | h1 <;> first | exact Or.inl h1 | (right; omega)) (Nat.le_refl _)), Hx20.out, Hx21.out⟩
      case measure => simp [intOf]; omega
    · have hkk : k = l.length := by omega
      subst hkk
      go_wp2
      go_end0
      have hq := HW2.out
      rw [List.take_length] at hq
      exact ⟨rfl, hq, HM2.out⟩
set_option maxHeartbeats 4000000 in
theorem PutBa_Q : Puts BaR 95 baB := by
  intro R R2 g bs cs x w hW hB hx hB2 hD hl
  obtain ⟨v_ps, v_os, v_ts, rfl, hok, hs0, hs1, hs2⟩ := hx
  have HS0 := Lib.hid hs0
  clear hs0
  have HS1 := Lib.hid hs1
  clear hs1
  have HS2 := Lib.hid hs2
  clear hs2
  have HW := Lib.hid hW
  have HBR := Lib.hid hB
  have HBT := Lib.hid hB2
  have HDJ := Lib.hid hD
  have HOK := Lib.hid hok
  have HL := Lib.hid hl
  clear hW hB hB2 hD hl hok
  unfold baB at HL
  go_enter Try.func95, Try.ntmps95
  go_upto_region 1 with (fail)
  obtain ⟨w1, hw1⟩ : ∃ zz, zz = (w.alloc (.cells (x.cells v_ps v_os v_ts : List Value).toArray 60)) := ⟨_, rfl⟩
  change Code.wp _ _ _ _ (w.alloc (.cells (x.cells v_ps v_os v_ts : List Value).toArray 60))
  rw [← hw1]
  have HB3 := Lib.hid (show Cs w1 (w.heap.size) (x.cells v_ps v_os v_ts : List Value).toArray 60 by rw [hw1]; exact Cs.new _ _ _)
  have hm : Mod (fun _ => False) w w1 := by rw [hw1]; exact (Mod.refl _ _).alloc _
  have HM0 := Lib.hid (show Mod (fun k => (R k)) w w1 from hm.mono (fun _ _ h => h.elim))
  have hs1 : w1.heap.size = w.heap.size + 1 := by rw [hw1]; simp
  have Hx1 := Lib.hid (HW.out.mod hm (fun _ _ h => h))
  clear HW
  have Hx2 := Lib.hid (HS0.out.mod hm (fun _ _ h => h))
  clear HS0
  have Hx3 := Lib.hid (HS1.out.mod hm (fun _ _ h => h))
  clear HS1
  have Hx4 := Lib.hid (HS2.out.mod hm (fun _ _ h => h))
  clear HS2
  clear hw1 hm
  go_upto_region 1 with (fail)
  generalize ha0 : Act.mk _ _ = a0
  have oe0 : a0.eval (.tmp 0) = .pointer (some ⟨g, 0, none⟩) := by rw [← ha0]; rfl
  have oe3 : a0.eval (.tmp 3) = .pointer (some ⟨w.heap.size, 0, none⟩) := by rw [← ha0]; rfl
  have hsz0 : a0.tmps.size = 23 := by rw [← ha0]; rfl
  have HA0 := Lib.hid ha0
  clear ha0
  refine wp_region_Q 23 hsz0 (by kernel_rfl) (by kernel_rfl) [4, 5, 6, 7, 8, 9, 10] (by kernel_rfl) (by decide) (fun k => (R k)) (fun k j => (k = 0 ∧ ((R j))) ∨ (k = 1 ∧ ((R j)))) (by intro k j h; (try dsimp only at h ⊢); rcases h with ⟨-, h⟩ | ⟨-, h⟩; (exact h); (exact h)) [qi (.pointer (some ⟨g, 0, none⟩)), qi (.pointer (some ⟨w.heap.size, 0, none⟩)), qi (.int .i64 x.ep), qi (.pointer (some ⟨g, 0, none⟩)), qi (.pointer (some ⟨w.heap.size, 1, none⟩)), qi (.int .u64 (x.tm : Nat)), qi (.pointer (some ⟨g, 0, none⟩))] ⟨qi_stable, qi_stable, qi_stable, qi_stable, qi_stable, qi_stable, qi_stable, trivial⟩ [3, 6] (by kernel_rfl) (by decide) (by kernel_rfl) [] (by kernel_rfl) (by intro r hr; cases hr) (by intro r hr; cases hr) (by intro r hr; cases hr) ⟨?_, ?_, ?_, ?_, ?_, ?_, ?_, trivial⟩ ?_
  · refine stepq_env rfl rfl rfl fun Z tr act w' hZ hm hm0 hout hsz hd hub hpre => ?_
    refine qe_run rfl (wanted_none rfl) (ex_move rfl ((hout 0 (by decide)).trans oe0)) QE.refl ?_
    rfl
  · refine stepq_env rfl rfl rfl fun Z tr act w' hZ hm hm0 hout hsz hd hub hpre => ?_
    refine qe_run rfl (wanted_none rfl) (ex_field rfl Try.underlying60 rfl (by kernel_rfl) ((hout 3 (by decide)).trans oe3)) QE.refl ?_
    rfl
  · refine stepq_env rfl rfl rfl fun Z tr act w' hZ hm hm0 hout hsz hd hub hpre => ?_
    have h1 := hd ⟨1, .data⟩ (by simp) rfl _ rfl
    refine qe_run rfl (wanted_none rfl) (ex_load1 rfl Try.underlying3 rfl h1 (Cs.lit1 (HB3.out.mod hm (by intro h2; (try dsimp only at h2); (try simp only [false_or] at h2); rcases h2 with ⟨h0, h2⟩ | h2 <;> first | omega | (have hb := HBR.out _ h2; omega) | (have hb := HBT.out _ h2; omega))) rfl)) QE.refl ?_
    rfl
  · exact stepq_chain rfl
  · refine stepq_env rfl rfl rfl fun Z tr act w' hZ hm hm0 hout hsz hd hub hpre => ?_
    refine qe_run rfl (wanted_none rfl) (ex_field rfl Try.underlying60 rfl (by kernel_rfl) ((hout 3 (by decide)).trans oe3)) QE.refl ?_
    rfl
  · refine stepq_env rfl rfl rfl fun Z tr act w' hZ hm hm0 hout hsz hd hub hpre => ?_
    have h4 := hd ⟨4, .data⟩ (by simp) rfl _ rfl
    refine qe_run rfl (wanted_none rfl) (ex_load1 rfl Try.underlying26 rfl h4 (Cs.lit1 (HB3.out.mod hm (by intro h2; (try dsimp only at h2); (try simp only [false_or] at h2); rcases h2 with ⟨h0, h2⟩ | h2 <;> first | omega | (have hb := HBR.out _ h2; omega) | (have hb := HBT.out _ h2; omega))) rfl)) QE.refl ?_
    rfl
  · exact stepq_chain rfl
  intro u1_0 hr
  have zu1_0 := hr.size
  have Hx5 := Lib.hid (Hx1.out.mod hr (by intro k h1 h2; (try dsimp only at h1 h2); (try simp only [false_or] at h1 h2); (first | omega | (have hb := HBR.out k h1; omega) | (have hb := HBR.out k h2; omega) | (have hb := HBT.out k h1; omega) | (have hb := HBT.out k h2; omega) | exact HDJ.out k h1 h2 | exact HDJ.out k h2 h1 | (have hb := HBR.out k h1; have hb2 := HBT.out k h2; omega) | (have hb := HBT.out k h1; have hb2 := HBR.out k h2; omega))))
  have Hx6 := Lib.hid (Hx2.out.mod hr (by intro k h1 h2; (try dsimp only at h1 h2); (try simp only [false_or] at h1 h2); (first | omega | (have hb := HBR.out k h1; omega) | (have hb := HBR.out k h2; omega) | (have hb := HBT.out k h1; omega) | (have hb := HBT.out k h2; omega) | exact HDJ.out k h1 h2 | exact HDJ.out k h2 h1 | (have hb := HBR.out k h1; have hb2 := HBT.out k h2; omega) | (have hb := HBT.out k h1; have hb2 := HBR.out k h2; omega))))
  have Hx7 := Lib.hid (Hx3.out.mod hr (by intro k h1 h2; (try dsimp only at h1 h2); (try simp only [false_or] at h1 h2); (first | omega | (have hb := HBR.out k h1; omega) | (have hb := HBR.out k h2; omega) | (have hb := HBT.out k h1; omega) | (have hb := HBT.out k h2; omega) | exact HDJ.out k h1 h2 | exact HDJ.out k h2 h1 | (have hb := HBR.out k h1; have hb2 := HBT.out k h2; omega) | (have hb := HBT.out k h1; have hb2 := HBR.out k h2; omega))))
  have Hx8 := Lib.hid (Hx4.out.mod hr (by intro k h1 h2; (try dsimp only at h1 h2); (try simp only [false_or] at h1 h2); (first | omega | (have hb := HBR.out k h1; omega) | (have hb := HBR.out k h2; omega) | (have hb := HBT.out k h1; omega) | (have hb := HBT.out k h2; omega) | exact HDJ.out k h1 h2 | exact HDJ.out k h2 h1 | (have hb := HBR.out k h1; have hb2 := HBT.out k h2; omega) | (have hb := HBT.out k h1; have hb2 := HBR.out k h2; omega))))
  have Hx9 := Lib.hid (HB3.out.mod hr (by intro h2; (try dsimp only at h2); (try simp only [false_or] at h2); omega))
  have Hx10 := Lib.hid (HM0.out.trans hr (by intro k h1 h2; (try dsimp only at h2 ⊢); (try simp only [false_or] at h2 ⊢); first | exact h2 | omega | (have hb := HBR.out k h2; omega) | (have hb := HBT.out k h2; omega)))
  clear Hx1 Hx2 Hx3 Hx4 HB3 HM0
  clear hr
  refine QChain.cons rfl fun Z act hYZ hZ hout hsz hd hpre => ?_
  have h0 := hd ⟨0, .data⟩ (by simp) rfl _ rfl
  have h2 := hd ⟨2, .data⟩ (by simp) rfl _ rfl
  have ea4 : act.eval (.tmp 4) = .pointer (some ⟨g, 0, none⟩) := h0
  have ea6 : act.eval (.tmp 6) = .int .i64 x.ep := h2
  refine qc_call (args := #[.pointer (some ⟨g, 0, none⟩), .int .i64 x.ep]) rfl (wanted_none rfl) (by rw [ex_callF rfl Try.func64 (by kernel_rfl) (by kernel_rfl)]; exact congrArg (fun z => Result.ok (Next.enter _ z) _) (by simp only [List.map_toArray, List.map_cons, List.map_nil, ea4, ea6]; try rfl)) (WInt_Q Hx5.out HOK.out.1 (by have := HL.out; simp only [List.length_append] at this ⊢; omega)) ?_
  rintro e u1_1a ⟨rfl, qwr, hm⟩
  have zu1_1a := hm.size
  refine ⟨_, rfl, hm.mono (by intro k hk h; (try dsimp only at h ⊢); first | omega | exact Or.inl ⟨(by have hb := HBR.out k h; omega), Or.inl ⟨rfl, h⟩⟩), (fun _ => rfl), ?_⟩
  intro u1_1 hr
  have zu1_1 := hr.size
  have Hx11 := Lib.hid ((qwr.widen (R' := (fun k => (R k) ∨ (u1_0.heap.size ≤ k ∧ k < u1_1a.heap.size))) (by intro k h1; (try unfold New at h1); (try dsimp only at h1 ⊢); (try simp only [false_or] at h1 ⊢); first | exact h1 | (simp only [or_assoc] at h1 ⊢; first | exact h1 | (rcases h1 with h1 | h1 <;> first | (left; exact h1) | (right; omega) | omega))) (Nat.le_refl _)).mod hr (by intro k h1 h2; (try dsimp only at h1 h2); (try simp only [false_or] at h1 h2); rcases h1 with h1 | h1 <;> (first | omega | (have hb := HBR.out k h1; omega) | (have hb := HBR.out k h2; omega) | (have hb := HBT.out k h1; omega) | (have hb := HBT.out k h2; omega) | exact HDJ.out k h1 h2 | exact HDJ.out k h2 h1 | (have hb := HBR.out k h1; have hb2 := HBT.out k h2; omega) | (have hb := HBT.out k h1; have hb2 := HBR.out k h2; omega))))
  have hmr := hm.two hr
  have Hx12 := Lib.hid (Hx6.out.mod hmr (by intro k h1 h2; (try dsimp only at h1 h2); (try simp only [false_or] at h1 h2); rcases h2 with h2 | h2 <;> (first | omega | (have hb := HBR.out k h1; omega) | (have hb := HBR.out k h2; omega) | (have hb := HBT.out k h1; omega) | (have hb := HBT.out k h2; omega) | exact HDJ.out k h1 h2 | exact HDJ.out k h2 h1 | (have hb := HBR.out k h1; have hb2 := HBT.out k h2; omega) | (have hb := HBT.out k h1; have hb2 := HBR.out k h2; omega))))
  have Hx13 := Lib.hid (Hx7.out.mod hmr (by intro k h1 h2; (try dsimp only at h1 h2); (try simp only [false_or] at h1 h2); rcases h2 with h2 | h2 <;> (first | omega | (have hb := HBR.out k h1; omega) | (have hb := HBR.out k h2; omega) | (have hb := HBT.out k h1; omega) | (have hb := HBT.out k h2; omega) | exact HDJ.out k h1 h2 | exact HDJ.out k h2 h1 | (have hb := HBR.out k h1; have hb2 := HBT.out k h2; omega) | (have hb := HBT.out k h1; have hb2 := HBR.out k h2; omega))))
  have Hx14 := Lib.hid (Hx8.out.mod hmr (by intro k h1 h2; (try dsimp only at h1 h2); (try simp only [false_or] at h1 h2); rcases h2 with h2 | h2 <;> (first | omega | (have hb := HBR.out k h1; omega) | (have hb := HBR.out k h2; omega) | (have hb := HBT.out k h1; omega) | (have hb := HBT.out k h2; omega) | exact HDJ.out k h1 h2 | exact HDJ.out k h2 h1 | (have hb := HBR.out k h1; have hb2 := HBT.out k h2; omega) | (have hb := HBT.out k h1; have hb2 := HBR.out k h2; omega))))
  have Hx15 := Lib.hid (Hx9.out.mod hmr (by intro h2; (try dsimp only at h2); (try simp only [false_or] at h2); rcases h2 with h2 | h2 <;> first | omega | (have hb := HBR.out _ h2; omega) | (have hb := HBT.out _ h2; omega)))
  have Hx16 := Lib.hid (Hx10.out.trans hmr (by intro k h1 h2; (try dsimp only at h2 ⊢); (try simp only [false_or] at h2 ⊢); rcases h2 with h2 | h2 <;> first | exact h2 | omega | (have hb := HBR.out k h2; omega) | (have hb := HBT.out k h2; omega)))
  clear Hx6 Hx7 Hx8 Hx9 Hx10
  clear hmr
  clear hm hr hYZ hZ hout hsz hd hpre qwr Hx5 ea4 ea6 h0 h2
  refine QChain.cons rfl fun Z act hYZ hZ hout hsz hd hpre => ?_
  have h3 := hd ⟨3, .data⟩ (by simp) rfl _ rfl
  have h5 := hd ⟨5, .data⟩ (by simp) rfl _ rfl
  have ea7 : act.eval (.tmp 7) = .pointer (some ⟨g, 0, none⟩) := h3
  have ea9 : act.eval (.tmp 9) = .int .u64 (x.tm : Nat) := h5
  refine qc_call (args := #[.pointer (some ⟨g, 0, none⟩), .int .u64 (x.tm : Nat)]) rfl (wanted_none rfl) (by rw [ex_callF rfl Try.func67 (by kernel_rfl) (by kernel_rfl)]; exact congrArg (fun z => Result.ok (Next.enter _ z) _) (by simp only [List.map_toArray, List.map_cons, List.map_nil, ea7, ea9]; try rfl)) (WNum_Q Hx11.out HOK.out.2 (by have := HL.out; simp only [List.length_append] at this ⊢; omega)) ?_
  rintro e u1_2a ⟨rfl, qwr, hm⟩
  have zu1_2a := hm.size
  refine ⟨_, rfl, hm.mono (by intro k hk h; (try dsimp only at h ⊢); rcases h with h | h <;> first | omega | exact Or.inl ⟨(by have hb := HBR.out k h; omega), Or.inr (⟨rfl, h⟩)⟩), (fun _ => rfl), ?_⟩
  intro u1_2 hr
  have zu1_2 := hr.size
  have Hx17 := Lib.hid ((qwr.widen (R' := (fun k => (R k) ∨ (u1_0.heap.size ≤ k ∧ k < u1_1a.heap.size) ∨ (u1_1.heap.size ≤ k ∧ k < u1_2a.heap.size))) (by intro k h1; (try unfold New at h1); (try dsimp only at h1 ⊢); (try simp only [false_or] at h1 ⊢); first | exact h1 | (simp only [or_assoc] at h1 ⊢; first | exact h1 | (rcases h1 with h1 | h1 <;> first | (left; exact h1) | (right; omega) | omega))) (Nat.le_refl _)).mod hr (by intro k h1 h2; (try dsimp only at h1 h2); (try simp only [false_or] at h1 h2); rcases h1 with h1 | h1 | h1 <;> (first | omega | (have hb := HBR.out k h1; omega) | (have hb := HBR.out k h2; omega) | (have hb := HBT.out k h1; omega) | (have hb := HBT.out k h2; omega) | exact HDJ.out k h1 h2 | exact HDJ.out k h2 h1 | (have hb := HBR.out k h1; have hb2 := HBT.out k h2; omega) | (have hb := HBT.out k h1; have hb2 := HBR.out k h2; omega))))
  have hmr := hm.two hr
  have Hx18 := Lib.hid (Hx12.out.mod hmr (by intro k h1 h2; (try dsimp only at h1 h2); (try simp only [false_or] at h1 h2); rcases h2 with (h2 | h2) | h2 <;> (first | omega | (have hb := HBR.out k h1; omega) | (have hb := HBR.out k h2; omega) | (have hb := HBT.out k h1; omega) | (have hb := HBT.out k h2; omega) | exact HDJ.out k h1 h2 | exact HDJ.out k h2 h1 | (have hb := HBR.out k h1; have hb2 := HBT.out k h2; omega) | (have hb := HBT.out k h1; have hb2 := HBR.out k h2; omega))))
  have Hx19 := Lib.hid (Hx13.out.mod hmr (by intro k h1 h2; (try dsimp only at h1 h2); (try simp only [false_or] at h1 h2); rcases h2 with (h2 | h2) | h2 <;> (first | omega | (have hb := HBR.out k h1; omega) | (have hb := HBR.out k h2; omega) | (have hb := HBT.out k h1; omega) | (have hb := HBT.out k h2; omega) | exact HDJ.out k h1 h2 | exact HDJ.out k h2 h1 | (have hb := HBR.out k h1; have hb2 := HBT.out k h2; omega) | (have hb := HBT.out k h1; have hb2 := HBR.out k h2; omega))))
  have Hx20 := Lib.hid (Hx14.out.mod hmr (by intro k h1 h2; (try dsimp only at h1 h2); (try simp only [false_or] at h1 h2); rcases h2 with (h2 | h2) | h2 <;> (first | omega | (have hb := HBR.out k h1; omega) | (have hb := HBR.out k h2; omega) | (have hb := HBT.out k h1; omega) | (have hb := HBT.out k h2; omega) | exact HDJ.out k h1 h2 | exact HDJ.out k h2 h1 | (have hb := HBR.out k h1; have hb2 := HBT.out k h2; omega) | (have hb := HBT.out k h1; have hb2 := HBR.out k h2; omega))))
  have Hx21 := Lib.hid (Hx15.out.mod hmr (by intro h2; (try dsimp only at h2); (try simp only [false_or] at h2); rcases h2 with (h2 | h2) | h2 <;> first | omega | (have hb := HBR.out _ h2; omega) | (have hb := HBT.out _ h2; omega)))
  have Hx22 := Lib.hid (Hx16.out.trans hmr (by intro k h1 h2; (try dsimp only at h2 ⊢); (try simp only [false_or] at h2 ⊢); rcases h2 with (h2 | h2) | h2 <;> first | exact h2 | omega | (have hb := HBR.out k h2; omega) | (have hb := HBT.out k h2; omega)))
  clear Hx12 Hx13 Hx14 Hx15 Hx16
  clear hmr
  clear hm hr hYZ hZ hout hsz hd hpre qwr Hx11 ea7 ea9 h3 h5
  refine QChain.nil fun vs hl hzz hrows hne => ?_
  obtain ⟨Z, hYZ, hZb, hV⟩ := hzz
  obtain ⟨v0, vs0, rfl, hl0⟩ := list_cons hl
  obtain ⟨v1, vs1, rfl, hl1⟩ := list_cons hl0
  obtain ⟨v2, vs2, rfl, hl2⟩ := list_cons hl1
  obtain ⟨v3, vs3, rfl, hl3⟩ := list_cons hl2
  obtain ⟨v4, vs4, rfl, hl4⟩ := list_cons hl3
  obtain ⟨v5, vs5, rfl, hl5⟩ := list_cons hl4
  obtain ⟨v6, vs6, rfl, hl6⟩ := list_cons hl5
  obtain rfl := list_nil hl6
  clear hl hl0 hl1 hl2 hl3 hl4 hl5 hl6
  obtain rfl : v0 = .pointer (some ⟨g, 0, none⟩) := hV 0 _ rfl
  obtain rfl : v3 = .pointer (some ⟨g, 0, none⟩) := hV 3 _ rfl
  obtain rfl : v6 = .pointer (some ⟨g, 0, none⟩) := hV 6 _ rfl
  have ha0 := HA0.out
  subst ha0
  clear HA0 hV hYZ hZb hsz0 hrows hne oe0 oe3
  simp only [putAll, Act.put, List.setIfInBounds_toArray, List.set_cons_zero, List.set_cons_succ]
  go_upto_region 2 with (fail)
  generalize ha0 : Act.mk _ _ = a0
  have oe0 : a0.eval (.tmp 0) = .pointer (some ⟨g, 0, none⟩) := by rw [← ha0]; rfl
  have oe3 : a0.eval (.tmp 3) = .pointer (some ⟨w.heap.size, 0, none⟩) := by rw [← ha0]; rfl
  have hsz0 : a0.tmps.size = 23 := by rw [← ha0]; rfl
  have HA0 := Lib.hid ha0
  clear ha0
  refine wp_region_Q 23 hsz0 (by kernel_rfl) (by kernel_rfl) [11, 12, 13, 14] (by kernel_rfl) (by decide) (fun k => (R k) ∨ (u1_0.heap.size ≤ k ∧ k < u1_1a.heap.size) ∨ (u1_1.heap.size ≤ k ∧ k < u1_2a.heap.size)) (fun k j => (k = 0 ∧ ((R j) ∨ (u1_0.heap.size ≤ j ∧ j < u1_1a.heap.size) ∨ (u1_1.heap.size ≤ j ∧ j < u1_2a.heap.size)))) (by intro k j h; (try dsimp only at h ⊢); rcases h with ⟨-, h | h | h⟩; (exact Or.inl (h)); (exact Or.inr (Or.inl (h))); (exact Or.inr (Or.inr (h)))) [qi (.pointer (some ⟨g, 0, none⟩)), qi (.pointer (some ⟨w.heap.size, 2, none⟩)), qi (v_ps), qi (.tuple #[])] ⟨qi_stable, qi_stable, qi_stable, qi_stable, trivial⟩ [3] (by kernel_rfl) (by decide) (by kernel_rfl) [] (by kernel_rfl) (by intro r hr; cases hr) (by intro r hr; cases hr) (by intro r hr; cases hr) ⟨?_, ?_, ?_, ?_, trivial⟩ ?_
  · refine stepq_env rfl rfl rfl fun Z tr act w' hZ hm hm0 hout hsz hd hub hpre => ?_
    refine qe_run rfl (wanted_none rfl) (ex_move rfl ((hout 0 (by decide)).trans oe0)) QE.refl ?_
    rfl
  · refine stepq_env rfl rfl rfl fun Z tr act w' hZ hm hm0 hout hsz hd hub hpre => ?_
    refine qe_run rfl (wanted_none rfl) (ex_field rfl Try.underlying60 rfl (by kernel_rfl) ((hout 3 (by decide)).trans oe3)) QE.refl ?_
    rfl
  · refine stepq_env rfl rfl rfl fun Z tr act w' hZ hm hm0 hout hsz hd hub hpre => ?_
    have h1 := hd ⟨1, .data⟩ (by simp) rfl _ rfl
    refine qe_run rfl (wanted_none rfl) (ex_load1 rfl Try.underlying56 rfl h1 (Cs.lit1 (Hx21.out.mod hm (by intro h2; (try dsimp only at h2); (try simp only [false_or] at h2); rcases h2 with ⟨h0, h2 | h2 | h2⟩ | h2 <;> first | omega | (have hb := HBR.out _ h2; omega) | (have hb := HBT.out _ h2; omega))) rfl)) QE.refl ?_
    rfl
  · exact stepq_chain rfl
  intro u2_0 hr
  have zu2_0 := hr.size
  have Hx23 := Lib.hid (Hx17.out.mod hr (by intro k h1 h2; (try dsimp only at h1 h2); (try simp only [false_or] at h1 h2); rcases h1 with h1 | h1 | h1 <;> (first | omega | (have hb := HBR.out k h1; omega) | (have hb := HBR.out k h2; omega) | (have hb := HBT.out k h1; omega) | (have hb := HBT.out k h2; omega) | exact HDJ.out k h1 h2 | exact HDJ.out k h2 h1 | (have hb := HBR.out k h1; have hb2 := HBT.out k h2; omega) | (have hb := HBT.out k h1; have hb2 := HBR.out k h2; omega))))
  have Hx24 := Lib.hid (Hx18.out.mod hr (by intro k h1 h2; (try dsimp only at h1 h2); (try simp only [false_or] at h1 h2); (first | omega | (have hb := HBR.out k h1; omega) | (have hb := HBR.out k h2; omega) | (have hb := HBT.out k h1; omega) | (have hb := HBT.out k h2; omega) | exact HDJ.out k h1 h2 | exact HDJ.out k h2 h1 | (have hb := HBR.out k h1; have hb2 := HBT.out k h2; omega) | (have hb := HBT.out k h1; have hb2 := HBR.out k h2; omega))))
  have Hx25 := Lib.hid (Hx19.out.mod hr (by intro k h1 h2; (try dsimp only at h1 h2); (try simp only [false_or] at h1 h2); (first | omega | (have hb := HBR.out k h1; omega) | (have hb := HBR.out k h2; omega) | (have hb := HBT.out k h1; omega) | (have hb := HBT.out k h2; omega) | exact HDJ.out k h1 h2 | exact HDJ.out k h2 h1 | (have hb := HBR.out k h1; have hb2 := HBT.out k h2; omega) | (have hb := HBT.out k h1; have hb2 := HBR.out k h2; omega))))
  have Hx26 := Lib.hid (Hx20.out.mod hr (by intro k h1 h2; (try dsimp only at h1 h2); (try simp only [false_or] at h1 h2); (first | omega | (have hb := HBR.out k h1; omega) | (have hb := HBR.out k h2; omega) | (have hb := HBT.out k h1; omega) | (have hb := HBT.out k h2; omega) | exact HDJ.out k h1 h2 | exact HDJ.out k h2 h1 | (have hb := HBR.out k h1; have hb2 := HBT.out k h2; omega) | (have hb := HBT.out k h1; have hb2 := HBR.out k h2; omega))))
  have Hx27 := Lib.hid (Hx21.out.mod hr (by intro h2; (try dsimp only at h2); (try simp only [false_or] at h2); omega))
  have Hx28 := Lib.hid (Hx22.out.trans hr (by intro k h1 h2; (try dsimp only at h2 ⊢); (try simp only [false_or] at h2 ⊢); first | exact h2 | omega | (have hb := HBR.out k h2; omega) | (have hb := HBT.out k h2; omega)))
  clear Hx17 Hx18 Hx19 Hx20 Hx21 Hx22
  clear hr
  refine QChain.cons rfl fun Z act hYZ hZ hout hsz hd hpre => ?_
  have h0 := hd ⟨0, .data⟩ (by simp) rfl _ rfl
  have h2 := hd ⟨2, .data⟩ (by simp) rfl _ rfl
  have ea11 : act.eval (.tmp 11) = .pointer (some ⟨g, 0, none⟩) := h0
  have ea13 : act.eval (.tmp 13) = v_ps := h2
  refine qc_call (args := #[.pointer (some ⟨g, 0, none⟩), v_ps, .func (.func 99) #[] #[]]) rfl (wanted_none rfl) (by rw [ex_callF rfl Try.func130 (by kernel_rfl) (by kernel_rfl)]; exact congrArg (fun z => Result.ok (Next.enter _ z) _) (by simp only [List.map_toArray, List.map_cons, List.map_nil, ea11, ea13]; try rfl)) (PutList_Pm _ _ _ _ _ _ _ Hx23.out (by intro k h1; (try dsimp only at h1); rcases h1 with h1 | h1 | h1 <;> (first | omega | (have hb := HBR.out k h1; omega) | (have hb := HBT.out k h1; omega))) Hx24.out (by intro k h1; (try dsimp only at h1); (first | omega | (have hb := HBR.out k h1; omega) | (have hb := HBT.out k h1; omega))) (by intro k h1 h2; (try dsimp only at h1 h2); (try simp only [false_or] at h1 h2); rcases h1 with h1 | h1 | h1 <;> (first | omega | (have hb := HBR.out k h1; omega) | (have hb := HBR.out k h2; omega) | (have hb := HBT.out k h1; omega) | (have hb := HBT.out k h2; omega) | exact HDJ.out k h1 h2 | exact HDJ.out k h2 h1 | (have hb := HBR.out k h1; have hb2 := HBT.out k h2; omega) | (have hb := HBT.out k h1; have hb2 := HBR.out k h2; omega))) (by have := HL.out; simp only [List.length_append] at this ⊢; omega)) ?_
  rintro e u2_1a ⟨rfl, qwr, hm⟩
  have zu2_1a := hm.size
  refine ⟨_, rfl, hm.mono (by intro k hk h; (try dsimp only at h ⊢); rcases h with h | h | h <;> first | omega | exact Or.inl ⟨(by have hb := HBR.out k h; omega), ⟨rfl, Or.inl h⟩⟩), (fun _ => rfl), ?_⟩
  intro u2_1 hr
  have zu2_1 := hr.size
  have Hx29 := Lib.hid ((qwr.widen (R' := (fun k => (R k) ∨ (u1_0.heap.size ≤ k ∧ k < u1_1a.heap.size) ∨ (u1_1.heap.size ≤ k ∧ k < u1_2a.heap.size) ∨ (u2_0.heap.size ≤ k ∧ k < u2_1a.heap.size))) (by intro k h1; (try unfold New at h1); (try dsimp only at h1 ⊢); (try simp only [false_or] at h1 ⊢); first | exact h1 | (simp only [or_assoc] at h1 ⊢; first | exact h1 | (rcases h1 with h1 | h1 <;> first | (left; exact h1) | (right; omega) | omega))) (Nat.le_refl _)).mod hr (by intro k h1 h2; (try dsimp only at h1 h2); (try simp only [false_or] at h1 h2); rcases h1 with h1 | h1 | h1 | h1 <;> (first | omega | (have hb := HBR.out k h1; omega) | (have hb := HBR.out k h2; omega) | (have hb := HBT.out k h1; omega) | (have hb := HBT.out k h2; omega) | exact HDJ.out k h1 h2 | exact HDJ.out k h2 h1 | (have hb := HBR.out k h1; have hb2 := HBT.out k h2; omega) | (have hb := HBT.out k h1; have hb2 := HBR.out k h2; omega))))
  have hmr := hm.two hr
  have Hx30 := Lib.hid (Hx24.out.mod hmr (by intro k h1 h2; (try dsimp only at h1 h2); (try simp only [false_or] at h1 h2); rcases h2 with (h2 | h2 | h2) | h2 <;> (first | omega | (have hb := HBR.out k h1; omega) | (have hb := HBR.out k h2; omega) | (have hb := HBT.out k h1; omega) | (have hb := HBT.out k h2; omega) | exact HDJ.out k h1 h2 | exact HDJ.out k h2 h1 | (have hb := HBR.out k h1; have hb2 := HBT.out k h2; omega) | (have hb := HBT.out k h1; have hb2 := HBR.out k h2; omega))))
  have Hx31 := Lib.hid (Hx25.out.mod hmr (by intro k h1 h2; (try dsimp only at h1 h2); (try simp only [false_or] at h1 h2); rcases h2 with (h2 | h2 | h2) | h2 <;> (first | omega | (have hb := HBR.out k h1; omega) | (have hb := HBR.out k h2; omega) | (have hb := HBT.out k h1; omega) | (have hb := HBT.out k h2; omega) | exact HDJ.out k h1 h2 | exact HDJ.out k h2 h1 | (have hb := HBR.out k h1; have hb2 := HBT.out k h2; omega) | (have hb := HBT.out k h1; have hb2 := HBR.out k h2; omega))))
  have Hx32 := Lib.hid (Hx26.out.mod hmr (by intro k h1 h2; (try dsimp only at h1 h2); (try simp only [false_or] at h1 h2); rcases h2 with (h2 | h2 | h2) | h2 <;> (first | omega | (have hb := HBR.out k h1; omega) | (have hb := HBR.out k h2; omega) | (have hb := HBT.out k h1; omega) | (have hb := HBT.out k h2; omega) | exact HDJ.out k h1 h2 | exact HDJ.out k h2 h1 | (have hb := HBR.out k h1; have hb2 := HBT.out k h2; omega) | (have hb := HBT.out k h1; have hb2 := HBR.out k h2; omega))))
  have Hx33 := Lib.hid (Hx27.out.mod hmr (by intro h2; (try dsimp only at h2); (try simp only [false_or] at h2); rcases h2 with (h2 | h2 | h2) | h2 <;> first | omega | (have hb := HBR.out _ h2; omega) | (have hb := HBT.out _ h2; omega)))
  have Hx34 := Lib.hid (Hx28.out.trans hmr (by intro k h1 h2; (try dsimp only at h2 ⊢); (try simp only [false_or] at h2 ⊢); rcases h2 with (h2 | h2 | h2) | h2 <;> first | exact h2 | omega | (have hb := HBR.out k h2; omega) | (have hb := HBT.out k h2; omega)))
  clear Hx24 Hx25 Hx26 Hx27 Hx28
  clear hmr
  clear hm hr hYZ hZ hout hsz hd hpre qwr Hx23 ea11 ea13 h0 h2
  refine QChain.nil fun vs hl hzz hrows hne => ?_
  obtain ⟨Z, hYZ, hZb, hV⟩ := hzz
  obtain ⟨v0, vs0, rfl, hl0⟩ := list_cons hl
  obtain ⟨v1, vs1, rfl, hl1⟩ := list_cons hl0
  obtain ⟨v2, vs2, rfl, hl2⟩ := list_cons hl1
  obtain ⟨v3, vs3, rfl, hl3⟩ := list_cons hl2
  obtain rfl := list_nil hl3
  clear hl hl0 hl1 hl2 hl3
  obtain rfl : v0 = .pointer (some ⟨g, 0, none⟩) := hV 0 _ rfl
  obtain rfl : v3 = .tuple #[] := hV 3 _ rfl
  have ha0 := HA0.out
  subst ha0
  clear HA0 hV hYZ hZb hsz0 hrows hne oe0 oe3
  simp only [putAll, Act.put, List.setIfInBounds_toArray, List.set_cons_zero, List.set_cons_succ]
  go_upto_region 3 with (fail)
  generalize ha0 : Act.mk _ _ = a0
  have oe0 : a0.eval (.tmp 0) = .pointer (some ⟨g, 0, none⟩) := by rw [← ha0]; rfl
  have oe3 : a0.eval (.tmp 3) = .pointer (some ⟨w.heap.size, 0, none⟩) := by rw [← ha0]; rfl
  have hsz0 : a0.tmps.size = 23 := by rw [← ha0]; rfl
  have HA0 := Lib.hid ha0
  clear ha0
  refine wp_region_Q 23 hsz0 (by kernel_rfl) (by kernel_rfl) [15, 16, 17, 18] (by kernel_rfl) (by decide) (fun k => (R k) ∨ (u1_0.heap.size ≤ k ∧ k < u1_1a.heap.size) ∨ (u1_1.heap.size ≤ k ∧ k < u1_2a.heap.size) ∨ (u2_0.heap.size ≤ k ∧ k < u2_1a.heap.size)) (fun k j => (k = 0 ∧ ((R j) ∨ (u1_0.heap.size ≤ j ∧ j < u1_1a.heap.size) ∨ (u1_1.heap.size ≤ j ∧ j < u1_2a.heap.size) ∨ (u2_0.heap.size ≤ j ∧ j < u2_1a.heap.size)))) (by intro k j h; (try dsimp only at h ⊢); rcases h with ⟨-, h | h | h | h⟩; (exact Or.inl (h)); (exact Or.inr (Or.inl (h))); (exact Or.inr (Or.inr (Or.inl (h)))); (exact Or.inr (Or.inr (Or.inr (h))))) [qi (.pointer (some ⟨g, 0, none⟩)), qi (.pointer (some ⟨w.heap.size, 3, none⟩)), qi (v_os), qi (.tuple #[])] ⟨qi_stable, qi_stable, qi_stable, qi_stable, trivial⟩ [3] (by kernel_rfl) (by decide) (by kernel_rfl) [] (by kernel_rfl) (by intro r hr; cases hr) (by intro r hr; cases hr) (by intro r hr; cases hr) ⟨?_, ?_, ?_, ?_, trivial⟩ ?_
  · refine stepq_env rfl rfl rfl fun Z tr act w' hZ hm hm0 hout hsz hd hub hpre => ?_
    refine qe_run rfl (wanted_none rfl) (ex_move rfl ((hout 0 (by decide)).trans oe0)) QE.refl ?_
    rfl
  · refine stepq_env rfl rfl rfl fun Z tr act w' hZ hm hm0 hout hsz hd hub hpre => ?_
    refine qe_run rfl (wanted_none rfl) (ex_field rfl Try.underlying60 rfl (by kernel_rfl) ((hout 3 (by decide)).trans oe3)) QE.refl ?_
    rfl
  · refine stepq_env rfl rfl rfl fun Z tr act w' hZ hm hm0 hout hsz hd hub hpre => ?_
    have h1 := hd ⟨1, .data⟩ (by simp) rfl _ rfl
    refine qe_run rfl (wanted_none rfl) (ex_load1 rfl Try.underlying57 rfl h1 (Cs.lit1 (Hx33.out.mod hm (by intro h2; (try dsimp only at h2); (try simp only [false_or] at h2); rcases h2 with ⟨h0, h2 | h2 | h2 | h2⟩ | h2 <;> first | omega | (have hb := HBR.out _ h2; omega) | (have hb := HBT.out _ h2; omega))) rfl)) QE.refl ?_
    rfl
  · exact stepq_chain rfl
  intro u3_0 hr
  have zu3_0 := hr.size
  have Hx35 := Lib.hid (Hx29.out.mod hr (by intro k h1 h2; (try dsimp only at h1 h2); (try simp only [false_or] at h1 h2); rcases h1 with h1 | h1 | h1 | h1 <;> (first | omega | (have hb := HBR.out k h1; omega) | (have hb := HBR.out k h2; omega) | (have hb := HBT.out k h1; omega) | (have hb := HBT.out k h2; omega) | exact HDJ.out k h1 h2 | exact HDJ.out k h2 h1 | (have hb := HBR.out k h1; have hb2 := HBT.out k h2; omega) | (have hb := HBT.out k h1; have hb2 := HBR.out k h2; omega))))
  have Hx36 := Lib.hid (Hx30.out.mod hr (by intro k h1 h2; (try dsimp only at h1 h2); (try simp only [false_or] at h1 h2); (first | omega | (have hb := HBR.out k h1; omega) | (have hb := HBR.out k h2; omega) | (have hb := HBT.out k h1; omega) | (have hb := HBT.out k h2; omega) | exact HDJ.out k h1 h2 | exact HDJ.out k h2 h1 | (have hb := HBR.out k h1; have hb2 := HBT.out k h2; omega) | (have hb := HBT.out k h1; have hb2 := HBR.out k h2; omega))))
  have Hx37 := Lib.hid (Hx31.out.mod hr (by intro k h1 h2; (try dsimp only at h1 h2); (try simp only [false_or] at h1 h2); (first | omega | (have hb := HBR.out k h1; omega) | (have hb := HBR.out k h2; omega) | (have hb := HBT.out k h1; omega) | (have hb := HBT.out k h2; omega) | exact HDJ.out k h1 h2 | exact HDJ.out k h2 h1 | (have hb := HBR.out k h1; have hb2 := HBT.out k h2; omega) | (have hb := HBT.out k h1; have hb2 := HBR.out k h2; omega))))
  have Hx38 := Lib.hid (Hx32.out.mod hr (by intro k h1 h2; (try dsimp only at h1 h2); (try simp only [false_or] at h1 h2); (first | omega | (have hb := HBR.out k h1; omega) | (have hb := HBR.out k h2; omega) | (have hb := HBT.out k h1; omega) | (have hb := HBT.out k h2; omega) | exact HDJ.out k h1 h2 | exact HDJ.out k h2 h1 | (have hb := HBR.out k h1; have hb2 := HBT.out k h2; omega) | (have hb := HBT.out k h1; have hb2 := HBR.out k h2; omega))))
  have Hx39 := Lib.hid (Hx33.out.mod hr (by intro h2; (try dsimp only at h2); (try simp only [false_or] at h2); omega))
  have Hx40 := Lib.hid (Hx34.out.trans hr (by intro k h1 h2; (try dsimp only at h2 ⊢); (try simp only [false_or] at h2 ⊢); first | exact h2 | omega | (have hb := HBR.out k h2; omega) | (have hb := HBT.out k h2; omega)))
  clear Hx29 Hx30 Hx31 Hx32 Hx33 Hx34
  clear hr
  refine QChain.cons rfl fun Z act hYZ hZ hout hsz hd hpre => ?_
  have h0 := hd ⟨0, .data⟩ (by simp) rfl _ rfl
  have h2 := hd ⟨2, .data⟩ (by simp) rfl _ rfl
  have ea15 : act.eval (.tmp 15) = .pointer (some ⟨g, 0, none⟩) := h0
  have ea17 : act.eval (.tmp 17) = v_os := h2
  refine qc_call (args := #[.pointer (some ⟨g, 0, none⟩), v_os, .func (.func 132) #[] #[]]) rfl (wanted_none rfl) (by rw [ex_callF rfl Try.func131 (by kernel_rfl) (by kernel_rfl)]; exact congrArg (fun z => Result.ok (Next.enter _ z) _) (by simp only [List.map_toArray, List.map_cons, List.map_nil, ea15, ea17]; try rfl)) (PutList_Op _ _ _ _ _ _ _ Hx35.out (by intro k h1; (try dsimp only at h1); rcases h1 with h1 | h1 | h1 | h1 <;> (first | omega | (have hb := HBR.out k h1; omega) | (have hb := HBT.out k h1; omega))) Hx37.out (by intro k h1; (try dsimp only at h1); (first | omega | (have hb := HBR.out k h1; omega) | (have hb := HBT.out k h1; omega))) (by intro k h1 h2; (try dsimp only at h1 h2); (try simp only [false_or] at h1 h2); rcases h1 with h1 | h1 | h1 | h1 <;> (first | omega | (have hb := HBR.out k h1; omega) | (have hb := HBR.out k h2; omega) | (have hb := HBT.out k h1; omega) | (have hb := HBT.out k h2; omega) | exact HDJ.out k h1 h2 | exact HDJ.out k h2 h1 | (have hb := HBR.out k h1; have hb2 := HBT.out k h2; omega) | (have hb := HBT.out k h1; have hb2 := HBR.out k h2; omega))) (by have := HL.out; simp only [List.length_append] at this ⊢; omega)) ?_
  rintro e u3_1a ⟨rfl, qwr, hm⟩
  have zu3_1a := hm.size
  refine ⟨_, rfl, hm.mono (by intro k hk h; (try dsimp only at h ⊢); rcases h with h | h | h | h <;> first | omega | exact Or.inl ⟨(by have hb := HBR.out k h; omega), ⟨rfl, Or.inl h⟩⟩), (fun _ => rfl), ?_⟩
  intro u3_1 hr
  have zu3_1 := hr.size
  have Hx41 := Lib.hid ((qwr.widen (R' := (fun k => (R k) ∨ (u1_0.heap.size ≤ k ∧ k < u1_1a.heap.size) ∨ (u1_1.heap.size ≤ k ∧ k < u1_2a.heap.size) ∨ (u2_0.heap.size ≤ k ∧ k < u2_1a.heap.size) ∨ (u3_0.heap.size ≤ k ∧ k < u3_1a.heap.size))) (by intro k h1; (try unfold New at h1); (try dsimp only at h1 ⊢); (try simp only [false_or] at h1 ⊢); first | exact h1 | (simp only [or_assoc] at h1 ⊢; first | exact h1 | (rcases h1 with h1 | h1 <;> first | (left; exact h1) | (right; omega) | omega))) (Nat.le_refl _)).mod hr (by intro k h1 h2; (try dsimp only at h1 h2); (try simp only [false_or] at h1 h2); rcases h1 with h1 | h1 | h1 | h1 | h1 <;> (first | omega | (have hb := HBR.out k h1; omega) | (have hb := HBR.out k h2; omega) | (have hb := HBT.out k h1; omega) | (have hb := HBT.out k h2; omega) | exact HDJ.out k h1 h2 | exact HDJ.out k h2 h1 | (have hb := HBR.out k h1; have hb2 := HBT.out k h2; omega) | (have hb := HBT.out k h1; have hb2 := HBR.out k h2; omega))))
  have hmr := hm.two hr
  have Hx42 := Lib.hid (Hx36.out.mod hmr (by intro k h1 h2; (try dsimp only at h1 h2); (try simp only [false_or] at h1 h2); rcases h2 with (h2 | h2 | h2 | h2) | h2 <;> (first | omega | (have hb := HBR.out k h1; omega) | (have hb := HBR.out k h2; omega) | (have hb := HBT.out k h1; omega) | (have hb := HBT.out k h2; omega) | exact HDJ.out k h1 h2 | exact HDJ.out k h2 h1 | (have hb := HBR.out k h1; have hb2 := HBT.out k h2; omega) | (have hb := HBT.out k h1; have hb2 := HBR.out k h2; omega))))
  have Hx43 := Lib.hid (Hx37.out.mod hmr (by intro k h1 h2; (try dsimp only at h1 h2); (try simp only [false_or] at h1 h2); rcases h2 with (h2 | h2 | h2 | h2) | h2 <;> (first | omega | (have hb := HBR.out k h1; omega) | (have hb := HBR.out k h2; omega) | (have hb := HBT.out k h1; omega) | (have hb := HBT.out k h2; omega) | exact HDJ.out k h1 h2 | exact HDJ.out k h2 h1 | (have hb := HBR.out k h1; have hb2 := HBT.out k h2; omega) | (have hb := HBT.out k h1; have hb2 := HBR.out k h2; omega))))
  have Hx44 := Lib.hid (Hx38.out.mod hmr (by intro k h1 h2; (try dsimp only at h1 h2); (try simp only [false_or] at h1 h2); rcases h2 with (h2 | h2 | h2 | h2) | h2 <;> (first | omega | (have hb := HBR.out k h1; omega) | (have hb := HBR.out k h2; omega) | (have hb := HBT.out k h1; omega) | (have hb := HBT.out k h2; omega) | exact HDJ.out k h1 h2 | exact HDJ.out k h2 h1 | (have hb := HBR.out k h1; have hb2 := HBT.out k h2; omega) | (have hb := HBT.out k h1; have hb2 := HBR.out k h2; omega))))
  have Hx45 := Lib.hid (Hx39.out.mod hmr (by intro h2; (try dsimp only at h2); (try simp only [false_or] at h2); rcases h2 with (h2 | h2 | h2 | h2) | h2 <;> first | omega | (have hb := HBR.out _ h2; omega) | (have hb := HBT.out _ h2; omega)))
  have Hx46 := Lib.hid (Hx40.out.trans hmr (by intro k h1 h2; (try dsimp only at h2 ⊢); (try simp only [false_or] at h2 ⊢); rcases h2 with (h2 | h2 | h2 | h2) | h2 <;> first | exact h2 | omega | (have hb := HBR.out k h2; omega) | (have hb := HBT.out k h2; omega)))
  clear Hx36 Hx37 Hx38 Hx39 Hx40
  clear hmr
  clear hm hr hYZ hZ hout hsz hd hpre qwr Hx35 ea15 ea17 h0 h2
  refine QChain.nil fun vs hl hzz hrows hne => ?_
  obtain ⟨Z, hYZ, hZb, hV⟩ := hzz
  obtain ⟨v0, vs0, rfl, hl0⟩ := list_cons hl
  obtain ⟨v1, vs1, rfl, hl1⟩ := list_cons hl0
  obtain ⟨v2, vs2, rfl, hl2⟩ := list_cons hl1
  obtain ⟨v3, vs3, rfl, hl3⟩ := list_cons hl2
  obtain rfl := list_nil hl3
  clear hl hl0 hl1 hl2 hl3
  obtain rfl : v0 = .pointer (some ⟨g, 0, none⟩) := hV 0 _ rfl
  obtain rfl : v3 = .tuple #[] := hV 3 _ rfl
  have ha0 := HA0.out
  subst ha0
  clear HA0 hV hYZ hZb hsz0 hrows hne oe0 oe3
  simp only [putAll, Act.put, List.setIfInBounds_toArray, List.set_cons_zero, List.set_cons_succ]
  go_upto_region 4 with (fail)
  generalize ha0 : Act.mk _ _ = a0
  have oe0 : a0.eval (.tmp 0) = .pointer (some ⟨g, 0, none⟩) := by rw [← ha0]; rfl
  have oe3 : a0.eval (.tmp 3) = .pointer (some ⟨w.heap.size, 0, none⟩) := by rw [← ha0]; rfl
  have hsz0 : a0.tmps.size = 23 := by rw [← ha0]; rfl
  have HA0 := Lib.hid ha0
  clear ha0
  refine wp_region_Q 23 hsz0 (by kernel_rfl) (by kernel_rfl) [19, 20, 21, 22] (by kernel_rfl) (by decide) (fun k => (R k) ∨ (u1_0.heap.size ≤ k ∧ k < u1_1a.heap.size) ∨ (u1_1.heap.size ≤ k ∧ k < u1_2a.heap.size) ∨ (u2_0.heap.size ≤ k ∧ k < u2_1a.heap.size) ∨ (u3_0.heap.size ≤ k ∧ k < u3_1a.heap.size)) (fun k j => (k = 0 ∧ ((R j) ∨ (u1_0.heap.size ≤ j ∧ j < u1_1a.heap.size) ∨ (u1_1.heap.size ≤ j ∧ j < u1_2a.heap.size) ∨ (u2_0.heap.size ≤ j ∧ j < u2_1a.heap.size) ∨ (u3_0.heap.size ≤ j ∧ j < u3_1a.heap.size)))) (by intro k j h; (try dsimp only at h ⊢); rcases h with ⟨-, h | h | h | h | h⟩; (exact Or.inl (h)); (exact Or.inr (Or.inl (h))); (exact Or.inr (Or.inr (Or.inl (h)))); (exact Or.inr (Or.inr (Or.inr (Or.inl (h))))); (exact Or.inr (Or.inr (Or.inr (Or.inr (h)))))) [qi (.pointer (some ⟨g, 0, none⟩)), qi (.pointer (some ⟨w.heap.size, 4, none⟩)), qi (v_ts), qi (.tuple #[])] ⟨qi_stable, qi_stable, qi_stable, qi_stable, trivial⟩ [3] (by kernel_rfl) (by decide) (by kernel_rfl) [] (by kernel_rfl) (by intro r hr; cases hr) (by intro r hr; cases hr) (by intro r hr; cases hr) ⟨?_, ?_, ?_, ?_, trivial⟩ ?_
  · refine stepq_env rfl rfl rfl fun Z tr act w' hZ hm hm0 hout hsz hd hub hpre => ?_
    refine qe_run rfl (wanted_none rfl) (ex_move rfl ((hout 0 (by decide)).trans oe0)) QE.refl ?_
    rfl
  · refine stepq_env rfl rfl rfl fun Z tr act w' hZ hm hm0 hout hsz hd hub hpre => ?_
    refine qe_run rfl (wanted_none rfl) (ex_field rfl Try.underlying60 rfl (by kernel_rfl) ((hout 3 (by decide)).trans oe3)) QE.refl ?_
    rfl
  · refine stepq_env rfl rfl rfl fun Z tr act w' hZ hm hm0 hout hsz hd hub hpre => ?_
    have h1 := hd ⟨1, .data⟩ (by simp) rfl _ rfl
    refine qe_run rfl (wanted_none rfl) (ex_load1 rfl Try.underlying58 rfl h1 (Cs.lit1 (Hx45.out.mod hm (by intro h2; (try dsimp only at h2); (try simp only [false_or] at h2); rcases h2 with ⟨h0, h2 | h2 | h2 | h2 | h2⟩ | h2 <;> first | omega | (have hb := HBR.out _ h2; omega) | (have hb := HBT.out _ h2; omega))) rfl)) QE.refl ?_
    rfl
  · exact stepq_chain rfl
  intro u4_0 hr
  have zu4_0 := hr.size
  have Hx47 := Lib.hid (Hx41.out.mod hr (by intro k h1 h2; (try dsimp only at h1 h2); (try simp only [false_or] at h1 h2); rcases h1 with h1 | h1 | h1 | h1 | h1 <;> (first | omega | (have hb := HBR.out k h1; omega) | (have hb := HBR.out k h2; omega) | (have hb := HBT.out k h1; omega) | (have hb := HBT.out k h2; omega) | exact HDJ.out k h1 h2 | exact HDJ.out k h2 h1 | (have hb := HBR.out k h1; have hb2 := HBT.out k h2; omega) | (have hb := HBT.out k h1; have hb2 := HBR.out k h2; omega))))
  have Hx48 := Lib.hid (Hx42.out.mod hr (by intro k h1 h2; (try dsimp only at h1 h2); (try simp only [false_or] at h1 h2); (first | omega | (have hb := HBR.out k h1; omega) | (have hb := HBR.out k h2; omega) | (have hb := HBT.out k h1; omega) | (have hb := HBT.out k h2; omega) | exact HDJ.out k h1 h2 | exact HDJ.out k h2 h1 | (have hb := HBR.out k h1; have hb2 := HBT.out k h2; omega) | (have hb := HBT.out k h1; have hb2 := HBR.out k h2; omega))))
  have Hx49 := Lib.hid (Hx43.out.mod hr (by intro k h1 h2; (try dsimp only at h1 h2); (try simp only [false_or] at h1 h2); (first | omega | (have hb := HBR.out k h1; omega) | (have hb := HBR.out k h2; omega) | (have hb := HBT.out k h1; omega) | (have hb := HBT.out k h2; omega) | exact HDJ.out k h1 h2 | exact HDJ.out k h2 h1 | (have hb := HBR.out k h1; have hb2 := HBT.out k h2; omega) | (have hb := HBT.out k h1; have hb2 := HBR.out k h2; omega))))
  have Hx50 := Lib.hid (Hx44.out.mod hr (by intro k h1 h2; (try dsimp only at h1 h2); (try simp only [false_or] at h1 h2); (first | omega | (have hb := HBR.out k h1; omega) | (have hb := HBR.out k h2; omega) | (have hb := HBT.out k h1; omega) | (have hb := HBT.out k h2; omega) | exact HDJ.out k h1 h2 | exact HDJ.out k h2 h1 | (have hb := HBR.out k h1; have hb2 := HBT.out k h2; omega) | (have hb := HBT.out k h1; have hb2 := HBR.out k h2; omega))))
  have Hx51 := Lib.hid (Hx45.out.mod hr (by intro h2; (try dsimp only at h2); (try simp only [false_or] at h2); omega))
  have Hx52 := Lib.hid (Hx46.out.trans hr (by intro k h1 h2; (try dsimp only at h2 ⊢); (try simp only [false_or] at h2 ⊢); first | exact h2 | omega | (have hb := HBR.out k h2; omega) | (have hb := HBT.out k h2; omega)))
  clear Hx41 Hx42 Hx43 Hx44 Hx45 Hx46
  clear hr
  refine QChain.cons rfl fun Z act hYZ hZ hout hsz hd hpre => ?_
  have h0 := hd ⟨0, .data⟩ (by simp) rfl _ rfl
  have h2 := hd ⟨2, .data⟩ (by simp) rfl _ rfl
  have ea19 : act.eval (.tmp 19) = .pointer (some ⟨g, 0, none⟩) := h0
  have ea21 : act.eval (.tmp 21) = v_ts := h2
  refine qc_call (args := #[.pointer (some ⟨g, 0, none⟩), v_ts, .func (.func 134) #[] #[]]) rfl (wanted_none rfl) (by rw [ex_callF rfl Try.func133 (by kernel_rfl) (by kernel_rfl)]; exact congrArg (fun z => Result.ok (Next.enter _ z) _) (by simp only [List.map_toArray, List.map_cons, List.map_nil, ea19, ea21]; try rfl)) (PutList_Tb _ _ _ _ _ _ _ Hx47.out (by intro k h1; (try dsimp only at h1); rcases h1 with h1 | h1 | h1 | h1 | h1 <;> (first | omega | (have hb := HBR.out k h1; omega) | (have hb := HBT.out k h1; omega))) Hx50.out (by intro k h1; (try dsimp only at h1); (first | omega | (have hb := HBR.out k h1; omega) | (have hb := HBT.out k h1; omega))) (by intro k h1 h2; (try dsimp only at h1 h2); (try simp only [false_or] at h1 h2); rcases h1 with h1 | h1 | h1 | h1 | h1 <;> (first | omega | (have hb := HBR.out k h1; omega) | (have hb := HBR.out k h2; omega) | (have hb := HBT.out k h1; omega) | (have hb := HBT.out k h2; omega) | exact HDJ.out k h1 h2 | exact HDJ.out k h2 h1 | (have hb := HBR.out k h1; have hb2 := HBT.out k h2; omega) | (have hb := HBT.out k h1; have hb2 := HBR.out k h2; omega))) (by have := HL.out; simp only [List.length_append] at this ⊢; omega)) ?_
  rintro e u4_1a ⟨rfl, qwr, hm⟩
  have zu4_1a := hm.size
  refine ⟨_, rfl, hm.mono (by intro k hk h; (try dsimp only at h ⊢); rcases h with h | h | h | h | h <;> first | omega | exact Or.inl ⟨(by have hb := HBR.out k h; omega), ⟨rfl, Or.inl h⟩⟩), (fun _ => rfl), ?_⟩
  intro u4_1 hr
  have zu4_1 := hr.size
  have Hx53 := Lib.hid ((qwr.widen (R' := (fun k => (R k) ∨ (u1_0.heap.size ≤ k ∧ k < u1_1a.heap.size) ∨ (u1_1.heap.size ≤ k ∧ k < u1_2a.heap.size) ∨ (u2_0.heap.size ≤ k ∧ k < u2_1a.heap.size) ∨ (u3_0.heap.size ≤ k ∧ k < u3_1a.heap.size) ∨ (u4_0.heap.size ≤ k ∧ k < u4_1a.heap.size))) (by intro k h1; (try unfold New at h1); (try dsimp only at h1 ⊢); (try simp only [false_or] at h1 ⊢); first | exact h1 | (simp only [or_assoc] at h1 ⊢; first | exact h1 | (rcases h1 with h1 | h1 <;> first | (left; exact h1) | (right; omega) | omega))) (Nat.le_refl _)).mod hr (by intro k h1 h2; (try dsimp only at h1 h2); (try simp only [false_or] at h1 h2); rcases h1 with h1 | h1 | h1 | h1 | h1 | h1 <;> (first | omega | (have hb := HBR.out k h1; omega) | (have hb := HBR.out k h2; omega) | (have hb := HBT.out k h1; omega) | (have hb := HBT.out k h2; omega) | exact HDJ.out k h1 h2 | exact HDJ.out k h2 h1 | (have hb := HBR.out k h1; have hb2 := HBT.out k h2; omega) | (have hb := HBT.out k h1; have hb2 := HBR.out k h2; omega))))
  have hmr := hm.two hr
  have Hx54 := Lib.hid (Hx48.out.mod hmr (by intro k h1 h2; (try dsimp only at h1 h2); (try simp only [false_or] at h1 h2); rcases h2 with (h2 | h2 | h2 | h2 | h2) | h2 <;> (first | omega | (have hb := HBR.out k h1; omega) | (have hb := HBR.out k h2; omega) | (have hb := HBT.out k h1; omega) | (have hb := HBT.out k h2; omega) | exact HDJ.out k h1 h2 | exact HDJ.out k h2 h1 | (have hb := HBR.out k h1; have hb2 := HBT.out k h2; omega) | (have hb := HBT.out k h1; have hb2 := HBR.out k h2; omega))))
  have Hx55 := Lib.hid (Hx49.out.mod hmr (by intro k h1 h2; (try dsimp only at h1 h2); (try simp only [false_or] at h1 h2); rcases h2 with (h2 | h2 | h2 | h2 | h2) | h2 <;> (first | omega | (have hb := HBR.out k h1; omega) | (have hb := HBR.out k h2; omega) | (have hb := HBT.out k h1; omega) | (have hb := HBT.out k h2; omega) | exact HDJ.out k h1 h2 | exact HDJ.out k h2 h1 | (have hb := HBR.out k h1; have hb2 := HBT.out k h2; omega) | (have hb := HBT.out k h1; have hb2 := HBR.out k h2; omega))))
  have Hx56 := Lib.hid (Hx50.out.mod hmr (by intro k h1 h2; (try dsimp only at h1 h2); (try simp only [false_or] at h1 h2); rcases h2 with (h2 | h2 | h2 | h2 | h2) | h2 <;> (first | omega | (have hb := HBR.out k h1; omega) | (have hb := HBR.out k h2; omega) | (have hb := HBT.out k h1; omega) | (have hb := HBT.out k h2; omega) | exact HDJ.out k h1 h2 | exact HDJ.out k h2 h1 | (have hb := HBR.out k h1; have hb2 := HBT.out k h2; omega) | (have hb := HBT.out k h1; have hb2 := HBR.out k h2; omega))))
  have Hx57 := Lib.hid (Hx51.out.mod hmr (by intro h2; (try dsimp only at h2); (try simp only [false_or] at h2); rcases h2 with (h2 | h2 | h2 | h2 | h2) | h2 <;> first | omega | (have hb := HBR.out _ h2; omega) | (have hb := HBT.out _ h2; omega)))
  have Hx58 := Lib.hid (Hx52.out.trans hmr (by intro k h1 h2; (try dsimp only at h2 ⊢); (try simp only [false_or] at h2 ⊢); rcases h2 with (h2 | h2 | h2 | h2 | h2) | h2 <;> first | exact h2 | omega | (have hb := HBR.out k h2; omega) | (have hb := HBT.out k h2; omega)))
  clear Hx48 Hx49 Hx50 Hx51 Hx52
  clear hmr
  clear hm hr hYZ hZ hout hsz hd hpre qwr Hx47 ea19 ea21 h0 h2
  refine QChain.nil fun vs hl hzz hrows hne => ?_
  obtain ⟨Z, hYZ, hZb, hV⟩ := hzz
  obtain ⟨v0, vs0, rfl, hl0⟩ := list_cons hl
  obtain ⟨v1, vs1, rfl, hl1⟩ := list_cons hl0
  obtain ⟨v2, vs2, rfl, hl2⟩ := list_cons hl1
  obtain ⟨v3, vs3, rfl, hl3⟩ := list_cons hl2
  obtain rfl := list_nil hl3
  clear hl hl0 hl1 hl2 hl3
  obtain rfl : v0 = .pointer (some ⟨g, 0, none⟩) := hV 0 _ rfl
  obtain rfl : v3 = .tuple #[] := hV 3 _ rfl
  have ha0 := HA0.out
  subst ha0
  clear HA0 hV hYZ hZb hsz0 hrows hne oe0 oe3
  simp only [putAll, Act.put, List.setIfInBounds_toArray, List.set_cons_zero, List.set_cons_succ]
  go_wp2
  go_end0
  have hq := (Hx53.out.widen (R' := (fun k => R k ∨ New w u4_1 k)) (by intro k h1; (try dsimp only at h1 ⊢); (try simp only [false_or] at h1 ⊢); rcases h1 with h1 | h1 | h1 | h1 | h1 | h1 <;> first | exact Or.inl h1 | (right; unfold New; omega)) (Nat.le_refl _))
  simp only [List.append_assoc] at hq
  exact ⟨rfl, by simpa only [baB, List.append_assoc] using hq, Hx58.out⟩
end Go.Proofs.Ytknpapcfhnhheaa
