/- Texts that are built one behind the other: XCut1, XCut2, XCmEq, XEq, XSm. No condition. -/
import Derived.Test.YtknpapcfhnhheaaA3
/- Copies and cuts of lists of things. -/
set_option maxRecDepth 100000
set_option linter.unusedVariables false
namespace Go.Proofs.Ytknpapcfhnhheaa
open Go Go.RowKit Go.Gv

theorem info_St : (Try.prog.info? 30).map (fun i => (i.zero, i.size, i.bytes)) = some (some (.agg #[.int .i64 0, .int .i64 0, .int .i64 0, .int .u8 0, .int .u8 0, .int .u8 0, .int .u8 0, .int .u8 0, .int .u8 0, .int .u8 0, .int .u8 0, .int .u8 0, .int .u8 0, .int .u8 0, .int .u8 0, .int .u8 0, .int .u8 0, .int .u8 0, .int .u8 0, .int .u8 0, .int .u8 0, .int .u8 0, .int .u8 0, .int .u8 0, .int .u8 0, .int .u8 0, .int .u8 0, .int .u8 0, .int .u8 0, .int .u8 0, .int .u8 0, .int .u8 0, .int .u8 0, .int .u8 0, .int .u8 0, .int .u64 0, .int .i64 0, .int .i64 0]), 38, 80) := by kernel_rfl
theorem info_Dn : (Try.prog.info? 34).map (fun i => (i.zero, i.size, i.bytes)) = some (some (.agg #[.int .i64 0, .int .i64 0, .int .i64 0, .int .i64 0]), 4, 32) := by kernel_rfl
theorem info_Ce : (Try.prog.info? 52).map (fun i => (i.zero, i.size, i.bytes)) = some (some (.agg #[.int .i64 0, .int .i64 0, .int .u8 0, .int .u8 0, .int .u8 0, .int .u8 0, .int .u8 0, .int .u8 0, .int .u8 0, .int .u8 0, .int .u8 0, .int .u8 0, .int .u8 0, .int .u8 0, .int .u8 0, .int .u8 0, .int .u8 0, .int .u8 0, .int .u8 0, .int .u8 0, .int .u8 0, .int .u8 0, .int .u8 0, .int .u8 0, .int .u8 0, .int .u8 0, .int .u8 0, .int .u8 0, .int .u8 0, .int .u8 0, .int .u8 0, .int .u8 0, .int .u8 0, .int .u8 0, .int .i64 0, .int .i64 0, .int .i64 0, .slice none 0 0]), 38, 96) := by kernel_rfl
theorem info_Pm : (Try.prog.info? 55).map (fun i => (i.zero, i.size, i.bytes)) = some (some (.agg #[.int .i64 0, .int .i64 0, .int .u64 0, .slice none 0 0, .int .i64 0, .int .i64 0]), 6, 64) := by kernel_rfl
theorem info_Op : (Try.prog.info? 87).map (fun i => (i.zero, i.size, i.bytes)) = some (some (.agg #[.int .i64 0, .slice none 0 0, .int .u8 0, .int .u8 0, .int .u8 0, .int .u8 0, .int .u8 0, .int .u8 0, .int .u8 0, .int .u8 0, .int .u8 0, .int .u8 0, .int .u8 0, .int .u8 0, .int .u8 0, .int .u8 0, .int .u8 0, .int .u8 0, .int .u8 0, .int .u8 0, .int .u8 0, .int .u8 0, .int .u8 0, .int .u8 0, .int .u8 0, .int .u8 0, .int .u8 0, .int .u8 0, .int .u8 0, .int .u8 0, .int .u8 0, .int .u8 0, .int .u8 0, .int .u8 0]), 34, 64) := by kernel_rfl
theorem info_Tb : (Try.prog.info? 90).map (fun i => (i.zero, i.size, i.bytes)) = some (some (.agg #[.int .i64 0, .slice none 0 0]), 2, 32) := by kernel_rfl

/-- a function that copies a list of things; one that cuts it -/
def CopiesS {α : Type} (A : Rep α) (e : TypeId) (F : FuncId) : Prop := ∀ (R2 : Nat → Prop) (v : Value) (l : List α) (w : World), RdS A R2 w v l → (∀ k, R2 k → k < w.heap.size) → l.length ≤ 1000000 →
  Calls Try.prog F #[v] w fun e' w' => ∃ v', e' = .returned v' ∧ OwS A e (New w w') R2 w' v' l ∧ Mod (fun _ => False) w w'
def CutsS {α : Type} (A : Rep α) (e : TypeId) (F : FuncId) : Prop := ∀ (R2 : Nat → Prop) (v : Value) (l : List α) (n : Nat) (w : World), RdS A R2 w v l → (∀ k, R2 k → k < w.heap.size) → n ≤ 1000000 →
  Calls Try.prog F #[v, .int .i64 (n : Int)] w fun e' w' => ∃ v', e' = .returned v' ∧ OwS A e (New w w') R2 w' v' (l.take n) ∧ Mod (fun _ => False) w w'
set_option maxHeartbeats 2000000 in
theorem Copy_St : CopiesS StR 30 101 := by
  intro R2 v l w hs hB2 hl
  obtain ⟨ao, cap, rfl⟩ := hs.shape
  have HS := Lib.hid hs
  have HBT := Lib.hid hB2
  clear hs hB2
  go_enter Try.func101, Try.ntmps101
  go_upto_region 1 with (fail)
  have HM0 := Lib.hid (Mod.refl (fun _ => False) w)
  go_upto_region 1 with (fail)
  generalize ha0 : Act.mk _ _ = a0
  have oe0 : a0.eval (.tmp 0) = .slice ao l.length cap := by rw [← ha0]; rfl
  have hsz0 : a0.tmps.size = 5 := by rw [← ha0]; rfl
  have HA0 := Lib.hid ha0
  clear ha0
  refine wp_region_Q 5 hsz0 (by kernel_rfl) (by kernel_rfl) [3, 4, 2] (by kernel_rfl) (by decide) (fun _ => False) (fun _ _ => False) (fun _ _ h => h) [qi (.slice ao l.length cap), qv 0, qv 0] ⟨qi_stable, qv_stable, qv_stable, trivial⟩ [1] (by kernel_rfl) (by decide) (by kernel_rfl) [] (by kernel_rfl) (by intro r hr; cases hr) (by intro r hr; cases hr) (by intro r hr; cases hr) ⟨?_, ?_, ?_, trivial⟩ ?_
  · refine stepq_env rfl rfl rfl fun Z tr act w' hZ hm hm0 hout hsz hd hub hpre => ?_
    refine qe_run rfl (wanted_none rfl) (ex_move rfl ((hout 0 (by decide)).trans oe0)) QE.refl ?_
    rfl
  · exact stepq_chain rfl
  · refine stepq_env rfl rfl rfl fun Z tr act w' hZ hm hm0 hout hsz hd hub hpre => ?_
    have h1 := hd ⟨1, .data⟩ (by simp) rfl _ rfl
    exact qe_run rfl (wanted_none rfl) (ex_assign rfl rfl) QE.refl h1
  intro u1_0 hr
  have zu1_0 := hr.size
  have Hx1 := Lib.hid (HS.out.mod hr (by intro k h1 h2; (try dsimp only at h1 h2); (try simp only [false_or] at h1 h2); (first | omega | (have hb := HBT.out k h1; omega) | (have hb := HBT.out k h2; omega))))
  have Hx2 := Lib.hid (HM0.out.trans hr (by intro k h1 h2; (try dsimp only at h2 ⊢); (try simp only [false_or] at h2 ⊢); omega))
  clear HS HM0
  clear hr
  refine QChain.cons rfl fun Z act hYZ hZ hout hsz hd hpre => ?_
  have h0 := hd ⟨0, .data⟩ (by simp) rfl _ rfl
  refine qc_appS (A := StR) (e := 30) rfl (wanted_none rfl) rfl (.agg #[.int .i64 0, .int .i64 0, .int .i64 0, .int .u8 0, .int .u8 0, .int .u8 0, .int .u8 0, .int .u8 0, .int .u8 0, .int .u8 0, .int .u8 0, .int .u8 0, .int .u8 0, .int .u8 0, .int .u8 0, .int .u8 0, .int .u8 0, .int .u8 0, .int .u8 0, .int .u8 0, .int .u8 0, .int .u8 0, .int .u8 0, .int .u8 0, .int .u8 0, .int .u8 0, .int .u8 0, .int .u8 0, .int .u8 0, .int .u8 0, .int .u8 0, .int .u8 0, .int .u8 0, .int .u8 0, .int .u8 0, .int .u64 0, .int .i64 0, .int .i64 0]) 80 Try.underlying50 info_St (by rfl) (of_decide_eq_true (by kernel_rfl)) rfl h0 (OwS.nil _ _ (fun _ => False) (fun _ => False) _) (Hx1.out) (fun _ _ h => h) (by simp only [List.length_nil]; omega) (by simp only [List.length_nil]; rw [maxLen_val]; omega) ?_
  intro ao1 cap1 u1_1a qout hm
  have zu1_1a := hm.size
  refine ⟨hm.mono (fun _ _ h => h.elim), (fun _ => rfl), ?_⟩
  intro u1_1 hr
  have zu1_1 := hr.size
  have Hx3 := Lib.hid ((qout.widen (R' := (fun k => (u1_0.heap.size ≤ k ∧ k < u1_1a.heap.size))) (E' := (fun k => (R2 k))) (by intro k h1; (try unfold New at h1); (try dsimp only at h1 ⊢); (try simp only [false_or] at h1 ⊢); omega) (by intro k h1; (try dsimp only at h1 ⊢); rcases h1 with h1 | h1 <;> first | omega | exact h1.elim | exact h1)).mod hr (by intro k h1 h2; (try dsimp only at h1 h2); (try simp only [false_or] at h1 h2); omega) (by intro k h1 h2; (try dsimp only at h1 h2); (try simp only [false_or] at h1 h2); (first | omega | (have hb := HBT.out k h1; omega) | (have hb := HBT.out k h2; omega))))
  have hmr := Mod.after hm hr
  have Hx4 := Lib.hid (Hx1.out.mod hmr (by intro k h1 h2; (try dsimp only at h1 h2); (try simp only [false_or] at h1 h2); (first | omega | (have hb := HBT.out k h1; omega) | (have hb := HBT.out k h2; omega))))
  have Hx5 := Lib.hid (Hx2.out.trans hmr (by intro k h1 h2; (try dsimp only at h2 ⊢); (try simp only [false_or] at h2 ⊢); omega))
  clear Hx1 Hx2
  clear hmr
  clear hm hr hYZ hZ hout hsz hd hpre qout h0
  refine QChain.nil fun vs hl hzz hrows hne => ?_
  obtain ⟨Z, hYZ, hZb, hV⟩ := hzz
  obtain ⟨v0, vs0, rfl, hl0⟩ := list_cons hl
  obtain ⟨v1, vs1, rfl, hl1⟩ := list_cons hl0
  obtain ⟨v2, vs2, rfl, hl2⟩ := list_cons hl1
  obtain rfl := list_nil hl2
  clear hl hl0 hl1 hl2
  obtain rfl : v0 = .slice ao l.length cap := hV 0 _ rfl
  have e1 := Option.some.inj (show some (.slice ao1 ((([] : List St)).length + (l).length) cap1) = some v1 from hV 1 _ rfl)
  subst e1
  have e2 := Option.some.inj (show some (.slice ao1 ((([] : List St)).length + (l).length) cap1) = some v2 from hV 2 _ rfl)
  subst e2
  have ha0 := HA0.out
  subst ha0
  clear HA0 hV hYZ hZb hsz0 hrows hne oe0
  simp only [putAll, Act.put, List.setIfInBounds_toArray, List.set_cons_zero, List.set_cons_succ]
  go_wp2
  go_ret
  have hq := Hx3.out
  exact ⟨_, rfl, hq.widen (by intro k h; (try dsimp only at h); unfold New; omega) (by intro k h; exact h), Hx5.out⟩
set_option maxHeartbeats 2000000 in
theorem Copy_Dn : CopiesS DnR 34 93 := by
  intro R2 v l w hs hB2 hl
  obtain ⟨ao, cap, rfl⟩ := hs.shape
  have HS := Lib.hid hs
  have HBT := Lib.hid hB2
  clear hs hB2
  go_enter Try.func93, Try.ntmps93
  go_upto_region 1 with (fail)
  have HM0 := Lib.hid (Mod.refl (fun _ => False) w)
  go_upto_region 1 with (fail)
  generalize ha0 : Act.mk _ _ = a0
  have oe0 : a0.eval (.tmp 0) = .slice ao l.length cap := by rw [← ha0]; rfl
  have hsz0 : a0.tmps.size = 5 := by rw [← ha0]; rfl
  have HA0 := Lib.hid ha0
  clear ha0
  refine wp_region_Q 5 hsz0 (by kernel_rfl) (by kernel_rfl) [3, 4, 2] (by kernel_rfl) (by decide) (fun _ => False) (fun _ _ => False) (fun _ _ h => h) [qi (.slice ao l.length cap), qv 0, qv 0] ⟨qi_stable, qv_stable, qv_stable, trivial⟩ [1] (by kernel_rfl) (by decide) (by kernel_rfl) [] (by kernel_rfl) (by intro r hr; cases hr) (by intro r hr; cases hr) (by intro r hr; cases hr) ⟨?_, ?_, ?_, trivial⟩ ?_
  · refine stepq_env rfl rfl rfl fun Z tr act w' hZ hm hm0 hout hsz hd hub hpre => ?_
    refine qe_run rfl (wanted_none rfl) (ex_move rfl ((hout 0 (by decide)).trans oe0)) QE.refl ?_
    rfl
  · exact stepq_chain rfl
  · refine stepq_env rfl rfl rfl fun Z tr act w' hZ hm hm0 hout hsz hd hub hpre => ?_
    have h1 := hd ⟨1, .data⟩ (by simp) rfl _ rfl
    exact qe_run rfl (wanted_none rfl) (ex_assign rfl rfl) QE.refl h1
  intro u1_0 hr
  have zu1_0 := hr.size
  have Hx1 := Lib.hid (HS.out.mod hr (by intro k h1 h2; (try dsimp only at h1 h2); (try simp only [false_or] at h1 h2); (first | omega | (have hb := HBT.out k h1; omega) | (have hb := HBT.out k h2; omega))))
  have Hx2 := Lib.hid (HM0.out.trans hr (by intro k h1 h2; (try dsimp only at h2 ⊢); (try simp only [false_or] at h2 ⊢); omega))
  clear HS HM0
  clear hr
  refine QChain.cons rfl fun Z act hYZ hZ hout hsz hd hpre => ?_
  have h0 := hd ⟨0, .data⟩ (by simp) rfl _ rfl
  refine qc_appS (A := DnR) (e := 34) rfl (wanted_none rfl) rfl (.agg #[.int .i64 0, .int .i64 0, .int .i64 0, .int .i64 0]) 32 Try.underlying88 info_Dn (by rfl) (of_decide_eq_true (by kernel_rfl)) rfl h0 (OwS.nil _ _ (fun _ => False) (fun _ => False) _) (Hx1.out) (fun _ _ h => h) (by simp only [List.length_nil]; omega) (by simp only [List.length_nil]; rw [maxLen_val]; omega) ?_
  intro ao1 cap1 u1_1a qout hm
  have zu1_1a := hm.size
  refine ⟨hm.mono (fun _ _ h => h.elim), (fun _ => rfl), ?_⟩
  intro u1_1 hr
  have zu1_1 := hr.size
  have Hx3 := Lib.hid ((qout.widen (R' := (fun k => (u1_0.heap.size ≤ k ∧ k < u1_1a.heap.size))) (E' := (fun k => (R2 k))) (by intro k h1; (try unfold New at h1); (try dsimp only at h1 ⊢); (try simp only [false_or] at h1 ⊢); omega) (by intro k h1; (try dsimp only at h1 ⊢); rcases h1 with h1 | h1 <;> first | omega | exact h1.elim | exact h1)).mod hr (by intro k h1 h2; (try dsimp only at h1 h2); (try simp only [false_or] at h1 h2); omega) (by intro k h1 h2; (try dsimp only at h1 h2); (try simp only [false_or] at h1 h2); (first | omega | (have hb := HBT.out k h1; omega) | (have hb := HBT.out k h2; omega))))
  have hmr := Mod.after hm hr
  have Hx4 := Lib.hid (Hx1.out.mod hmr (by intro k h1 h2; (try dsimp only at h1 h2); (try simp only [false_or] at h1 h2); (first | omega | (have hb := HBT.out k h1; omega) | (have hb := HBT.out k h2; omega))))
  have Hx5 := Lib.hid (Hx2.out.trans hmr (by intro k h1 h2; (try dsimp only at h2 ⊢); (try simp only [false_or] at h2 ⊢); omega))
  clear Hx1 Hx2
  clear hmr
  clear hm hr hYZ hZ hout hsz hd hpre qout h0
  refine QChain.nil fun vs hl hzz hrows hne => ?_
  obtain ⟨Z, hYZ, hZb, hV⟩ := hzz
  obtain ⟨v0, vs0, rfl, hl0⟩ := list_cons hl
  obtain ⟨v1, vs1, rfl, hl1⟩ := list_cons hl0
  obtain ⟨v2, vs2, rfl, hl2⟩ := list_cons hl1
  obtain rfl := list_nil hl2
  clear hl hl0 hl1 hl2
  obtain rfl : v0 = .slice ao l.length cap := hV 0 _ rfl
  have e1 := Option.some.inj (show some (.slice ao1 ((([] : List Dn)).length + (l).length) cap1) = some v1 from hV 1 _ rfl)
  subst e1
  have e2 := Option.some.inj (show some (.slice ao1 ((([] : List Dn)).length + (l).length) cap1) = some v2 from hV 2 _ rfl)
  subst e2
  have ha0 := HA0.out
  subst ha0
  clear HA0 hV hYZ hZb hsz0 hrows hne oe0
  simp only [putAll, Act.put, List.setIfInBounds_toArray, List.set_cons_zero, List.set_cons_succ]
  go_wp2
  go_ret
  have hq := Hx3.out
  exact ⟨_, rfl, hq.widen (by intro k h; (try dsimp only at h); unfold New; omega) (by intro k h; exact h), Hx5.out⟩
set_option maxHeartbeats 2000000 in
theorem Cut_St : CutsS StR 30 72 := by
  intro R2 v l n w hs hB2 hn
  obtain ⟨css, k1, k2, ⟨k3, ao, cap, rfl, hlc, hcm, k5, k6⟩, k7⟩ := id hs
  clear k1 k2 k3 k5 k6 k7
  rw [maxLen_val] at hcm
  have HS := Lib.hid hs
  have HBT := Lib.hid hB2
  clear hs hB2
  clear css
  go_enter Try.func72, Try.ntmps72
  go_upto_region 1 with (fail)
  have HM0 := Lib.hid (Mod.refl (fun _ => False) w)
  go_upto_region 1 with (fail)
  generalize ha0 : Act.mk _ _ = a0
  have oe0 : a0.eval (.tmp 0) = .slice ao l.length cap := by rw [← ha0]; rfl
  have oe1 : a0.eval (.tmp 1) = .int .i64 ((n : Nat) : Int) := by rw [← ha0]; rfl
  have hsz0 : a0.tmps.size = 12 := by rw [← ha0]; rfl
  have HA0 := Lib.hid ha0
  clear ha0
  refine wp_region_Q 12 hsz0 (by kernel_rfl) (by kernel_rfl) [5, 6, 7, 8, 9, 10, 11, 4] (by kernel_rfl) (by decide) (fun _ => False) (fun _ _ => False) (fun _ _ h => h) [qi (.slice ao l.length cap), qi (.slice ao l.length cap), qi (.int .i64 l.length), qi (.int .i64 ((n : Nat) : Int)), qi (.int .i64 ((min l.length n : Nat) : Int)), qi (.slice ao (min l.length n) cap), qv 0, qv 0] ⟨qi_stable, qi_stable, qi_stable, qi_stable, qi_stable, qi_stable, qv_stable, qv_stable, trivial⟩ [6] (by kernel_rfl) (by decide) (by kernel_rfl) [] (by kernel_rfl) (by intro r hr; cases hr) (by intro r hr; cases hr) (by intro r hr; cases hr) ⟨?_, ?_, ?_, ?_, ?_, ?_, ?_, ?_, trivial⟩ ?_
  · refine stepq_env rfl rfl rfl fun Z tr act w' hZ hm hm0 hout hsz hd hub hpre => ?_
    refine qe_run rfl (wanted_none rfl) (ex_move rfl ((hout 0 (by decide)).trans oe0)) QE.refl ?_
    rfl
  · refine stepq_env rfl rfl rfl fun Z tr act w' hZ hm hm0 hout hsz hd hub hpre => ?_
    refine qe_run rfl (wanted_none rfl) (ex_move rfl ((hout 0 (by decide)).trans oe0)) QE.refl ?_
    rfl
  · refine stepq_env rfl rfl rfl fun Z tr act w' hZ hm hm0 hout hsz hd hub hpre => ?_
    have h1 := hd ⟨1, .data⟩ (by simp) rfl _ rfl
    refine qe_run rfl (wanted_none rfl) (ex_lenS rfl h1 Try.underlying50) QE.refl ?_
    rfl
  · refine stepq_env rfl rfl rfl fun Z tr act w' hZ hm hm0 hout hsz hd hub hpre => ?_
    refine qe_run rfl (wanted_none rfl) (ex_move rfl ((hout 1 (by decide)).trans oe1)) QE.refl ?_
    rfl
  · refine stepq_env rfl rfl rfl fun Z tr act w' hZ hm hm0 hout hsz hd hub hpre => ?_
    have h2 := hd ⟨2, .data⟩ (by simp) rfl _ rfl
    have h3 := hd ⟨3, .data⟩ (by simp) rfl _ rfl
    refine qe_run rfl (wanted_none rfl) (ex_min (r := ((min l.length n : Nat) : Int)) rfl h2 h3 (by split <;> omega)) QE.refl ?_
    rfl
  · refine stepq_env rfl rfl rfl fun Z tr act w' hZ hm hm0 hout hsz hd hub hpre => ?_
    have h0 := hd ⟨0, .data⟩ (by simp) rfl _ rfl
    have h4 := hd ⟨4, .data⟩ (by simp) rfl _ rfl
    refine qe_run rfl (wanted_none rfl) (ex_sliceTo (i := min l.length n) (s := 38) rfl Try.underlying50 (by kernel_rfl) h0 h4 (by omega)) QE.refl ?_
    rfl
  · exact stepq_chain rfl
  · refine stepq_env rfl rfl rfl fun Z tr act w' hZ hm hm0 hout hsz hd hub hpre => ?_
    have h6 := hd ⟨6, .data⟩ (by simp) rfl _ rfl
    exact qe_run rfl (wanted_none rfl) (ex_assign rfl rfl) QE.refl h6
  intro u1_0 hr
  have zu1_0 := hr.size
  have Hx1 := Lib.hid (HS.out.mod hr (by intro k h1 h2; (try dsimp only at h1 h2); (try simp only [false_or] at h1 h2); (first | omega | (have hb := HBT.out k h1; omega) | (have hb := HBT.out k h2; omega))))
  have Hx2 := Lib.hid (HM0.out.trans hr (by intro k h1 h2; (try dsimp only at h2 ⊢); (try simp only [false_or] at h2 ⊢); omega))
  clear HS HM0
  clear hr
  refine QChain.cons rfl fun Z act hYZ hZ hout hsz hd hpre => ?_
  have h5 := hd ⟨5, .data⟩ (by simp) rfl _ rfl
  have ea10 : act.eval (.tmp 10) = .slice ao (min l.length n) cap := h5
  refine qc_call (args := #[.slice ao (min l.length n) cap]) rfl (wanted_none rfl) (by rw [ex_callF rfl Try.func101 (by kernel_rfl) (by kernel_rfl)]; exact congrArg (fun z => Result.ok (Next.enter _ z) _) (by simp only [List.map_toArray, List.map_cons, List.map_nil, ea10]; try rfl)) (Copy_St _ _ (l.take (min l.length n)) _ (Hx1.out.upto (min l.length n) (by omega)) (by intro k h1; (try dsimp only at h1); (first | omega | (have hb := HBT.out k h1; omega))) (by simp; omega)) ?_
  rintro e u1_1a ⟨v', rfl, qout, hm⟩
  have zu1_1a := hm.size
  refine ⟨_, rfl, hm.mono (fun _ _ h => h.elim), (fun _ => rfl), ?_⟩
  intro u1_1 hr
  have zu1_1 := hr.size
  have Hx3 := Lib.hid ((qout.widen (R' := (fun k => (u1_0.heap.size ≤ k ∧ k < u1_1a.heap.size))) (E' := (fun k => (R2 k))) (by intro k h1; (try unfold New at h1); (try dsimp only at h1 ⊢); (try simp only [false_or] at h1 ⊢); omega) (fun _ h => h)).mod hr (by intro k h1 h2; (try dsimp only at h1 h2); (try simp only [false_or] at h1 h2); omega) (by intro k h1 h2; (try dsimp only at h1 h2); (try simp only [false_or] at h1 h2); (first | omega | (have hb := HBT.out k h1; omega) | (have hb := HBT.out k h2; omega))))
  have hmr := Mod.after hm hr
  have Hx4 := Lib.hid (Hx1.out.mod hmr (by intro k h1 h2; (try dsimp only at h1 h2); (try simp only [false_or] at h1 h2); (first | omega | (have hb := HBT.out k h1; omega) | (have hb := HBT.out k h2; omega))))
  have Hx5 := Lib.hid (Hx2.out.trans hmr (by intro k h1 h2; (try dsimp only at h2 ⊢); (try simp only [false_or] at h2 ⊢); omega))
  clear Hx1 Hx2
  clear hmr
  clear hm hr hYZ hZ hout hsz hd hpre qout ea10 h5
  refine QChain.nil fun vs hl hzz hrows hne => ?_
  obtain ⟨Z, hYZ, hZb, hV⟩ := hzz
  obtain ⟨v0, vs0, rfl, hl0⟩ := list_cons hl
  obtain ⟨v1, vs1, rfl, hl1⟩ := list_cons hl0
  obtain ⟨v2, vs2, rfl, hl2⟩ := list_cons hl1
  obtain ⟨v3, vs3, rfl, hl3⟩ := list_cons hl2
  obtain ⟨v4, vs4, rfl, hl4⟩ := list_cons hl3
  obtain ⟨v5, vs5, rfl, hl5⟩ := list_cons hl4
  obtain ⟨v6, vs6, rfl, hl6⟩ := list_cons hl5
  obtain ⟨v7, vs7, rfl, hl7⟩ := list_cons hl6
  obtain rfl := list_nil hl7
  clear hl hl0 hl1 hl2 hl3 hl4 hl5 hl6 hl7
  obtain rfl : v0 = .slice ao l.length cap := hV 0 _ rfl
  obtain rfl : v1 = .slice ao l.length cap := hV 1 _ rfl
  obtain rfl : v2 = .int .i64 l.length := hV 2 _ rfl
  obtain rfl : v3 = .int .i64 ((n : Nat) : Int) := hV 3 _ rfl
  obtain rfl : v4 = .int .i64 ((min l.length n : Nat) : Int) := hV 4 _ rfl
  have e6 := Option.some.inj (show some (v') = some v6 from hV 6 _ rfl)
  subst e6
  have e7 := Option.some.inj (show some (v') = some v7 from hV 7 _ rfl)
  subst e7
  have ha0 := HA0.out
  subst ha0
  clear HA0 hV hYZ hZb hsz0 hrows hne oe0 oe1
  simp only [putAll, Act.put, List.setIfInBounds_toArray, List.set_cons_zero, List.set_cons_succ]
  go_wp2
  go_ret
  have hq := Hx3.out
  rw [show l.take (min l.length n) = l.take n by rw [Nat.min_comm, ← List.take_take, List.take_length]] at hq
  exact ⟨v', rfl, hq.widen (by intro k h; (try dsimp only at h); unfold New; omega) (fun _ h => h), Hx5.out⟩
set_option maxHeartbeats 2000000 in
theorem Cut_Dn : CutsS DnR 34 78 := by
  intro R2 v l n w hs hB2 hn
  obtain ⟨css, k1, k2, ⟨k3, ao, cap, rfl, hlc, hcm, k5, k6⟩, k7⟩ := id hs
  clear k1 k2 k3 k5 k6 k7
  rw [maxLen_val] at hcm
  have HS := Lib.hid hs
  have HBT := Lib.hid hB2
  clear hs hB2
  clear css
  go_enter Try.func78, Try.ntmps78
  go_upto_region 1 with (fail)
  have HM0 := Lib.hid (Mod.refl (fun _ => False) w)
  go_upto_region 1 with (fail)
  generalize ha0 : Act.mk _ _ = a0
  have oe0 : a0.eval (.tmp 0) = .slice ao l.length cap := by rw [← ha0]; rfl
  have oe1 : a0.eval (.tmp 1) = .int .i64 ((n : Nat) : Int) := by rw [← ha0]; rfl
  have hsz0 : a0.tmps.size = 12 := by rw [← ha0]; rfl
  have HA0 := Lib.hid ha0
  clear ha0
  refine wp_region_Q 12 hsz0 (by kernel_rfl) (by kernel_rfl) [5, 6, 7, 8, 9, 10, 11, 4] (by kernel_rfl) (by decide) (fun _ => False) (fun _ _ => False) (fun _ _ h => h) [qi (.slice ao l.length cap), qi (.slice ao l.length cap), qi (.int .i64 l.length), qi (.int .i64 ((n : Nat) : Int)), qi (.int .i64 ((min l.length n : Nat) : Int)), qi (.slice ao (min l.length n) cap), qv 0, qv 0] ⟨qi_stable, qi_stable, qi_stable, qi_stable, qi_stable, qi_stable, qv_stable, qv_stable, trivial⟩ [6] (by kernel_rfl) (by decide) (by kernel_rfl) [] (by kernel_rfl) (by intro r hr; cases hr) (by intro r hr; cases hr) (by intro r hr; cases hr) ⟨?_, ?_, ?_, ?_, ?_, ?_, ?_, ?_, trivial⟩ ?_
  · refine stepq_env rfl rfl rfl fun Z tr act w' hZ hm hm0 hout hsz hd hub hpre => ?_
    refine qe_run rfl (wanted_none rfl) (ex_move rfl ((hout 0 (by decide)).trans oe0)) QE.refl ?_
    rfl
  · refine stepq_env rfl rfl rfl fun Z tr act w' hZ hm hm0 hout hsz hd hub hpre => ?_
    refine qe_run rfl (wanted_none rfl) (ex_move rfl ((hout 0 (by decide)).trans oe0)) QE.refl ?_
    rfl
  · refine stepq_env rfl rfl rfl fun Z tr act w' hZ hm hm0 hout hsz hd hub hpre => ?_
    have h1 := hd ⟨1, .data⟩ (by simp) rfl _ rfl
    refine qe_run rfl (wanted_none rfl) (ex_lenS rfl h1 Try.underlying88) QE.refl ?_
    rfl
  · refine stepq_env rfl rfl rfl fun Z tr act w' hZ hm hm0 hout hsz hd hub hpre => ?_
    refine qe_run rfl (wanted_none rfl) (ex_move rfl ((hout 1 (by decide)).trans oe1)) QE.refl ?_
    rfl
  · refine stepq_env rfl rfl rfl fun Z tr act w' hZ hm hm0 hout hsz hd hub hpre => ?_
    have h2 := hd ⟨2, .data⟩ (by simp) rfl _ rfl
    have h3 := hd ⟨3, .data⟩ (by simp) rfl _ rfl
    refine qe_run rfl (wanted_none rfl) (ex_min (r := ((min l.length n : Nat) : Int)) rfl h2 h3 (by split <;> omega)) QE.refl ?_
    rfl
  · refine stepq_env rfl rfl rfl fun Z tr act w' hZ hm hm0 hout hsz hd hub hpre => ?_
    have h0 := hd ⟨0, .data⟩ (by simp) rfl _ rfl
    have h4 := hd ⟨4, .data⟩ (by simp) rfl _ rfl
    refine qe_run rfl (wanted_none rfl) (ex_sliceTo (i := min l.length n) (s := 4) rfl Try.underlying88 (by kernel_rfl) h0 h4 (by omega)) QE.refl ?_
    rfl
  · exact stepq_chain rfl
  · refine stepq_env rfl rfl rfl fun Z tr act w' hZ hm hm0 hout hsz hd hub hpre => ?_
    have h6 := hd ⟨6, .data⟩ (by simp) rfl _ rfl
    exact qe_run rfl (wanted_none rfl) (ex_assign rfl rfl) QE.refl h6
  intro u1_0 hr
  have zu1_0 := hr.size
  have Hx1 := Lib.hid (HS.out.mod hr (by intro k h1 h2; (try dsimp only at h1 h2); (try simp only [false_or] at h1 h2); (first | omega | (have hb := HBT.out k h1; omega) | (have hb := HBT.out k h2; omega))))
  have Hx2 := Lib.hid (HM0.out.trans hr (by intro k h1 h2; (try dsimp only at h2 ⊢); (try simp only [false_or] at h2 ⊢); omega))
  clear HS HM0
  clear hr
  refine QChain.cons rfl fun Z act hYZ hZ hout hsz hd hpre => ?_
  have h5 := hd ⟨5, .data⟩ (by simp) rfl _ rfl
  have ea10 : act.eval (.tmp 10) = .slice ao (min l.length n) cap := h5
  refine qc_call (args := #[.slice ao (min l.length n) cap]) rfl (wanted_none rfl) (by rw [ex_callF rfl Try.func93 (by kernel_rfl) (by kernel_rfl)]; exact congrArg (fun z => Result.ok (Next.enter _ z) _) (by simp only [List.map_toArray, List.map_cons, List.map_nil, ea10]; try rfl)) (Copy_Dn _ _ (l.take (min l.length n)) _ (Hx1.out.upto (min l.length n) (by omega)) (by intro k h1; (try dsimp only at h1); (first | omega | (have hb := HBT.out k h1; omega))) (by simp; omega)) ?_
  rintro e u1_1a ⟨v', rfl, qout, hm⟩
  have zu1_1a := hm.size
  refine ⟨_, rfl, hm.mono (fun _ _ h => h.elim), (fun _ => rfl), ?_⟩
  intro u1_1 hr
  have zu1_1 := hr.size
  have Hx3 := Lib.hid ((qout.widen (R' := (fun k => (u1_0.heap.size ≤ k ∧ k < u1_1a.heap.size))) (E' := (fun k => (R2 k))) (by intro k h1; (try unfold New at h1); (try dsimp only at h1 ⊢); (try simp only [false_or] at h1 ⊢); omega) (fun _ h => h)).mod hr (by intro k h1 h2; (try dsimp only at h1 h2); (try simp only [false_or] at h1 h2); omega) (by intro k h1 h2; (try dsimp only at h1 h2); (try simp only [false_or] at h1 h2); (first | omega | (have hb := HBT.out k h1; omega) | (have hb := HBT.out k h2; omega))))
  have hmr := Mod.after hm hr
  have Hx4 := Lib.hid (Hx1.out.mod hmr (by intro k h1 h2; (try dsimp only at h1 h2); (try simp only [false_or] at h1 h2); (first | omega | (have hb := HBT.out k h1; omega) | (have hb := HBT.out k h2; omega))))
  have Hx5 := Lib.hid (Hx2.out.trans hmr (by intro k h1 h2; (try dsimp only at h2 ⊢); (try simp only [false_or] at h2 ⊢); omega))
  clear Hx1 Hx2
  clear hmr
  clear hm hr hYZ hZ hout hsz hd hpre qout ea10 h5
  refine QChain.nil fun vs hl hzz hrows hne => ?_
  obtain ⟨Z, hYZ, hZb, hV⟩ := hzz
  obtain ⟨v0, vs0, rfl, hl0⟩ := list_cons hl
  obtain ⟨v1, vs1, rfl, hl1⟩ := list_cons hl0
  obtain ⟨v2, vs2, rfl, hl2⟩ := list_cons hl1
  obtain ⟨v3, vs3, rfl, hl3⟩ := list_cons hl2
  obtain ⟨v4, vs4, rfl, hl4⟩ := list_cons hl3
  obtain ⟨v5, vs5, rfl, hl5⟩ := list_cons hl4
  obtain ⟨v6, vs6, rfl, hl6⟩ := list_cons hl5
  obtain ⟨v7, vs7, rfl, hl7⟩ := list_cons hl6
  obtain rfl := list_nil hl7
  clear hl hl0 hl1 hl2 hl3 hl4 hl5 hl6 hl7
  obtain rfl : v0 = .slice ao l.length cap := hV 0 _ rfl
  obtain rfl : v1 = .slice ao l.length cap := hV 1 _ rfl
  obtain rfl : v2 = .int .i64 l.length := hV 2 _ rfl
  obtain rfl : v3 = .int .i64 ((n : Nat) : Int) := hV 3 _ rfl
  obtain rfl : v4 = .int .i64 ((min l.length n : Nat) : Int) := hV 4 _ rfl
  have e6 := Option.some.inj (show some (v') = some v6 from hV 6 _ rfl)
  subst e6
  have e7 := Option.some.inj (show some (v') = some v7 from hV 7 _ rfl)
  subst e7
  have ha0 := HA0.out
  subst ha0
  clear HA0 hV hYZ hZb hsz0 hrows hne oe0 oe1
  simp only [putAll, Act.put, List.setIfInBounds_toArray, List.set_cons_zero, List.set_cons_succ]
  go_wp2
  go_ret
  have hq := Hx3.out
  rw [show l.take (min l.length n) = l.take n by rw [Nat.min_comm, ← List.take_take, List.take_length]] at hq
  exact ⟨v', rfl, hq.widen (by intro k h; (try dsimp only at h); unfold New; omega) (fun _ h => h), Hx5.out⟩
end Go.Proofs.Ytknpapcfhnhheaa

/- Certificates and promises that are cut. -/
set_option maxRecDepth 100000
set_option linter.unusedVariables false
namespace Go.Proofs.Ytknpapcfhnhheaa
open Go Go.RowKit Go.Gv


/-- what the laws leave of a certificate, a promise -/
def cutCe (x : Ce) : Ce := { x with l := x.l.take 5 }
def cutPm (x : Pm) : Pm := { x with l := (x.l.take 3).map cutCe }
/-- a function that gives a thing anew, cut -/
def CutR {α : Type} (A : Rep α) (F : FuncId) (f : α → α) : Prop := ∀ (R2 : Nat → Prop) (x : α) (cs : List Value) (w : World), A.rd R2 w cs x → (∀ k, R2 k → k < w.heap.size) →
  Calls Try.prog F #[.agg cs.toArray] w fun e w' => ∃ cs', e = .returned (.agg cs'.toArray) ∧ A.rd (fun k => R2 k ∨ New w w' k) w' cs' (f x) ∧ Mod (fun _ => False) w w'
theorem size_ce : (Try.prog.info? 52).map (·.size) = some (37 + 1) := by kernel_rfl
theorem one_ce (c : Cm) (v : Value) (h : v.oneCell' = true) : ∀ u ∈ c.cells ++ [v], u.oneCell' = true := by
  intro u hu
  rw [List.mem_append] at hu
  rcases hu with hu | hu
  · exact Cm_one _ _ hu
  · simp at hu; subst hu; exact h
theorem take_two {α : Type} {l : List α} {k n : Nat} (hk : k ≤ n) (h : k = n ∨ l.length ≤ k) : l.take k = l.take n := by
  rcases h with rfl | h
  · rfl
  · rw [List.take_of_length_le h, List.take_of_length_le (by omega)]
theorem lay_l (c : Cm) (u v : Value) (hl : c.h.length = 32) : lay (c.cells ++ [u]).toArray 37 [v] = (c.cells ++ [v]).toArray := by
  have h37 := Cm.len hl
  simp [lay, h37]
set_option maxHeartbeats 4000000 in
theorem LCert_c : CutR CeR 21 cutCe := by
  intro R2 x cs w hx hB2
  obtain ⟨v_l, rfl, hok, hs0⟩ := hx
  obtain ⟨ao, cap, rfl⟩ := hs0.shape
  have HS := Lib.hid hs0
  have HBT := Lib.hid hB2
  have HOK := Lib.hid hok
  clear hs0 hB2 hok
  go_enter Try.func21, Try.ntmps21
  go_upto_region 1 with (fail)
  obtain ⟨w1, hw1⟩ : ∃ zz, zz = ((w.alloc (.cells (x.cells (.slice ao x.l.length cap) : List Value).toArray 52)).alloc (.cells #[.int .i64 0, .int .i64 0, .int .u8 0, .int .u8 0, .int .u8 0, .int .u8 0, .int .u8 0, .int .u8 0, .int .u8 0, .int .u8 0, .int .u8 0, .int .u8 0, .int .u8 0, .int .u8 0, .int .u8 0, .int .u8 0, .int .u8 0, .int .u8 0, .int .u8 0, .int .u8 0, .int .u8 0, .int .u8 0, .int .u8 0, .int .u8 0, .int .u8 0, .int .u8 0, .int .u8 0, .int .u8 0, .int .u8 0, .int .u8 0, .int .u8 0, .int .u8 0, .int .u8 0, .int .u8 0, .int .i64 0, .int .i64 0, .int .i64 0, .slice none 0 0] 52)) := ⟨_, rfl⟩
  change Code.wp _ _ _ _ ((w.alloc (.cells (x.cells (.slice ao x.l.length cap) : List Value).toArray 52)).alloc (.cells #[.int .i64 0, .int .i64 0, .int .u8 0, .int .u8 0, .int .u8 0, .int .u8 0, .int .u8 0, .int .u8 0, .int .u8 0, .int .u8 0, .int .u8 0, .int .u8 0, .int .u8 0, .int .u8 0, .int .u8 0, .int .u8 0, .int .u8 0, .int .u8 0, .int .u8 0, .int .u8 0, .int .u8 0, .int .u8 0, .int .u8 0, .int .u8 0, .int .u8 0, .int .u8 0, .int .u8 0, .int .u8 0, .int .u8 0, .int .u8 0, .int .u8 0, .int .u8 0, .int .u8 0, .int .u8 0, .int .i64 0, .int .i64 0, .int .i64 0, .slice none 0 0] 52))
  rw [← hw1]
  have HB1 := Lib.hid (show Cs w1 (w.heap.size) (x.cells (.slice ao x.l.length cap) : List Value).toArray 52 by rw [hw1]; exact (Cs.new _ _ _).alloc _)
  have HB2 := Lib.hid (show Cs w1 (w.heap.size + 1) #[.int .i64 0, .int .i64 0, .int .u8 0, .int .u8 0, .int .u8 0, .int .u8 0, .int .u8 0, .int .u8 0, .int .u8 0, .int .u8 0, .int .u8 0, .int .u8 0, .int .u8 0, .int .u8 0, .int .u8 0, .int .u8 0, .int .u8 0, .int .u8 0, .int .u8 0, .int .u8 0, .int .u8 0, .int .u8 0, .int .u8 0, .int .u8 0, .int .u8 0, .int .u8 0, .int .u8 0, .int .u8 0, .int .u8 0, .int .u8 0, .int .u8 0, .int .u8 0, .int .u8 0, .int .u8 0, .int .i64 0, .int .i64 0, .int .i64 0, .slice none 0 0] 52 by rw [hw1]; exact Cs_newN _ _ _ (by simp))
  have hm : Mod (fun _ => False) w w1 := by rw [hw1]; exact ((Mod.refl _ _).alloc _).alloc _
  have HM0 := Lib.hid (show Mod (fun _ => False) w w1 from hm.mono (fun _ _ h => h.elim))
  have hs1 : w1.heap.size = w.heap.size + 2 := by rw [hw1]; simp
  have Hx1 := Lib.hid (HS.out.mod hm (fun _ _ h => h))
  clear HS
  clear hw1 hm
  go_upto_region 1 with (fail)
  generalize ha0 : Act.mk _ _ = a0
  have oe1 : a0.eval (.tmp 1) = .pointer (some ⟨w.heap.size, 0, none⟩) := by rw [← ha0]; rfl
  have hsz0 : a0.tmps.size = 8 := by rw [← ha0]; rfl
  have HA0 := Lib.hid ha0
  clear ha0
  refine wp_region_Q 8 hsz0 (by kernel_rfl) (by kernel_rfl) [3, 4, 5, 6, 12] (by kernel_rfl) (by decide) (fun k => (k = w.heap.size)) (fun k j => (k = 1 ∧ ((j = w.heap.size)))) (by intro k j h; (try dsimp only at h ⊢); omega) [qi (.pointer (some ⟨w.heap.size, 37, none⟩)), qi (.slice ao x.l.length cap), qv 0, qi (.pointer (some ⟨w.heap.size, 37, none⟩)), qv 1] ⟨qi_stable, qi_stable, qv_stable, qi_stable, qv_stable, trivial⟩ [2, 4] (by kernel_rfl) (by decide) (by kernel_rfl) [] (by kernel_rfl) (by intro r hr; cases hr) (by intro r hr; cases hr) (by intro r hr; cases hr) ⟨?_, ?_, ?_, ?_, ?_, trivial⟩ ?_
  · refine stepq_env rfl rfl rfl fun Z tr act w' hZ hm hm0 hout hsz hd hub hpre => ?_
    refine qe_run rfl (wanted_none rfl) (ex_field rfl Try.underlying52 rfl (by kernel_rfl) ((hout 1 (by decide)).trans oe1)) QE.refl ?_
    rfl
  · refine stepq_env rfl rfl rfl fun Z tr act w' hZ hm hm0 hout hsz hd hub hpre => ?_
    have h0 := hd ⟨0, .data⟩ (by simp) rfl _ rfl
    refine qe_run rfl (wanted_none rfl) (ex_load1 rfl Try.underlying50 rfl h0 (Cs.post1 (pre := []) (mid := x.c.cells) (post := [.slice ao x.l.length cap]) (m := 37) (k := 0) (HB1.out.mod hm0 (by intro h2; have hu := hub 1 4 rfl (by kernel_rfl); (try dsimp only at h2); rcases h2 with ⟨h0, kk, hk, h2⟩ | h2 <;> omega)) (Cm.len HOK.out.2.1) rfl rfl)) QE.refl ?_
    rfl
  · exact stepq_chain rfl
  · refine stepq_env rfl rfl rfl fun Z tr act w' hZ hm hm0 hout hsz hd hub hpre => ?_
    refine qe_run rfl (wanted_none rfl) (ex_field rfl Try.underlying52 rfl (by kernel_rfl) ((hout 1 (by decide)).trans oe1)) QE.refl ?_
    rfl
  · exact stepq_chain rfl
  intro u1_0 hr
  have zu1_0 := hr.size
  have Hx2 := Lib.hid (Hx1.out.mod hr (by intro k h1 h2; (try dsimp only at h1 h2); (try simp only [false_or] at h1 h2); (first | omega | (have hb := HBT.out k h1; omega) | (have hb := HBT.out k h2; omega))))
  have Hx3 := Lib.hid (HB1.out.mod hr (by intro h2; (try dsimp only at h2); (try simp only [false_or] at h2); omega))
  have Hx4 := Lib.hid (HB2.out.mod hr (by intro h2; (try dsimp only at h2); (try simp only [false_or] at h2); omega))
  have Hx5 := Lib.hid (HM0.out.trans hr (by intro k h1 h2; (try dsimp only at h2 ⊢); (try simp only [false_or] at h2 ⊢); omega))
  clear Hx1 HB1 HB2 HM0
  clear hr
  refine QChain.cons rfl fun Z act hYZ hZ hout hsz hd hpre => ?_
  have h1 := hd ⟨1, .data⟩ (by simp) rfl _ rfl
  have ea4 : act.eval (.tmp 4) = .slice ao x.l.length cap := h1
  refine qc_call (args := #[.slice ao x.l.length cap, .int .i64 5]) rfl (wanted_none rfl) (by rw [ex_callF rfl Try.func72 (by kernel_rfl) (by kernel_rfl)]; exact congrArg (fun z => Result.ok (Next.enter _ z) _) (by simp only [List.map_toArray, List.map_cons, List.map_nil, ea4]; try rfl)) (Cut_St _ _ x.l 5 _ Hx2.out (by intro k h1; (try dsimp only at h1); (first | omega | (have hb := HBT.out k h1; omega))) (by omega)) ?_
  rintro e u1_1a ⟨v', rfl, qout, hm⟩
  obtain ⟨ao', cap', rfl⟩ := qout.shape
  have zu1_1a := hm.size
  refine ⟨_, rfl, hm.mono (fun _ _ h => h.elim), (fun _ => rfl), ?_⟩
  intro u1_1 hr
  have zu1_1 := hr.size
  have Hx6 := Lib.hid ((qout.widen (R' := (fun k => (u1_0.heap.size ≤ k ∧ k < u1_1a.heap.size))) (E' := (fun k => (R2 k))) (by intro k h1; (try unfold New at h1); (try dsimp only at h1 ⊢); (try simp only [false_or] at h1 ⊢); omega) (fun _ h => h)).mod hr (by intro k h1 h2; (try dsimp only at h1 h2); (try simp only [false_or] at h1 h2); omega) (by intro k h1 h2; (try dsimp only at h1 h2); (try simp only [false_or] at h1 h2); (first | omega | (have hb := HBT.out k h1; omega) | (have hb := HBT.out k h2; omega))))
  have hmr := Mod.after hm hr
  have Hx7 := Lib.hid (Hx2.out.mod hmr (by intro k h1 h2; (try dsimp only at h1 h2); (try simp only [false_or] at h1 h2); (first | omega | (have hb := HBT.out k h1; omega) | (have hb := HBT.out k h2; omega))))
  have Hx8 := Lib.hid (Hx3.out.mod hmr (by intro h2; (try dsimp only at h2); (try simp only [false_or] at h2); omega))
  have Hx9 := Lib.hid (Hx4.out.mod hmr (by intro h2; (try dsimp only at h2); (try simp only [false_or] at h2); omega))
  have Hx10 := Lib.hid (Hx5.out.trans hmr (by intro k h1 h2; (try dsimp only at h2 ⊢); (try simp only [false_or] at h2 ⊢); omega))
  clear Hx2 Hx3 Hx4 Hx5
  clear hmr
  clear hm hr hYZ hZ hout hsz hd hpre qout ea4 h1
  refine QChain.cons rfl fun Z act hYZ hZ hout hsz hd hpre => ?_
  have h2 := hd ⟨2, .data⟩ (by simp) rfl _ rfl
  have h3 := hd ⟨3, .data⟩ (by simp) rfl _ rfl
  refine qc_store rfl (wanted_none rfl) rfl Hx8.out (off := 37) (vs := [Value.slice ao' (x.l.take 5).length cap']) (by kernel_rfl) (by intro u hu; simp at hu; subst hu; rfl) (by simp [Ce.cells, Cm.len HOK.out.2.1]) h3 (by rw [show act.eval ((.tmp 5)) = _ from (Option.some.inj (show some (.slice ao' (x.l.take 5).length cap' : Value) = some (act.eval (.tmp 5)) from h2)).symm]; rfl) ?_
  intro u1_2a qc0 hm
  have qB1 : Cs u1_2a (w.heap.size) ((x.c.cells ++ [Value.slice ao' (x.l.take 5).length cap']) : List Value).toArray 52 := by rw [show lay _ 37 _ = ((x.c.cells ++ [Value.slice ao' (x.l.take 5).length cap']) : List Value).toArray from lay_l x.c _ _ HOK.out.2.1] at qc0; exact qc0
  clear qc0
  have zu1_2a := hm.size
  refine ⟨hm.mono (by intro k hk h; (try dsimp only at h ⊢); (try simp only [false_or, or_false, true_and] at h ⊢); omega), (fun _ => rfl), ?_⟩
  intro u1_2 hr
  have zu1_2 := hr.size
  have Hx11 := Lib.hid (qB1.mod hr (by intro h2; (try dsimp only at h2); (try simp only [false_or] at h2); omega))
  have hmr := hm.two hr
  have Hx12 := Lib.hid (Hx7.out.mod hmr (by intro k h1 h2; (try dsimp only at h1 h2); (try simp only [false_or] at h1 h2); rcases h2 with h2 | h2 <;> (first | omega | (have hb := HBT.out k h1; omega) | (have hb := HBT.out k h2; omega))))
  have Hx13 := Lib.hid (Hx9.out.mod hmr (by intro h2; (try dsimp only at h2); (try simp only [false_or] at h2); omega))
  have Hx14 := Lib.hid (Hx10.out.trans hmr (by intro k h1 h2; (try dsimp only at h2 ⊢); (try simp only [false_or] at h2 ⊢); omega))
  have Hx15 := Lib.hid (Hx6.out.mod hmr (by intro k h1 h2; (try dsimp only at h1 h2); (try simp only [false_or] at h1 h2); omega) (by intro k h1 h2; (try dsimp only at h1 h2); (try simp only [false_or] at h1 h2); rcases h2 with h2 | h2 <;> (first | omega | (have hb := HBT.out k h1; omega) | (have hb := HBT.out k h2; omega))))
  clear Hx7 Hx9 Hx10 Hx6
  clear hmr
  clear hm hr hYZ hZ hout hsz hd hpre qB1 Hx8 h2 h3
  refine QChain.nil fun vs hl hzz hrows hne => ?_
  obtain ⟨Z, hYZ, hZb, hV⟩ := hzz
  obtain ⟨v0, vs0, rfl, hl0⟩ := list_cons hl
  obtain ⟨v1, vs1, rfl, hl1⟩ := list_cons hl0
  obtain ⟨v2, vs2, rfl, hl2⟩ := list_cons hl1
  obtain ⟨v3, vs3, rfl, hl3⟩ := list_cons hl2
  obtain ⟨v4, vs4, rfl, hl4⟩ := list_cons hl3
  obtain rfl := list_nil hl4
  clear hl hl0 hl1 hl2 hl3 hl4
  have e2 := Option.some.inj (show some (.slice ao' (x.l.take 5).length cap') = some v2 from hV 2 _ rfl)
  subst e2
  have ha0 := HA0.out
  subst ha0
  clear HA0 hV hYZ hZb hsz0 hrows hne oe1
  simp only [putAll, Act.put, List.setIfInBounds_toArray, List.set_cons_zero, List.set_cons_succ, List.set_nil]
  go_upto_region 2 with (fail)
  generalize ha0 : Act.mk _ _ = a0
  have oe1 : a0.eval (.tmp 1) = .pointer (some ⟨w.heap.size, 0, none⟩) := by rw [← ha0]; rfl
  have oe2 : a0.eval (.tmp 2) = .pointer (some ⟨w.heap.size + 1, 0, none⟩) := by rw [← ha0]; rfl
  have hsz0 : a0.tmps.size = 8 := by rw [← ha0]; rfl
  have HA0 := Lib.hid ha0
  clear ha0
  refine wp_region_Q 8 hsz0 (by kernel_rfl) (by kernel_rfl) [7, 9] (by kernel_rfl) (by decide) (fun k => (k = w.heap.size + 1)) (fun k j => (k = 0 ∧ ((j = w.heap.size + 1)))) (by intro k j h; (try dsimp only at h ⊢); omega) [qi (.agg (x.c.cells ++ [Value.slice ao' (x.l.take 5).length cap']).toArray), qv 0] ⟨qi_stable, qv_stable, trivial⟩ [1] (by kernel_rfl) (by decide) (by kernel_rfl) [] (by kernel_rfl) (by intro r hr; cases hr) (by intro r hr; cases hr) (by intro r hr; cases hr) ⟨?_, ?_, trivial⟩ ?_
  · refine stepq_env rfl rfl rfl fun Z tr act w' hZ hm hm0 hout hsz hd hub hpre => ?_
    refine qe_run rfl (wanted_none rfl) (ex_loadA rfl Try.underlying52 rfl (off := 0) (cs := x.c.cells ++ [Value.slice ao' (x.l.take 5).length cap']) (by rw [List.length_append, Cm.len HOK.out.2.1]; exact size_ce) ((hout 1 (by decide)).trans oe1) (Cs.whole (Hx11.out.mod hm (by intro h2; (try dsimp only at h2); (try simp only [false_or] at h2); omega)))) QE.refl ?_
    rfl
  · exact stepq_chain rfl
  intro u2_0 hr
  have zu2_0 := hr.size
  have Hx16 := Lib.hid (Hx12.out.mod hr (by intro k h1 h2; (try dsimp only at h1 h2); (try simp only [false_or] at h1 h2); (first | omega | (have hb := HBT.out k h1; omega) | (have hb := HBT.out k h2; omega))))
  have Hx17 := Lib.hid (Hx11.out.mod hr (by intro h2; (try dsimp only at h2); (try simp only [false_or] at h2); omega))
  have Hx18 := Lib.hid (Hx13.out.mod hr (by intro h2; (try dsimp only at h2); (try simp only [false_or] at h2); omega))
  have Hx19 := Lib.hid (Hx14.out.trans hr (by intro k h1 h2; (try dsimp only at h2 ⊢); (try simp only [false_or] at h2 ⊢); omega))
  have Hx20 := Lib.hid (Hx15.out.mod hr (by intro k h1 h2; (try dsimp only at h1 h2); (try simp only [false_or] at h1 h2); omega) (by intro k h1 h2; (try dsimp only at h1 h2); (try simp only [false_or] at h1 h2); (first | omega | (have hb := HBT.out k h1; omega) | (have hb := HBT.out k h2; omega))))
  clear Hx12 Hx11 Hx13 Hx14 Hx15
  clear hr
  refine QChain.cons rfl fun Z act hYZ hZ hout hsz hd hpre => ?_
  have h0 := hd ⟨0, .data⟩ (by simp) rfl _ rfl
  refine qc_store rfl (wanted_none rfl) rfl Hx18.out (off := 0) (vs := (x.c.cells ++ [Value.slice ao' (x.l.take 5).length cap'])) (by rw [List.length_append, Cm.len HOK.out.2.1]; exact size_ce) (one_ce _ _ rfl) (by simp [Cm.len HOK.out.2.1]) ((hout 2 (by decide)).trans oe2) (by rw [show act.eval ((.tmp 7)) = _ from h0]; rfl) ?_
  intro u2_1a qc0 hm
  have qB2 : Cs u2_1a (w.heap.size + 1) ((x.c.cells ++ [Value.slice ao' (x.l.take 5).length cap']) : List Value).toArray 52 := by rw [show lay _ 0 _ = ((x.c.cells ++ [Value.slice ao' (x.l.take 5).length cap']) : List Value).toArray from lay_whole _ _ (by simp [Cm.len HOK.out.2.1])] at qc0; exact qc0
  clear qc0
  have zu2_1a := hm.size
  refine ⟨hm.mono (by intro k hk h; (try dsimp only at h ⊢); (try simp only [false_or, or_false, true_and] at h ⊢); omega), (fun _ => rfl), ?_⟩
  intro u2_1 hr
  have zu2_1 := hr.size
  have Hx21 := Lib.hid (qB2.mod hr (by intro h2; (try dsimp only at h2); (try simp only [false_or] at h2); omega))
  have hmr := hm.two hr
  have Hx22 := Lib.hid (Hx16.out.mod hmr (by intro k h1 h2; (try dsimp only at h1 h2); (try simp only [false_or] at h1 h2); rcases h2 with h2 | h2 <;> (first | omega | (have hb := HBT.out k h1; omega) | (have hb := HBT.out k h2; omega))))
  have Hx23 := Lib.hid (Hx17.out.mod hmr (by intro h2; (try dsimp only at h2); (try simp only [false_or] at h2); omega))
  have Hx24 := Lib.hid (Hx19.out.trans hmr (by intro k h1 h2; (try dsimp only at h2 ⊢); (try simp only [false_or] at h2 ⊢); omega))
  have Hx25 := Lib.hid (Hx20.out.mod hmr (by intro k h1 h2; (try dsimp only at h1 h2); (try simp only [false_or] at h1 h2); omega) (by intro k h1 h2; (try dsimp only at h1 h2); (try simp only [false_or] at h1 h2); rcases h2 with h2 | h2 <;> (first | omega | (have hb := HBT.out k h1; omega) | (have hb := HBT.out k h2; omega))))
  clear Hx16 Hx17 Hx19 Hx20
  clear hmr
  clear hm hr hYZ hZ hout hsz hd hpre qB2 Hx18 h0
  refine QChain.nil fun vs hl hzz hrows hne => ?_
  obtain ⟨Z, hYZ, hZb, hV⟩ := hzz
  obtain ⟨v0, vs0, rfl, hl0⟩ := list_cons hl
  obtain ⟨v1, vs1, rfl, hl1⟩ := list_cons hl0
  obtain rfl := list_nil hl1
  clear hl hl0 hl1
  have ha0 := HA0.out
  subst ha0
  clear HA0 hV hYZ hZb hsz0 hrows hne oe1 oe2
  simp only [putAll, Act.put, List.setIfInBounds_toArray, List.set_cons_zero, List.set_cons_succ, List.set_nil]
  go_wp2
  have hq := Hx25.out
  refine bodyPost_ret (results_cellA rfl _ _ (w.heap.size + 1) (x.c.cells ++ [Value.slice ao' (x.l.take 5).length cap']) rfl (fun k u hu => by rw [Hx21.out.cell]; simpa using hu) Try.underlying52 rfl (by rw [List.length_append, Cm.len HOK.out.2.1]; exact size_ce)) rfl ⟨_, rfl, ⟨_, rfl, HOK.out, hq.rd.widen ?_⟩, Hx24.out⟩
  intro k h
  (try dsimp only at h ⊢)
  rcases h with h | h
  · right; unfold New; omega
  · exact Or.inl h
set_option maxHeartbeats 4000000 in
theorem LPromise_c : CutR PmR 23 cutPm := by
  intro R2 x cs w hx hB2
  obtain ⟨v_l, rfl, hok, hs0⟩ := hx
  obtain ⟨ao, cap, rfl⟩ := hs0.shape
  have HS := Lib.hid hs0
  have HBT := Lib.hid hB2
  have HOK := Lib.hid hok
  clear hs0 hB2 hok
  go_enter Try.func23, Try.ntmps23
  go_upto_region 1 with (fail)
  obtain ⟨w1, hw1⟩ : ∃ zz, zz = ((w.alloc (.cells (x.cells (.slice ao x.l.length cap) : List Value).toArray 55)).alloc (.cells #[.int .i64 0, .int .i64 0, .int .u64 0, .slice none 0 0, .int .i64 0, .int .i64 0] 55)) := ⟨_, rfl⟩
  change Code.wp _ _ _ _ ((w.alloc (.cells (x.cells (.slice ao x.l.length cap) : List Value).toArray 55)).alloc (.cells #[.int .i64 0, .int .i64 0, .int .u64 0, .slice none 0 0, .int .i64 0, .int .i64 0] 55))
  rw [← hw1]
  have HB1 := Lib.hid (show Cs w1 (w.heap.size) (x.cells (.slice ao x.l.length cap) : List Value).toArray 55 by rw [hw1]; exact (Cs.new _ _ _).alloc _)
  have HB2 := Lib.hid (show Cs w1 (w.heap.size + 1) #[.int .i64 0, .int .i64 0, .int .u64 0, .slice none 0 0, .int .i64 0, .int .i64 0] 55 by rw [hw1]; exact Cs_newN _ _ _ (by simp))
  have hm : Mod (fun _ => False) w w1 := by rw [hw1]; exact ((Mod.refl _ _).alloc _).alloc _
  have HM0 := Lib.hid (show Mod (fun _ => False) w w1 from hm.mono (fun _ _ h => h.elim))
  have hs1 : w1.heap.size = w.heap.size + 2 := by rw [hw1]; simp
  have Hx1 := Lib.hid (HS.out.mod hm (fun _ _ h => h))
  clear HS
  clear hw1 hm
  go_wp2
  go_loopw [3, 4] (fun ta ti wr => ∃ k : Nat, ti = .int .i64 (k : Int) ∧ k ≤ x.l.length ∧ k ≤ 3 ∧ w1.heap.size ≤ wr.heap.size ∧ OwS CeR 52 (fun b => w1.heap.size ≤ b ∧ b < wr.heap.size) (fun b => R2 b ∨ (w1.heap.size ≤ b ∧ b < wr.heap.size)) wr ta ((x.l.take k).map cutCe) ∧ RdS CeR R2 wr (.slice ao x.l.length cap) x.l ∧ Cs wr (w.heap.size) (x.cells (.slice ao x.l.length cap) : List Value).toArray 55 ∧ Cs wr (w.heap.size + 1) #[.int .i64 0, .int .i64 0, .int .u64 0, .slice none 0 0, .int .i64 0, .int .i64 0] 55 ∧ Mod (fun _ => False) w wr) (fun _ ti _ => x.l.length - (intOf ti).toNat)
  case atStart => exact ⟨0, rfl, Nat.zero_le _, Nat.zero_le _, Nat.le_refl _, OwS.nil _ _ _ _ _, Hx1.out, HB1.out, HB2.out, HM0.out⟩
  case round =>
    obtain ⟨k1, rfl, hk, hkN, hz, ha, hk_0, hk_1, hk_2, hm⟩ := hrel
    obtain ⟨wl1, rfl⟩ : ∃ x, x = wr := ⟨_, rfl⟩
    obtain ⟨aol1, capl1, rfl⟩ := ha.shape
    have HAL1 := Lib.hid ha
    have HKL1_0 := Lib.hid hk_0
    have HKL1_1 := Lib.hid hk_1
    have HKL1_2 := Lib.hid hk_2
    have HML1 := Lib.hid hm
    clear ha hm hk_0 hk_1 hk_2 Hx1 HB1 HB2 HM0
    by_cases hlt1 : k1 < x.l.length ∧ k1 < 3
    · obtain ⟨hlt1, hlN1⟩ := hlt1
      go_upto_region 3 with (fail)
      generalize ha0 : Act.mk _ _ = a0
      have oe1 : a0.eval (.tmp 1) = .pointer (some ⟨w.heap.size, 0, none⟩) := by rw [← ha0]; rfl
      have oe4 : a0.eval (.tmp 4) = .int .i64 ((k1 : Nat) : Int) := by rw [← ha0]; rfl
      have hsz0 : a0.tmps.size = 28 := by rw [← ha0]; rfl
      have HA0 := Lib.hid ha0
      clear ha0
      refine wp_region_Q 28 hsz0 (by kernel_rfl) (by kernel_rfl) [5, 6, 7, 8, 9, 10, 11, 12, 13] (by kernel_rfl) (by decide) (fun _ => False) (fun _ _ => False) (fun _ _ h => h) [qi (.int .i64 ((k1 : Nat) : Int)), qi (.pointer (some ⟨w.heap.size, 3, none⟩)), qi (.slice ao x.l.length cap), qi (.int .i64 x.l.length), qi (.bool true), qi (.bool true), qi (.int .i64 ((k1 : Nat) : Int)), qi (.bool true), qi (.bool true)] ⟨qi_stable, qi_stable, qi_stable, qi_stable, qi_stable, qi_stable, qi_stable, qi_stable, qi_stable, trivial⟩ [] (by kernel_rfl) (by decide) (by kernel_rfl) [] (by kernel_rfl) (by intro r hr; cases hr) (by intro r hr; cases hr) (by intro r hr; cases hr) ⟨?_, ?_, ?_, ?_, ?_, ?_, ?_, ?_, ?_, trivial⟩ ?_
      · refine stepq_env rfl rfl rfl fun Z tr act w' hZ hm hm0 hout hsz hd hub hpre => ?_
        refine qe_run rfl (wanted_none rfl) (ex_move rfl ((hout 4 (by decide)).trans oe4)) QE.refl ?_
        rfl
      · refine stepq_env rfl rfl rfl fun Z tr act w' hZ hm hm0 hout hsz hd hub hpre => ?_
        refine qe_run rfl (wanted_none rfl) (ex_field rfl Try.underlying55 rfl (by kernel_rfl) ((hout 1 (by decide)).trans oe1)) QE.refl ?_
        rfl
      · refine stepq_env rfl rfl rfl fun Z tr act w' hZ hm hm0 hout hsz hd hub hpre => ?_
        have h1 := hd ⟨1, .data⟩ (by simp) rfl _ rfl
        refine qe_run rfl (wanted_none rfl) (ex_load1 rfl Try.underlying53 rfl h1 (Cs.lit1 (HKL1_1.out.mod (Mod.mono (S' := fun k => wl1.heap.size ≤ k) hm (fun _ _ h => h.elim (fun h => h.2.elim) (fun h => h))) (by intro h2; (try dsimp only at h2); (try simp only [false_or] at h2); omega)) rfl)) QE.refl ?_
        rfl
      · refine stepq_env rfl rfl rfl fun Z tr act w' hZ hm hm0 hout hsz hd hub hpre => ?_
        have h2 := hd ⟨2, .data⟩ (by simp) rfl _ rfl
        refine qe_run rfl (wanted_none rfl) (ex_lenS rfl h2 Try.underlying53) QE.refl ?_
        rfl
      · refine stepq_env rfl rfl rfl fun Z tr act w' hZ hm hm0 hout hsz hd hub hpre => ?_
        have h0 := hd ⟨0, .data⟩ (by simp) rfl _ rfl
        have h3 := hd ⟨3, .data⟩ (by simp) rfl _ rfl
        refine qe_run rfl (wanted_none rfl) (ex_binE rfl h0 h3 (guard_ints _ _ _ _ _ _) (run_lss_i _ _ _ Try.underlying3) (congrArg Value.bool (decide_eq_true (by omega)))) QE.refl ?_
        rfl
      · refine stepq_env rfl rfl rfl fun Z tr act w' hZ hm hm0 hout hsz hd hub hpre => ?_
        have h4 := hd ⟨4, .data⟩ (by simp) rfl _ rfl
        refine qe_run rfl (wanted_none rfl) (ex_move rfl h4) QE.refl ?_
        rfl
      · refine stepq_env rfl rfl rfl fun Z tr act w' hZ hm hm0 hout hsz hd hub hpre => ?_
        have h5 := hd ⟨5, .guard⟩ (by simp) rfl _ rfl
        refine qe_run rfl ((wanted_of rfl rfl (hsz 10 (by decide)) h5).trans rfl) (ex_move rfl ((hout 4 (by decide)).trans oe4)) QE.refl ?_
        rfl
      · refine stepq_env rfl rfl rfl fun Z tr act w' hZ hm hm0 hout hsz hd hub hpre => ?_
        have h5 := hd ⟨5, .guard⟩ (by simp) rfl _ rfl
        have h6 := hd ⟨6, .data⟩ (by simp) rfl _ rfl
        refine qe_run rfl ((wanted_of rfl rfl (hsz 10 (by decide)) h5).trans rfl) (ex_binE rfl h6 rfl (guard_ints _ _ _ _ _ _) (run_lss_i _ _ _ Try.underlying3) (congrArg Value.bool (decide_eq_true (by omega)))) QE.refl ?_
        rfl
      · refine stepq_env rfl rfl rfl fun Z tr act w' hZ hm hm0 hout hsz hd hub hpre => ?_
        have h5 := hd ⟨5, .data⟩ (by simp) rfl _ rfl
        have h7 := hd ⟨7, .data⟩ (by simp) rfl _ rfl
        refine qe_run rfl (wanted_none rfl) (ex_pick rfl h5 h7 rfl) QE.refl ?_
        rfl
      intro u3_0 hr
      have zu3_0 := hr.size
      have Hx2 := Lib.hid (HKL1_0.out.mod hr (by intro k h1 h2; (try dsimp only at h1 h2); (try simp only [false_or] at h1 h2); (first | omega | (have hb := HBT.out k h1; omega) | (have hb := HBT.out k h2; omega))))
      have Hx3 := Lib.hid (HKL1_1.out.mod hr (by intro h2; (try dsimp only at h2); (try simp only [false_or] at h2); omega))
      have Hx4 := Lib.hid (HKL1_2.out.mod hr (by intro h2; (try dsimp only at h2); (try simp only [false_or] at h2); omega))
      have Hx5 := Lib.hid (HML1.out.trans hr (by intro k h1 h2; (try dsimp only at h2 ⊢); (try simp only [false_or] at h2 ⊢); omega))
      have Hx6 := Lib.hid (HAL1.out.mod hr (by intro k h1 h2; (try dsimp only at h1 h2); (try simp only [false_or] at h1 h2); omega) (by intro k h1 h2; (try dsimp only at h1 h2); (try simp only [false_or] at h1 h2); rcases h1 with h1 | h1 <;> (first | omega | (have hb := HBT.out k h1; omega) | (have hb := HBT.out k h2; omega))))
      clear HKL1_0 HKL1_1 HKL1_2 HML1 HAL1
      clear hr
      refine QChain.nil fun vs hl hzz hrows hne => ?_
      obtain ⟨Z, hYZ, hZb, hV⟩ := hzz
      obtain ⟨v0, vs0, rfl, hl0⟩ := list_cons hl
      obtain ⟨v1, vs1, rfl, hl1⟩ := list_cons hl0
      obtain ⟨v2, vs2, rfl, hl2⟩ := list_cons hl1
      obtain ⟨v3, vs3, rfl, hl3⟩ := list_cons hl2
      obtain ⟨v4, vs4, rfl, hl4⟩ := list_cons hl3
      obtain ⟨v5, vs5, rfl, hl5⟩ := list_cons hl4
      obtain ⟨v6, vs6, rfl, hl6⟩ := list_cons hl5
      obtain ⟨v7, vs7, rfl, hl7⟩ := list_cons hl6
      obtain ⟨v8, vs8, rfl, hl8⟩ := list_cons hl7
      obtain rfl := list_nil hl8
      clear hl hl0 hl1 hl2 hl3 hl4 hl5 hl6 hl7 hl8
      obtain rfl : v0 = .int .i64 ((k1 : Nat) : Int) := hV 0 _ rfl
      obtain rfl : v3 = .int .i64 x.l.length := hV 3 _ rfl
      obtain rfl : v5 = .bool true := hV 5 _ rfl
      obtain rfl : v6 = .int .i64 ((k1 : Nat) : Int) := hV 6 _ rfl
      obtain rfl : v8 = .bool true := hV 8 _ rfl
      have ha0 := HA0.out
      subst ha0
      clear HA0 hV hYZ hZb hsz0 hrows hne oe1 oe4
      simp only [putAll, Act.put, List.setIfInBounds_toArray, List.set_cons_zero, List.set_cons_succ]
      have hat := Hx2.out.at hlt1
      obtain ⟨g1, o1, cs1, eao, hrg, hrd, hcs⟩ := hat
      subst eao
      have hcl : cs1.length = 38 := CeR.len hrd
      have HCL1 := Lib.hid hcl
      have HAT1 := Lib.hid (show CellsAt R2 u3_0 g1 (o1 + k1 * 38) cs1 from ⟨hrg, hcs⟩)
      have HRD1 := Lib.hid hrd
      have HOC1 := Lib.hid (CeR.one hrd)
      clear hcl hcs hrd hrg
      have HE1 : Hid (((x.l.take k1).map cutCe) ++ [cutCe x.l[k1]] = (x.l.take (k1 + 1)).map cutCe) := Lib.hid (by rw [List.take_succ_eq_append_getElem hlt1, List.map_append]; rfl)
      have HLN1 : Hid (((x.l.take k1).map cutCe).length = k1) := Lib.hid (by rw [List.length_map, List.length_take]; omega)
      go_upto_region 5 with (fail)
      generalize ha0 : Act.mk _ _ = a0
      have oe1 : a0.eval (.tmp 1) = .pointer (some ⟨w.heap.size, 0, none⟩) := by rw [← ha0]; rfl
      have oe3 : a0.eval (.tmp 3) = .slice aol1 ((x.l.take k1).map cutCe).length capl1 := by rw [← ha0]; rfl
      have oe4 : a0.eval (.tmp 4) = .int .i64 ((k1 : Nat) : Int) := by rw [← ha0]; rfl
      have hsz0 : a0.tmps.size = 28 := by rw [← ha0]; rfl
      have HA0 := Lib.hid ha0
      clear ha0
      refine wp_region_Q 28 hsz0 (by kernel_rfl) (by kernel_rfl) [16, 17, 18, 19, 20, 21, 22, 23, 24, 3] (by kernel_rfl) (by decide) (fun k => (w1.heap.size ≤ k ∧ k < wl1.heap.size)) (fun k j => (k = 2 ∧ ((w1.heap.size ≤ j ∧ j < wl1.heap.size)))) (by intro k j h; (try dsimp only at h ⊢); omega) [qi (.slice aol1 ((x.l.take k1).map cutCe).length capl1), qi (.pointer (some ⟨w.heap.size, 3, none⟩)), qi (.slice (some ⟨g1, o1, none⟩) x.l.length cap), qi (.int .i64 ((k1 : Nat) : Int)), qi (.pointer (some ⟨g1, o1 + k1 * 38, none⟩)), qi (.agg cs1.toArray), qv 0, qv 1, qv 2, qv 2] ⟨qi_stable, qi_stable, qi_stable, qi_stable, qi_stable, qi_stable, qv_stable, qv_stable, qv_stable, qv_stable, trivial⟩ [6, 7, 8] (by kernel_rfl) (by decide) (by kernel_rfl) [] (by kernel_rfl) (by intro r hr; cases hr) (by intro r hr; cases hr) (by intro r hr; cases hr) ⟨?_, ?_, ?_, ?_, ?_, ?_, ?_, ?_, ?_, ?_, trivial⟩ ?_
      · refine stepq_env rfl rfl rfl fun Z tr act w' hZ hm hm0 hout hsz hd hub hpre => ?_
        refine qe_run rfl (wanted_none rfl) (ex_move rfl ((hpre 9 3 rfl (by kernel_rfl)).trans oe3)) QE.refl ?_
        rfl
      · refine stepq_env rfl rfl rfl fun Z tr act w' hZ hm hm0 hout hsz hd hub hpre => ?_
        refine qe_run rfl (wanted_none rfl) (ex_field rfl Try.underlying55 rfl (by kernel_rfl) ((hout 1 (by decide)).trans oe1)) QE.refl ?_
        rfl
      · refine stepq_env rfl rfl rfl fun Z tr act w' hZ hm hm0 hout hsz hd hub hpre => ?_
        have h1 := hd ⟨1, .data⟩ (by simp) rfl _ rfl
        refine qe_run rfl (wanted_none rfl) (ex_load1 rfl Try.underlying53 rfl h1 (Cs.lit1 (Hx3.out.mod hm (by intro h2; (try dsimp only at h2); (try simp only [false_or] at h2); omega)) rfl)) QE.refl ?_
        rfl
      · refine stepq_env rfl rfl rfl fun Z tr act w' hZ hm hm0 hout hsz hd hub hpre => ?_
        refine qe_run rfl (wanted_none rfl) (ex_move rfl ((hout 4 (by decide)).trans oe4)) QE.refl ?_
        rfl
      · refine stepq_env rfl rfl rfl fun Z tr act w' hZ hm hm0 hout hsz hd hub hpre => ?_
        have h2 := hd ⟨2, .data⟩ (by simp) rfl _ rfl
        have h3 := hd ⟨3, .data⟩ (by simp) rfl _ rfl
        refine qe_run rfl (wanted_none rfl) (ex_idxS (i := k1) (s := 38) rfl Try.underlying53 (by kernel_rfl) h2 h3 hlt1) QE.refl ?_
        rfl
      · refine stepq_env rfl rfl rfl fun Z tr act w' hZ hm hm0 hout hsz hd hub hpre => ?_
        have h4 := hd ⟨4, .data⟩ (by simp) rfl _ rfl
        refine qe_run rfl (wanted_none rfl) (ex_loadA rfl Try.underlying52 rfl (off := o1 + k1 * 38) (cs := cs1) (by rw [HCL1.out]; kernel_rfl) h4 (fun j u hu => ((HAT1.out.mod hm (by intro k h1 h2; (try dsimp only at h1 h2); (try simp only [false_or] at h1 h2); rcases h2 with ⟨h0, h2⟩ | h2 <;> (first | omega | (have hb := HBT.out k h1; omega) | (have hb := HBT.out k h2; omega))))).2 j u hu)) QE.refl ?_
        rfl
      · exact stepq_chain rfl
      · exact stepq_chain rfl
      · exact stepq_chain rfl
      · refine stepq_env rfl rfl rfl fun Z tr act w' hZ hm hm0 hout hsz hd hub hpre => ?_
        have h8 := hd ⟨8, .data⟩ (by simp) rfl _ rfl
        exact qe_run rfl (wanted_none rfl) (ex_assign rfl rfl) QE.refl h8
      intro u5_0 hr
      have zu5_0 := hr.size
      have Hx7 := Lib.hid (Hx2.out.mod hr (by intro k h1 h2; (try dsimp only at h1 h2); (try simp only [false_or] at h1 h2); (first | omega | (have hb := HBT.out k h1; omega) | (have hb := HBT.out k h2; omega))))
      have Hx8 := Lib.hid (Hx3.out.mod hr (by intro h2; (try dsimp only at h2); (try simp only [false_or] at h2); omega))
      have Hx9 := Lib.hid (Hx4.out.mod hr (by intro h2; (try dsimp only at h2); (try simp only [false_or] at h2); omega))
      have Hx10 := Lib.hid (Hx5.out.trans hr (by intro k h1 h2; (try dsimp only at h2 ⊢); (try simp only [false_or] at h2 ⊢); omega))
      have Hx11 := Lib.hid (Hx6.out.mod hr (by intro k h1 h2; (try dsimp only at h1 h2); (try simp only [false_or] at h1 h2); omega) (by intro k h1 h2; (try dsimp only at h1 h2); (try simp only [false_or] at h1 h2); rcases h1 with h1 | h1 <;> (first | omega | (have hb := HBT.out k h1; omega) | (have hb := HBT.out k h2; omega))))
      have Hx12 := Lib.hid (HAT1.out.mod hr (by intro k h1 h2; (try dsimp only at h1 h2); (try simp only [false_or] at h1 h2); (first | omega | (have hb := HBT.out k h1; omega) | (have hb := HBT.out k h2; omega))))
      have Hx13 := Lib.hid (HRD1.out.mod hr (by intro k h1 h2; (try dsimp only at h1 h2); (try simp only [false_or] at h1 h2); (first | omega | (have hb := HBT.out k h1; omega) | (have hb := HBT.out k h2; omega))))
      clear Hx2 Hx3 Hx4 Hx5 Hx6 HAT1 HRD1
      clear hr
      refine QChain.cons rfl fun Z act hYZ hZ hout hsz hd hpre => ?_
      have h5 := hd ⟨5, .data⟩ (by simp) rfl _ rfl
      have ea21 : act.eval (.tmp 21) = .agg cs1.toArray := h5
      refine qc_call (args := #[.agg cs1.toArray]) rfl (wanted_none rfl) (by rw [ex_callF rfl Try.func21 (by kernel_rfl) (by kernel_rfl)]; exact congrArg (fun z => Result.ok (Next.enter _ z) _) (by simp only [List.map_toArray, List.map_cons, List.map_nil, ea21]; try rfl)) (LCert_c _ _ _ _ Hx13.out (by intro k h1; (try dsimp only at h1); (first | omega | (have hb := HBT.out k h1; omega)))) ?_
      rintro e u5_1a ⟨cs', rfl, qel, hm⟩
      have zu5_1a := hm.size
      refine ⟨_, rfl, hm.mono (fun _ _ h => h.elim), (fun _ => rfl), ?_⟩
      intro u5_1 hr
      have zu5_1 := hr.size
      have Hx14 := Lib.hid ((qel.widen (R' := (fun k => (R2 k) ∨ (u5_0.heap.size ≤ k ∧ k < u5_1a.heap.size))) (by intro k h1; (try unfold New at h1); (try dsimp only at h1 ⊢); (try simp only [false_or] at h1 ⊢); first | exact h1 | (simp only [or_assoc] at h1 ⊢; first | exact h1 | (rcases h1 with h1 | h1 <;> first | (left; exact h1) | (right; omega) | omega)))).mod hr (by intro k h1 h2; (try dsimp only at h1 h2); (try simp only [false_or] at h1 h2); rcases h1 with h1 | h1 <;> (first | omega | (have hb := HBT.out k h1; omega) | (have hb := HBT.out k h2; omega))))
      have hmr := Mod.after hm hr
      have Hx15 := Lib.hid (Hx7.out.mod hmr (by intro k h1 h2; (try dsimp only at h1 h2); (try simp only [false_or] at h1 h2); (first | omega | (have hb := HBT.out k h1; omega) | (have hb := HBT.out k h2; omega))))
      have Hx16 := Lib.hid (Hx8.out.mod hmr (by intro h2; (try dsimp only at h2); (try simp only [false_or] at h2); omega))
      have Hx17 := Lib.hid (Hx9.out.mod hmr (by intro h2; (try dsimp only at h2); (try simp only [false_or] at h2); omega))
      have Hx18 := Lib.hid (Hx10.out.trans hmr (by intro k h1 h2; (try dsimp only at h2 ⊢); (try simp only [false_or] at h2 ⊢); omega))
      have Hx19 := Lib.hid (Hx11.out.mod hmr (by intro k h1 h2; (try dsimp only at h1 h2); (try simp only [false_or] at h1 h2); omega) (by intro k h1 h2; (try dsimp only at h1 h2); (try simp only [false_or] at h1 h2); rcases h1 with h1 | h1 <;> (first | omega | (have hb := HBT.out k h1; omega) | (have hb := HBT.out k h2; omega))))
      have Hx20 := Lib.hid (Hx12.out.mod hmr (by intro k h1 h2; (try dsimp only at h1 h2); (try simp only [false_or] at h1 h2); (first | omega | (have hb := HBT.out k h1; omega) | (have hb := HBT.out k h2; omega))))
      clear Hx7 Hx8 Hx9 Hx10 Hx11 Hx12
      clear hmr
      clear hm hr hYZ hZ hout hsz hd hpre qel Hx13 ea21 h5
      refine QChain.cons rfl fun Z act hYZ hZ hout hsz hd hpre => ?_
      have h6 := hd ⟨6, .data⟩ (by simp) rfl _ rfl
      refine qc_buildS (e := 52) (cs := cs') (zc := [.int .i64 0, .int .i64 0, .int .u8 0, .int .u8 0, .int .u8 0, .int .u8 0, .int .u8 0, .int .u8 0, .int .u8 0, .int .u8 0, .int .u8 0, .int .u8 0, .int .u8 0, .int .u8 0, .int .u8 0, .int .u8 0, .int .u8 0, .int .u8 0, .int .u8 0, .int .u8 0, .int .u8 0, .int .u8 0, .int .u8 0, .int .u8 0, .int .u8 0, .int .u8 0, .int .u8 0, .int .u8 0, .int .u8 0, .int .u8 0, .int .u8 0, .int .u8 0, .int .u8 0, .int .u8 0, .int .i64 0, .int .i64 0, .int .i64 0, .slice none 0 0]) (sz := 38) rfl (wanted_none rfl) rfl Try.underlying53 (by kernel_rfl) rfl (by decide) (by decide) (Option.some.inj (show some (.agg cs'.toArray : Value) = some (act.eval (.tmp 22)) from h6)).symm (CeR.len Hx14.out) ?_
      intro u5_2a qrow hm
      have zl5_7 := qrow.lt
      have zu5_2a := hm.size
      refine ⟨hm.mono (fun _ _ h => h.elim), (fun _ => rfl), ?_⟩
      intro u5_2 hr
      have zu5_2 := hr.size
      have Hx21 := Lib.hid (qrow.mod hr (by intro h2; (try dsimp only at h2); (try simp only [false_or] at h2); omega))
      have hmr := Mod.after hm hr
      have Hx22 := Lib.hid (Hx15.out.mod hmr (by intro k h1 h2; (try dsimp only at h1 h2); (try simp only [false_or] at h1 h2); (first | omega | (have hb := HBT.out k h1; omega) | (have hb := HBT.out k h2; omega))))
      have Hx23 := Lib.hid (Hx16.out.mod hmr (by intro h2; (try dsimp only at h2); (try simp only [false_or] at h2); omega))
      have Hx24 := Lib.hid (Hx17.out.mod hmr (by intro h2; (try dsimp only at h2); (try simp only [false_or] at h2); omega))
      have Hx25 := Lib.hid (Hx18.out.trans hmr (by intro k h1 h2; (try dsimp only at h2 ⊢); (try simp only [false_or] at h2 ⊢); omega))
      have Hx26 := Lib.hid (Hx19.out.mod hmr (by intro k h1 h2; (try dsimp only at h1 h2); (try simp only [false_or] at h1 h2); omega) (by intro k h1 h2; (try dsimp only at h1 h2); (try simp only [false_or] at h1 h2); rcases h1 with h1 | h1 <;> (first | omega | (have hb := HBT.out k h1; omega) | (have hb := HBT.out k h2; omega))))
      have Hx27 := Lib.hid (Hx20.out.mod hmr (by intro k h1 h2; (try dsimp only at h1 h2); (try simp only [false_or] at h1 h2); (first | omega | (have hb := HBT.out k h1; omega) | (have hb := HBT.out k h2; omega))))
      have Hx28 := Lib.hid (Hx14.out.mod hmr (by intro k h1 h2; (try dsimp only at h1 h2); (try simp only [false_or] at h1 h2); rcases h1 with h1 | h1 <;> (first | omega | (have hb := HBT.out k h1; omega) | (have hb := HBT.out k h2; omega))))
      clear Hx15 Hx16 Hx17 Hx18 Hx19 Hx20 Hx14
      clear hmr
      clear hm hr hYZ hZ hout hsz hd hpre qrow h6
      refine QChain.cons rfl fun Z act hYZ hZ hout hsz hd hpre => ?_
      have h0 := hd ⟨0, .data⟩ (by simp) rfl _ rfl
      have h7 := hd ⟨7, .data⟩ (by simp) rfl _ rfl
      refine qc_appS (A := CeR) (e := 52) rfl (wanted_none rfl) rfl (.agg #[.int .i64 0, .int .i64 0, .int .u8 0, .int .u8 0, .int .u8 0, .int .u8 0, .int .u8 0, .int .u8 0, .int .u8 0, .int .u8 0, .int .u8 0, .int .u8 0, .int .u8 0, .int .u8 0, .int .u8 0, .int .u8 0, .int .u8 0, .int .u8 0, .int .u8 0, .int .u8 0, .int .u8 0, .int .u8 0, .int .u8 0, .int .u8 0, .int .u8 0, .int .u8 0, .int .u8 0, .int .u8 0, .int .u8 0, .int .u8 0, .int .u8 0, .int .u8 0, .int .u8 0, .int .u8 0, .int .i64 0, .int .i64 0, .int .i64 0, .slice none 0 0]) 96 Try.underlying53 info_Ce (by rfl) (of_decide_eq_true (by kernel_rfl)) h0 (Option.some.inj (show some (.slice (some ⟨u5_1.heap.size, 0, none⟩) 1 1 : Value) = some (act.eval (.tmp 23)) from h7)).symm (Hx26.out) (RdS.single (R := (fun k => (R2 k) ∨ (u5_0.heap.size ≤ k ∧ k < u5_1a.heap.size) ∨ (k = u5_1.heap.size))) Hx21.out (Hx28.out.widen (by intro k h1; (try dsimp only at h1 ⊢); rcases h1 with h1 | h1 <;> first | omega | exact h1.elim | exact Or.inl h1 | exact Or.inr (Or.inl h1) | exact Or.inr (Or.inr (h1)))) (by first | exact Or.inr rfl | exact Or.inr (Or.inr rfl) | (right; omega))) (by intro k h1 h2; (try dsimp only at h1 h2); (try simp only [false_or] at h1 h2); rcases h1 with h1 | h1 | h1 <;> (first | omega | (have hb := HBT.out k h1; omega) | (have hb := HBT.out k h2; omega))) (by rw [HLN1.out]; simp only [List.length_cons, List.length_nil]; omega) (by rw [HLN1.out, maxLen_val]; simp only [List.length_cons, List.length_nil]; omega) ?_
      intro ao8 cap8 u5_3a qacc hm
      have zu5_3a := hm.size
      refine ⟨hm.mono (by intro k hk h; (try dsimp only at h ⊢); (try simp only [false_or, or_false, true_and] at h ⊢); omega), (fun _ => rfl), ?_⟩
      intro u5_3 hr
      have zu5_3 := hr.size
      have Hx29 := Lib.hid ((qacc.widen (R' := (fun k => (w1.heap.size ≤ k ∧ k < wl1.heap.size) ∨ (u5_2.heap.size ≤ k ∧ k < u5_3a.heap.size))) (E' := (fun k => (R2 k) ∨ (w1.heap.size ≤ k ∧ k < wl1.heap.size) ∨ (u5_0.heap.size ≤ k ∧ k < u5_1a.heap.size) ∨ (k = u5_1.heap.size))) (by intro k h1; (try unfold New at h1); (try dsimp only at h1 ⊢); (try simp only [false_or] at h1 ⊢); omega) (by intro k h1; (try dsimp only at h1 ⊢); rcases h1 with (h1 | h1) | (h1 | h1 | h1) <;> first | omega | exact h1.elim | exact Or.inl h1 | exact Or.inr (Or.inl h1) | exact Or.inr (Or.inr (Or.inl h1)) | exact Or.inr (Or.inr (Or.inr (h1))))).mod hr (by intro k h1 h2; (try dsimp only at h1 h2); (try simp only [false_or] at h1 h2); omega) (by intro k h1 h2; (try dsimp only at h1 h2); (try simp only [false_or] at h1 h2); rcases h1 with h1 | h1 | h1 | h1 <;> (first | omega | (have hb := HBT.out k h1; omega) | (have hb := HBT.out k h2; omega))))
      have hmr := hm.two hr
      have Hx30 := Lib.hid (Hx22.out.mod hmr (by intro k h1 h2; (try dsimp only at h1 h2); (try simp only [false_or] at h1 h2); rcases h2 with h2 | h2 <;> (first | omega | (have hb := HBT.out k h1; omega) | (have hb := HBT.out k h2; omega))))
      have Hx31 := Lib.hid (Hx23.out.mod hmr (by intro h2; (try dsimp only at h2); (try simp only [false_or] at h2); omega))
      have Hx32 := Lib.hid (Hx24.out.mod hmr (by intro h2; (try dsimp only at h2); (try simp only [false_or] at h2); omega))
      have Hx33 := Lib.hid (Hx25.out.trans hmr (by intro k h1 h2; (try dsimp only at h2 ⊢); (try simp only [false_or] at h2 ⊢); omega))
      have Hx34 := Lib.hid (Hx27.out.mod hmr (by intro k h1 h2; (try dsimp only at h1 h2); (try simp only [false_or] at h1 h2); rcases h2 with h2 | h2 <;> (first | omega | (have hb := HBT.out k h1; omega) | (have hb := HBT.out k h2; omega))))
      have Hx35 := Lib.hid (Hx28.out.mod hmr (by intro k h1 h2; (try dsimp only at h1 h2); (try simp only [false_or] at h1 h2); rcases h1 with h1 | h1 <;> rcases h2 with h2 | h2 <;> (first | omega | (have hb := HBT.out k h1; omega) | (have hb := HBT.out k h2; omega))))
      have Hx36 := Lib.hid (Hx21.out.mod hmr (by intro h2; (try dsimp only at h2); (try simp only [false_or] at h2); omega))
      clear Hx22 Hx23 Hx24 Hx25 Hx27 Hx28 Hx21
      clear hmr
      clear hm hr hYZ hZ hout hsz hd hpre qacc Hx26 h0 h7
      refine QChain.nil fun vs hl hzz hrows hne => ?_
      obtain ⟨Z, hYZ, hZb, hV⟩ := hzz
      obtain ⟨v0, vs0, rfl, hl0⟩ := list_cons hl
      obtain ⟨v1, vs1, rfl, hl1⟩ := list_cons hl0
      obtain ⟨v2, vs2, rfl, hl2⟩ := list_cons hl1
      obtain ⟨v3, vs3, rfl, hl3⟩ := list_cons hl2
      obtain ⟨v4, vs4, rfl, hl4⟩ := list_cons hl3
      obtain ⟨v5, vs5, rfl, hl5⟩ := list_cons hl4
      obtain ⟨v6, vs6, rfl, hl6⟩ := list_cons hl5
      obtain ⟨v7, vs7, rfl, hl7⟩ := list_cons hl6
      obtain ⟨v8, vs8, rfl, hl8⟩ := list_cons hl7
      obtain ⟨v9, vs9, rfl, hl9⟩ := list_cons hl8
      obtain rfl := list_nil hl9
      clear hl hl0 hl1 hl2 hl3 hl4 hl5 hl6 hl7 hl8 hl9
      obtain rfl : v0 = .slice aol1 ((x.l.take k1).map cutCe).length capl1 := hV 0 _ rfl
      obtain rfl : v3 = .int .i64 ((k1 : Nat) : Int) := hV 3 _ rfl
      have e6 := Option.some.inj (show some (.agg cs'.toArray) = some v6 from hV 6 _ rfl)
      subst e6
      have e7 := Option.some.inj (show some (.slice (some ⟨u5_1.heap.size, 0, none⟩) 1 1) = some v7 from hV 7 _ rfl)
      subst e7
      have e8 := Option.some.inj (show some (.slice ao8 (((x.l.take k1).map cutCe).length + 1) cap8) = some v8 from hV 8 _ rfl)
      subst e8
      have e9 := Option.some.inj (show some (.slice ao8 (((x.l.take k1).map cutCe).length + 1) cap8) = some v9 from hV 9 _ rfl)
      subst e9
      have ha0 := HA0.out
      subst ha0
      clear HA0 hV hYZ hZb hsz0 hrows hne oe1 oe3 oe4
      simp only [putAll, Act.put, List.setIfInBounds_toArray, List.set_cons_zero, List.set_cons_succ]
      have hq := Hx29.out
      rw [HE1.out] at hq
      have HQ1 := Lib.hid hq
      clear hq
      go_wp2
      go_roundw
      case rel => exact ⟨k1 + 1, by go_num, by omega, by omega, by omega, (HQ1.out.widen (by intro b h1; (try dsimp only at h1 ⊢); omega) (by intro k h1; (try dsimp only at h1 ⊢); rcases h1 with h1 | h1 | h1 | h1 <;> first | omega | exact h1.elim | exact Or.inl h1 | exact Or.inr (h1))), Hx30.out, Hx31.out, Hx32.out, Hx33.out⟩
      case measure => simp [intOf]; omega
    · skip
      obtain ⟨bA1, hbA1⟩ : ∃ b : Bool, b = decide (((k1 : Nat) : Int) < (x.l.length : Int)) := ⟨_, rfl⟩
      obtain ⟨bB1, hbB1⟩ : ∃ b : Bool, b = decide (((k1 : Nat) : Int) < 3) := ⟨_, rfl⟩
      go_upto_region 3 with (fail)
      generalize ha0 : Act.mk _ _ = a0
      have oe1 : a0.eval (.tmp 1) = .pointer (some ⟨w.heap.size, 0, none⟩) := by rw [← ha0]; rfl
      have oe4 : a0.eval (.tmp 4) = .int .i64 ((k1 : Nat) : Int) := by rw [← ha0]; rfl
      have hsz0 : a0.tmps.size = 28 := by rw [← ha0]; rfl
      have HA0 := Lib.hid ha0
      clear ha0
      refine wp_region_Q 28 hsz0 (by kernel_rfl) (by kernel_rfl) [5, 6, 7, 8, 9, 10, 11, 12, 13] (by kernel_rfl) (by decide) (fun _ => False) (fun _ _ => False) (fun _ _ h => h) [qi (.int .i64 ((k1 : Nat) : Int)), qi (.pointer (some ⟨w.heap.size, 3, none⟩)), qi (.slice ao x.l.length cap), qi (.int .i64 x.l.length), qi (.bool bA1), qi (.bool bA1), qc bA1 (qi (.int .i64 ((k1 : Nat) : Int))), qc bA1 (qi (.bool bB1)), qi (.bool (bA1 && bB1))] ⟨qi_stable, qi_stable, qi_stable, qi_stable, qi_stable, qi_stable, (qc_stable qi_stable), (qc_stable qi_stable), qi_stable, trivial⟩ [] (by kernel_rfl) (by decide) (by kernel_rfl) [] (by kernel_rfl) (by intro r hr; cases hr) (by intro r hr; cases hr) (by intro r hr; cases hr) ⟨?_, ?_, ?_, ?_, ?_, ?_, ?_, ?_, ?_, trivial⟩ ?_
      · refine stepq_env rfl rfl rfl fun Z tr act w' hZ hm hm0 hout hsz hd hub hpre => ?_
        refine qe_run rfl (wanted_none rfl) (ex_move rfl ((hout 4 (by decide)).trans oe4)) QE.refl ?_
        rfl
      · refine stepq_env rfl rfl rfl fun Z tr act w' hZ hm hm0 hout hsz hd hub hpre => ?_
        refine qe_run rfl (wanted_none rfl) (ex_field rfl Try.underlying55 rfl (by kernel_rfl) ((hout 1 (by decide)).trans oe1)) QE.refl ?_
        rfl
      · refine stepq_env rfl rfl rfl fun Z tr act w' hZ hm hm0 hout hsz hd hub hpre => ?_
        have h1 := hd ⟨1, .data⟩ (by simp) rfl _ rfl
        refine qe_run rfl (wanted_none rfl) (ex_load1 rfl Try.underlying53 rfl h1 (Cs.lit1 (HKL1_1.out.mod (Mod.mono (S' := fun k => wl1.heap.size ≤ k) hm (fun _ _ h => h.elim (fun h => h.2.elim) (fun h => h))) (by intro h2; (try dsimp only at h2); (try simp only [false_or] at h2); omega)) rfl)) QE.refl ?_
        rfl
      · refine stepq_env rfl rfl rfl fun Z tr act w' hZ hm hm0 hout hsz hd hub hpre => ?_
        have h2 := hd ⟨2, .data⟩ (by simp) rfl _ rfl
        refine qe_run rfl (wanted_none rfl) (ex_lenS rfl h2 Try.underlying53) QE.refl ?_
        rfl
      · refine stepq_env rfl rfl rfl fun Z tr act w' hZ hm hm0 hout hsz hd hub hpre => ?_
        have h0 := hd ⟨0, .data⟩ (by simp) rfl _ rfl
        have h3 := hd ⟨3, .data⟩ (by simp) rfl _ rfl
        refine qe_run rfl (wanted_none rfl) (ex_binE rfl h0 h3 (guard_ints _ _ _ _ _ _) (run_lss_i _ _ _ Try.underlying3) (congrArg Value.bool hbA1.symm)) QE.refl ?_
        rfl
      · refine stepq_env rfl rfl rfl fun Z tr act w' hZ hm hm0 hout hsz hd hub hpre => ?_
        have h4 := hd ⟨4, .data⟩ (by simp) rfl _ rfl
        refine qe_run rfl (wanted_none rfl) (ex_move rfl h4) QE.refl ?_
        rfl
      · refine stepq_env rfl rfl rfl fun Z tr act w' hZ hm hm0 hout hsz hd hub hpre => ?_
        have h5 := hd ⟨5, .guard⟩ (by simp) rfl _ rfl
        refine qe_guard rfl (b := bA1) ((wanted_of rfl rfl (hsz 10 (by decide)) h5).trans (by simp)) rfl (fun hb l' hl' => ?_)
        refine qe_run rfl ((wanted_of rfl rfl (hsz 10 (by decide)) h5).trans (by first | exact hb | simpa using hb)) (ex_move rfl ((hout 4 (by decide)).trans oe4)) QE.refl ?_
        rw [hl']; rfl
      · refine stepq_env rfl rfl rfl fun Z tr act w' hZ hm hm0 hout hsz hd hub hpre => ?_
        have h5 := hd ⟨5, .guard⟩ (by simp) rfl _ rfl
        have h6 := hd ⟨6, .data⟩ (by simp) rfl _ rfl
        refine qe_guard rfl (b := bA1) ((wanted_of rfl rfl (hsz 10 (by decide)) h5).trans (by simp)) rfl (fun hb l' hl' => ?_)
        refine qe_run rfl ((wanted_of rfl rfl (hsz 10 (by decide)) h5).trans (by first | exact hb | simpa using hb)) (ex_binE rfl (h6.1 hb) rfl (guard_ints _ _ _ _ _ _) (run_lss_i _ _ _ Try.underlying3) (congrArg Value.bool hbB1.symm)) QE.refl ?_
        rw [hl']; rfl
      · refine stepq_env rfl rfl rfl fun Z tr act w' hZ hm hm0 hout hsz hd hub hpre => ?_
        have h5 := hd ⟨5, .data⟩ (by simp) rfl _ rfl
        have h7 := hd ⟨7, .data⟩ (by simp) rfl _ rfl
        refine qe_run rfl (wanted_none rfl) (ex_pickE rfl h5 rfl rfl (and_val fun hb => h7.1 hb)) QE.refl ?_
        rfl
      intro u3_0 hr
      have zu3_0 := hr.size
      have Hx37 := Lib.hid (HKL1_0.out.mod hr (by intro k h1 h2; (try dsimp only at h1 h2); (try simp only [false_or] at h1 h2); (first | omega | (have hb := HBT.out k h1; omega) | (have hb := HBT.out k h2; omega))))
      have Hx38 := Lib.hid (HKL1_1.out.mod hr (by intro h2; (try dsimp only at h2); (try simp only [false_or] at h2); omega))
      have Hx39 := Lib.hid (HKL1_2.out.mod hr (by intro h2; (try dsimp only at h2); (try simp only [false_or] at h2); omega))
      have Hx40 := Lib.hid (HML1.out.trans hr (by intro k h1 h2; (try dsimp only at h2 ⊢); (try simp only [false_or] at h2 ⊢); omega))
      have Hx41 := Lib.hid (HAL1.out.mod hr (by intro k h1 h2; (try dsimp only at h1 h2); (try simp only [false_or] at h1 h2); omega) (by intro k h1 h2; (try dsimp only at h1 h2); (try simp only [false_or] at h1 h2); rcases h1 with h1 | h1 <;> (first | omega | (have hb := HBT.out k h1; omega) | (have hb := HBT.out k h2; omega))))
      clear HKL1_0 HKL1_1 HKL1_2 HML1 HAL1
      clear hr
      refine QChain.nil fun vs hl hzz hrows hne => ?_
      obtain ⟨Z, hYZ, hZb, hV⟩ := hzz
      obtain ⟨v0, vs0, rfl, hl0⟩ := list_cons hl
      obtain ⟨v1, vs1, rfl, hl1⟩ := list_cons hl0
      obtain ⟨v2, vs2, rfl, hl2⟩ := list_cons hl1
      obtain ⟨v3, vs3, rfl, hl3⟩ := list_cons hl2
      obtain ⟨v4, vs4, rfl, hl4⟩ := list_cons hl3
      obtain ⟨v5, vs5, rfl, hl5⟩ := list_cons hl4
      obtain ⟨v6, vs6, rfl, hl6⟩ := list_cons hl5
      obtain ⟨v7, vs7, rfl, hl7⟩ := list_cons hl6
      obtain ⟨v8, vs8, rfl, hl8⟩ := list_cons hl7
      obtain rfl := list_nil hl8
      clear hl hl0 hl1 hl2 hl3 hl4 hl5 hl6 hl7 hl8
      obtain rfl : v0 = .int .i64 ((k1 : Nat) : Int) := hV 0 _ rfl
      obtain rfl : v3 = .int .i64 x.l.length := hV 3 _ rfl
      obtain rfl : v5 = .bool bA1 := hV 5 _ rfl
      obtain rfl : v8 = .bool (bA1 && bB1) := hV 8 _ rfl
      have ha0 := HA0.out
      subst ha0
      clear HA0 hV hYZ hZb hsz0 hrows hne oe1 oe4
      simp only [putAll, Act.put, List.setIfInBounds_toArray, List.set_cons_zero, List.set_cons_succ]
      rw [show (bA1 && bB1) = false by rw [hbA1, hbB1, Bool.and_eq_false_iff, decide_eq_false_iff_not, decide_eq_false_iff_not]; omega]
      have HTK1 := Lib.hid (show x.l.take k1 = x.l.take 3 from take_two (by omega) (by omega))
      go_upto_region 6 with (fail)
      generalize ha0 : Act.mk _ _ = a0
      have oe1 : a0.eval (.tmp 1) = .pointer (some ⟨w.heap.size, 0, none⟩) := by rw [← ha0]; rfl
      have oe3 : a0.eval (.tmp 3) = .slice aol1 ((x.l.take k1).map cutCe).length capl1 := by rw [← ha0]; rfl
      have hsz0 : a0.tmps.size = 28 := by rw [← ha0]; rfl
      have HA0 := Lib.hid ha0
      clear ha0
      refine wp_region_Q 28 hsz0 (by kernel_rfl) (by kernel_rfl) [25, 26, 30] (by kernel_rfl) (by decide) (fun k => (k = w.heap.size)) (fun k j => (k = 0 ∧ ((j = w.heap.size)))) (by intro k j h; (try dsimp only at h ⊢); omega) [qi (.slice aol1 ((x.l.take k1).map cutCe).length capl1), qi (.pointer (some ⟨w.heap.size, 3, none⟩)), qv 0] ⟨qi_stable, qi_stable, qv_stable, trivial⟩ [2] (by kernel_rfl) (by decide) (by kernel_rfl) [] (by kernel_rfl) (by intro r hr; cases hr) (by intro r hr; cases hr) (by intro r hr; cases hr) ⟨?_, ?_, ?_, trivial⟩ ?_
      · refine stepq_env rfl rfl rfl fun Z tr act w' hZ hm hm0 hout hsz hd hub hpre => ?_
        refine qe_run rfl (wanted_none rfl) (ex_move rfl ((hout 3 (by decide)).trans oe3)) QE.refl ?_
        rfl
      · refine stepq_env rfl rfl rfl fun Z tr act w' hZ hm hm0 hout hsz hd hub hpre => ?_
        refine qe_run rfl (wanted_none rfl) (ex_field rfl Try.underlying55 rfl (by kernel_rfl) ((hout 1 (by decide)).trans oe1)) QE.refl ?_
        rfl
      · exact stepq_chain rfl
      intro u6_0 hr
      have zu6_0 := hr.size
      have Hx42 := Lib.hid (Hx37.out.mod hr (by intro k h1 h2; (try dsimp only at h1 h2); (try simp only [false_or] at h1 h2); (first | omega | (have hb := HBT.out k h1; omega) | (have hb := HBT.out k h2; omega))))
      have Hx43 := Lib.hid (Hx38.out.mod hr (by intro h2; (try dsimp only at h2); (try simp only [false_or] at h2); omega))
      have Hx44 := Lib.hid (Hx39.out.mod hr (by intro h2; (try dsimp only at h2); (try simp only [false_or] at h2); omega))
      have Hx45 := Lib.hid (Hx40.out.trans hr (by intro k h1 h2; (try dsimp only at h2 ⊢); (try simp only [false_or] at h2 ⊢); omega))
      have Hx46 := Lib.hid (Hx41.out.mod hr (by intro k h1 h2; (try dsimp only at h1 h2); (try simp only [false_or] at h1 h2); omega) (by intro k h1 h2; (try dsimp only at h1 h2); (try simp only [false_or] at h1 h2); rcases h1 with h1 | h1 <;> (first | omega | (have hb := HBT.out k h1; omega) | (have hb := HBT.out k h2; omega))))
      clear Hx37 Hx38 Hx39 Hx40 Hx41
      clear hr
      refine QChain.cons rfl fun Z act hYZ hZ hout hsz hd hpre => ?_
      have h0 := hd ⟨0, .data⟩ (by simp) rfl _ rfl
      have h1 := hd ⟨1, .data⟩ (by simp) rfl _ rfl
      refine qc_store rfl (wanted_none rfl) rfl Hx43.out (off := 3) (vs := [Value.slice aol1 ((x.l.take k1).map cutCe).length capl1]) (by kernel_rfl) (by intro u hu; simp at hu; subst hu; rfl) (by simp) h1 (by rw [show act.eval ((.tmp 25)) = _ from h0]; rfl) ?_
      intro u6_1a qc0 hm
      have qB1 : Cs u6_1a (w.heap.size) #[.int .i64 x.rp, .int .i64 x.ep, .int .u64 (x.fl : Nat), Value.slice aol1 ((x.l.take k1).map cutCe).length capl1, .int .i64 x.sb, .int .i64 x.mr] 55 := by rw [show lay _ 3 _ = #[.int .i64 x.rp, .int .i64 x.ep, .int .u64 (x.fl : Nat), Value.slice aol1 ((x.l.take k1).map cutCe).length capl1, .int .i64 x.sb, .int .i64 x.mr] from rfl] at qc0; exact qc0
      clear qc0
      have zu6_1a := hm.size
      refine ⟨hm.mono (by intro k hk h; (try dsimp only at h ⊢); (try simp only [false_or, or_false, true_and] at h ⊢); omega), (fun _ => rfl), ?_⟩
      intro u6_1 hr
      have zu6_1 := hr.size
      have Hx47 := Lib.hid (qB1.mod hr (by intro h2; (try dsimp only at h2); (try simp only [false_or] at h2); omega))
      have hmr := hm.two hr
      have Hx48 := Lib.hid (Hx42.out.mod hmr (by intro k h1 h2; (try dsimp only at h1 h2); (try simp only [false_or] at h1 h2); rcases h2 with h2 | h2 <;> (first | omega | (have hb := HBT.out k h1; omega) | (have hb := HBT.out k h2; omega))))
      have Hx49 := Lib.hid (Hx44.out.mod hmr (by intro h2; (try dsimp only at h2); (try simp only [false_or] at h2); omega))
      have Hx50 := Lib.hid (Hx45.out.trans hmr (by intro k h1 h2; (try dsimp only at h2 ⊢); (try simp only [false_or] at h2 ⊢); omega))
      have Hx51 := Lib.hid (Hx46.out.mod hmr (by intro k h1 h2; (try dsimp only at h1 h2); (try simp only [false_or] at h1 h2); omega) (by intro k h1 h2; (try dsimp only at h1 h2); (try simp only [false_or] at h1 h2); rcases h1 with h1 | h1 <;> rcases h2 with h2 | h2 <;> (first | omega | (have hb := HBT.out k h1; omega) | (have hb := HBT.out k h2; omega))))
      clear Hx42 Hx44 Hx45 Hx46
      clear hmr
      clear hm hr hYZ hZ hout hsz hd hpre qB1 Hx43 h0 h1
      refine QChain.nil fun vs hl hzz hrows hne => ?_
      obtain ⟨Z, hYZ, hZb, hV⟩ := hzz
      obtain ⟨v0, vs0, rfl, hl0⟩ := list_cons hl
      obtain ⟨v1, vs1, rfl, hl1⟩ := list_cons hl0
      obtain ⟨v2, vs2, rfl, hl2⟩ := list_cons hl1
      obtain rfl := list_nil hl2
      clear hl hl0 hl1 hl2
      obtain rfl : v0 = .slice aol1 ((x.l.take k1).map cutCe).length capl1 := hV 0 _ rfl
      have ha0 := HA0.out
      subst ha0
      clear HA0 hV hYZ hZb hsz0 hrows hne oe1 oe3
      simp only [putAll, Act.put, List.setIfInBounds_toArray, List.set_cons_zero, List.set_cons_succ, List.set_nil]
      go_upto_region 7 with (fail)
      generalize ha0 : Act.mk _ _ = a0
      have oe1 : a0.eval (.tmp 1) = .pointer (some ⟨w.heap.size, 0, none⟩) := by rw [← ha0]; rfl
      have oe2 : a0.eval (.tmp 2) = .pointer (some ⟨w.heap.size + 1, 0, none⟩) := by rw [← ha0]; rfl
      have hsz0 : a0.tmps.size = 28 := by rw [← ha0]; rfl
      have HA0 := Lib.hid ha0
      clear ha0
      refine wp_region_Q 28 hsz0 (by kernel_rfl) (by kernel_rfl) [27, 29] (by kernel_rfl) (by decide) (fun k => (k = w.heap.size + 1)) (fun k j => (k = 0 ∧ ((j = w.heap.size + 1)))) (by intro k j h; (try dsimp only at h ⊢); omega) [qi (.agg #[.int .i64 x.rp, .int .i64 x.ep, .int .u64 (x.fl : Nat), Value.slice aol1 ((x.l.take k1).map cutCe).length capl1, .int .i64 x.sb, .int .i64 x.mr]), qv 0] ⟨qi_stable, qv_stable, trivial⟩ [1] (by kernel_rfl) (by decide) (by kernel_rfl) [] (by kernel_rfl) (by intro r hr; cases hr) (by intro r hr; cases hr) (by intro r hr; cases hr) ⟨?_, ?_, trivial⟩ ?_
      · refine stepq_env rfl rfl rfl fun Z tr act w' hZ hm hm0 hout hsz hd hub hpre => ?_
        refine qe_run rfl (wanted_none rfl) (ex_loadA rfl Try.underlying55 rfl (off := 0) (cs := [.int .i64 x.rp, .int .i64 x.ep, .int .u64 (x.fl : Nat), Value.slice aol1 ((x.l.take k1).map cutCe).length capl1, .int .i64 x.sb, .int .i64 x.mr]) (by kernel_rfl) ((hout 1 (by decide)).trans oe1) (Cs.whole (Hx47.out.mod hm (by intro h2; (try dsimp only at h2); (try simp only [false_or] at h2); omega)))) QE.refl ?_
        rfl
      · exact stepq_chain rfl
      intro u7_0 hr
      have zu7_0 := hr.size
      have Hx52 := Lib.hid (Hx48.out.mod hr (by intro k h1 h2; (try dsimp only at h1 h2); (try simp only [false_or] at h1 h2); (first | omega | (have hb := HBT.out k h1; omega) | (have hb := HBT.out k h2; omega))))
      have Hx53 := Lib.hid (Hx47.out.mod hr (by intro h2; (try dsimp only at h2); (try simp only [false_or] at h2); omega))
      have Hx54 := Lib.hid (Hx49.out.mod hr (by intro h2; (try dsimp only at h2); (try simp only [false_or] at h2); omega))
      have Hx55 := Lib.hid (Hx50.out.trans hr (by intro k h1 h2; (try dsimp only at h2 ⊢); (try simp only [false_or] at h2 ⊢); omega))
      have Hx56 := Lib.hid (Hx51.out.mod hr (by intro k h1 h2; (try dsimp only at h1 h2); (try simp only [false_or] at h1 h2); omega) (by intro k h1 h2; (try dsimp only at h1 h2); (try simp only [false_or] at h1 h2); rcases h1 with h1 | h1 <;> (first | omega | (have hb := HBT.out k h1; omega) | (have hb := HBT.out k h2; omega))))
      clear Hx48 Hx47 Hx49 Hx50 Hx51
      clear hr
      refine QChain.cons rfl fun Z act hYZ hZ hout hsz hd hpre => ?_
      have h0 := hd ⟨0, .data⟩ (by simp) rfl _ rfl
      refine qc_store rfl (wanted_none rfl) rfl Hx54.out (off := 0) (vs := [.int .i64 x.rp, .int .i64 x.ep, .int .u64 (x.fl : Nat), Value.slice aol1 ((x.l.take k1).map cutCe).length capl1, .int .i64 x.sb, .int .i64 x.mr]) (by kernel_rfl) (by intro u hu; simp at hu; rcases hu with rfl | rfl | rfl | rfl | rfl | rfl <;> rfl) (by simp) ((hout 2 (by decide)).trans oe2) (by rw [show act.eval ((.tmp 27)) = _ from h0]; rfl) ?_
      intro u7_1a qc0 hm
      have qB2 : Cs u7_1a (w.heap.size + 1) #[.int .i64 x.rp, .int .i64 x.ep, .int .u64 (x.fl : Nat), Value.slice aol1 ((x.l.take k1).map cutCe).length capl1, .int .i64 x.sb, .int .i64 x.mr] 55 := by rw [show lay _ 0 _ = #[.int .i64 x.rp, .int .i64 x.ep, .int .u64 (x.fl : Nat), Value.slice aol1 ((x.l.take k1).map cutCe).length capl1, .int .i64 x.sb, .int .i64 x.mr] from rfl] at qc0; exact qc0
      clear qc0
      have zu7_1a := hm.size
      refine ⟨hm.mono (by intro k hk h; (try dsimp only at h ⊢); (try simp only [false_or, or_false, true_and] at h ⊢); omega), (fun _ => rfl), ?_⟩
      intro u7_1 hr
      have zu7_1 := hr.size
      have Hx57 := Lib.hid (qB2.mod hr (by intro h2; (try dsimp only at h2); (try simp only [false_or] at h2); omega))
      have hmr := hm.two hr
      have Hx58 := Lib.hid (Hx52.out.mod hmr (by intro k h1 h2; (try dsimp only at h1 h2); (try simp only [false_or] at h1 h2); rcases h2 with h2 | h2 <;> (first | omega | (have hb := HBT.out k h1; omega) | (have hb := HBT.out k h2; omega))))
      have Hx59 := Lib.hid (Hx53.out.mod hmr (by intro h2; (try dsimp only at h2); (try simp only [false_or] at h2); omega))
      have Hx60 := Lib.hid (Hx55.out.trans hmr (by intro k h1 h2; (try dsimp only at h2 ⊢); (try simp only [false_or] at h2 ⊢); omega))
      have Hx61 := Lib.hid (Hx56.out.mod hmr (by intro k h1 h2; (try dsimp only at h1 h2); (try simp only [false_or] at h1 h2); omega) (by intro k h1 h2; (try dsimp only at h1 h2); (try simp only [false_or] at h1 h2); rcases h1 with h1 | h1 <;> rcases h2 with h2 | h2 <;> (first | omega | (have hb := HBT.out k h1; omega) | (have hb := HBT.out k h2; omega))))
      clear Hx52 Hx53 Hx55 Hx56
      clear hmr
      clear hm hr hYZ hZ hout hsz hd hpre qB2 Hx54 h0
      refine QChain.nil fun vs hl hzz hrows hne => ?_
      obtain ⟨Z, hYZ, hZb, hV⟩ := hzz
      obtain ⟨v0, vs0, rfl, hl0⟩ := list_cons hl
      obtain ⟨v1, vs1, rfl, hl1⟩ := list_cons hl0
      obtain rfl := list_nil hl1
      clear hl hl0 hl1
      have ha0 := HA0.out
      subst ha0
      clear HA0 hV hYZ hZb hsz0 hrows hne oe1 oe2
      simp only [putAll, Act.put, List.setIfInBounds_toArray, List.set_cons_zero, List.set_cons_succ, List.set_nil]
      go_wp2
      have hq := Hx61.out
      refine bodyPost_ret (results_cellA rfl _ _ (w.heap.size + 1) ([.int .i64 x.rp, .int .i64 x.ep, .int .u64 (x.fl : Nat), Value.slice aol1 ((x.l.take k1).map cutCe).length capl1, .int .i64 x.sb, .int .i64 x.mr]) rfl (fun k u hu => by rw [Hx57.out.cell]; simpa using hu) Try.underlying55 rfl (by kernel_rfl)) rfl ⟨_, rfl, ⟨_, rfl, HOK.out, ?_⟩, Hx60.out⟩
      rw [show (cutPm x).l = (x.l.take k1).map cutCe from congrArg (List.map cutCe) HTK1.out.symm]
      refine hq.rd.widen ?_
      intro k h
      (try dsimp only at h ⊢)
      rcases h with h | h | h
      · right; unfold New; omega
      · exact Or.inl h
      · right; unfold New; omega
end Go.Proofs.Ytknpapcfhnhheaa

/- Equality of commitments, names and signatures. -/
set_option maxRecDepth 100000
namespace Go.Proofs.Ytknpapcfhnhheaa
open Go Go.RowKit Go.Gv
theorem eqIn_name (w : World) (d : Nat) (a b a' b' : Int) :
    (Op.equalIn (d + 2) 23 (.agg #[.int .i64 a, .int .i64 b]) (.agg #[.int .i64 a', .int .i64 b'])).run Try.prog w = .ok (a == a' && b == b') w := by
  have hs : Try.prog.stoodInHeld 23 = false := by kernel_rfl
  rw [Op.equalIn]
  simp [run_underlying Try.underlying23, run_program, hs, part, isAgg, run_underlying Try.underlying3, run_equalIn_int]
  cases h1 : a == a' <;> cases h2 : b == b' <;> simp_all
theorem eqIn_sig (w : World) (d : Nat) (a b a' b' : Int) :
    (Op.equalIn (d + 2) 28 (.agg #[.int .i64 a, .int .i64 b]) (.agg #[.int .i64 a', .int .i64 b'])).run Try.prog w = .ok (a == a' && b == b') w := by
  have hs : Try.prog.stoodInHeld 28 = false := by kernel_rfl
  rw [Op.equalIn]
  simp [run_underlying Try.underlying28, run_program, hs, part, isAgg, run_underlying Try.underlying3, run_equalIn_int]
  cases h1 : a == a' <;> cases h2 : b == b' <;> simp_all
theorem size_run {P : Program} {T : TypeId} {n : Nat} (h : (P.info? T).map (·.size) = some n) (w : World) : (sizeOf T).run P w = .ok n w := by
  cases hq : P.info? T with
  | none => rw [hq] at h; cases h
  | some i => rw [hq] at h; simp [sizeOf, typeInfo, hq]; exact Option.some.inj h
theorem part_agg {P : Program} {T : TypeId} {n : Nat} {d : TypeDesc} (hu : P.underlying T = some d) (hd : aggDesc d = true) (h : (P.info? T).map (·.size) = some n) (cs : Array Value) (off : Nat) (w : World) : (part T cs off).run P w = .ok (.agg (cs.extract off (off + n))) w := by
  have hagg : (isAgg T).run P w = .ok true w := by
    unfold isAgg
    rw [Sem.run_bind, run_underlying hu w]
    cases d <;> simp_all [aggDesc]
  simp [part, hagg, size_run h]
theorem part_one {P : Program} {T : TypeId} {d : TypeDesc} (hu : P.underlying T = some d) (hd : aggDesc d = false) {cs : Array Value} {off : Nat} {v : Value} (hv : cs[off]? = some v) (w : World) : (part T cs off).run P w = .ok v w := by
  have hagg : (isAgg T).run P w = .ok false w := by
    unfold isAgg
    rw [Sem.run_bind, run_underlying hu w]
    cases d <;> simp_all [aggDesc]
  simp [part, hagg, hv]
theorem eqIn_struct_true {P : Program} {T : TypeId} {fs : Array Field} (w : World) (d : Nat) (hu : P.underlying T = some (.struct fs)) (hs : P.stoodInHeld T = false) (xs ys : Array Value)
    (h : ∀ f ∈ fs.toList, f.name ≠ "_" ∧ ∃ x y, (part f.type xs f.offset).run P w = .ok x w ∧ (part f.type ys f.offset).run P w = .ok y w ∧ (Op.equalIn d f.type x y).run P w = .ok true w) :
    (Op.equalIn (d + 1) T (.agg xs) (.agg ys)).run P w = .ok true w := by
  obtain ⟨l⟩ := fs
  simp only at h
  rw [Op.equalIn]
  simp only [Sem.run_bind, run_underlying hu, Result.andThen_ok, run_program, hs, Bool.false_eq_true, if_false, List.forIn_toArray]
  clear hu
  induction l with
  | nil => simp
  | cons f l ih =>
    obtain ⟨hn, x, y, p1, p2, q⟩ := h f (by simp)
    simp only [List.forIn_cons, Sem.run_bind, ne_eq, hn, not_false_eq_true, if_true, p1, p2, q, Result.andThen_ok, Bool.not_true, Bool.false_eq_true, if_false, Sem.run_pure]
    exact ih (fun f hf => h f (by simp [hf]))
theorem eqIn_commit (w : World) (d : Nat) (a b l s m : Int) (h : List Int) (hl : h.length = 32) :
    (Op.equalIn (d + 3) 49 (.agg ([Value.int .i64 a, .int .i64 b] ++ (h.map bv ++ [Value.int .i64 l, Value.int .i64 s, Value.int .i64 m])).toArray) (.agg ([Value.int .i64 a, .int .i64 b] ++ (h.map bv ++ [Value.int .i64 l, Value.int .i64 s, Value.int .i64 m])).toArray)).run Try.prog w = .ok true w := by
  have hs : Try.prog.stoodInHeld 49 = false := by kernel_rfl
  generalize hA : ([Value.int .i64 a, .int .i64 b] ++ (h.map bv ++ [Value.int .i64 l, Value.int .i64 s, Value.int .i64 m])).toArray = A
  have hsz : A.size = 37 := by rw [← hA]; simp [hl]
  have p1 := part_agg (n := 2) Try.underlying23 rfl (by kernel_rfl) A 0 w
  have p2 := part_agg (n := 32) Try.underlying25 rfl (by kernel_rfl) A 2 w
  have p4 := part_agg (n := 2) Try.underlying28 rfl (by kernel_rfl) A 35 w
  have far : ∀ j, A[34 + j]? = ([Value.int .i64 l, .int .i64 s, .int .i64 m] : List Value)[j]? := by
    intro j
    rw [← hA]
    simp only [List.getElem?_toArray]
    rw [List.getElem?_append_right (by simp; omega), List.getElem?_append_right (by simp [hl]; omega)]
    simp only [List.length_cons, List.length_nil, List.length_map, hl]
    congr 1
    omega
  have p3 := part_one (P := Try.prog) Try.underlying3 rfl (far 0) w
  have e1 : A.extract 0 (0 + 2) = #[Value.int .i64 a, .int .i64 b] := by rw [← hA]; simp
  have e2 : A.extract 2 (2 + 32) = (h.map bv).toArray := by
    rw [← hA]
    apply Array.ext'
    simp [hl]
  have e4 : A.extract 35 (35 + 2) = #[Value.int .i64 s, .int .i64 m] := by
    apply Array.ext'
    apply List.ext_getElem?
    intro j
    simp only [Array.toList_extract, List.extract_eq_take_drop, List.getElem?_take, List.getElem?_drop]
    rw [Array.getElem?_toList]
    have := far (1 + j)
    rw [show 34 + (1 + j) = 35 + j by omega] at this
    rw [this]
    match j with
    | 0 => rfl
    | 1 => rfl
    | j + 2 => simp; omega
  rw [e1] at p1
  rw [e2] at p2
  rw [e4] at p4
  have q1 := eqIn_name w d a b a b
  have q2 := run_equalIn_ints w d 25 5 32 Try.underlying25 Try.underlying5 (by kernel_rfl) h h hl hl
  have q4 := eqIn_sig w d s m s m
  have q3 : (Op.equalIn (d + 2) 3 (.int .i64 l) (.int .i64 l)).run Try.prog w = .ok true w := by rw [run_equalIn_int w (d + 1) 3 .i64 .i64 l l Try.underlying3]; simp
  simp only [beq_self_eq_true, Bool.and_self] at q1 q4
  simp only [decide_true] at q2
  refine eqIn_struct_true w (d + 2) Try.underlying49 hs A A (fun f hf => ?_)
  simp only [List.mem_cons, List.not_mem_nil, or_false] at hf
  rcases hf with rfl | rfl | rfl | rfl
  · exact ⟨by decide, _, _, p1, p1, q1⟩
  · exact ⟨by decide, _, _, p2, p2, q2⟩
  · exact ⟨by decide, _, _, p3, p3, q3⟩
  · exact ⟨by decide, _, _, p4, p4, q4⟩
end Go.Proofs.Ytknpapcfhnhheaa

/- Equality of flat things (all cells are ints): they are equal where their cells are. -/
set_option maxRecDepth 100000
set_option linter.unusedVariables false
namespace Go.Proofs.Ytknpapcfhnhheaa
open Go Go.RowKit Go.Gv

/-- cells that are ints of these kinds -/
def KI : List IntKind → List Value → Prop
  | [], [] => True
  | k :: ks, v :: vs => (∃ a, v = .int k a) ∧ KI ks vs
  | _, _ => False
theorem KI.len : ∀ {ks : List IntKind} {vs : List Value}, KI ks vs → vs.length = ks.length
  | [], [], _ => rfl
  | k :: ks, v :: vs, h => by simp [KI.len h.2]
  | [], v :: vs, h => h.elim
  | k :: ks, [], h => h.elim
theorem KI.append : ∀ {ks ks' : List IntKind} {a b : List Value}, KI ks a → KI ks' b → KI (ks ++ ks') (a ++ b)
  | [], ks', [], b, _, h => h
  | k :: ks, ks', v :: vs, b, h, h' => ⟨h.1, KI.append h.2 h'⟩
  | [], _, v :: vs, _, h, _ => h.elim
  | k :: ks, _, [], _, h, _ => h.elim
theorem KI.split : ∀ {ks ks' : List IntKind} {vs : List Value}, KI (ks ++ ks') vs → ∃ a b, vs = a ++ b ∧ KI ks a ∧ KI ks' b
  | [], ks', vs, h => ⟨[], vs, rfl, trivial, h⟩
  | k :: ks, ks', v :: vs, h => by
    obtain ⟨a, b, rfl, h1, h2⟩ := KI.split h.2
    exact ⟨v :: a, b, rfl, ⟨h.1, h1⟩, h2⟩
  | k :: ks, _, [], h => h.elim
theorem KI.ints {k : IntKind} : ∀ {n : Nat} {h : List Int}, h.length = n → KI (List.replicate n k) (h.map (Value.int k))
  | 0, [], _ => trivial
  | n + 1, a :: h, e => ⟨⟨a, rfl⟩, KI.ints (by simpa using e)⟩
theorem KI.rep {k : IntKind} : ∀ {n : Nat} {vs : List Value}, KI (List.replicate n k) vs → ∃ h : List Int, h.length = n ∧ vs = h.map (Value.int k)
  | 0, [], _ => ⟨[], rfl, rfl⟩
  | 0, v :: vs, h => h.elim
  | n + 1, [], h => h.elim
  | n + 1, v :: vs, h => by
    obtain ⟨a, rfl⟩ := h.1
    obtain ⟨l, e, rfl⟩ := KI.rep h.2
    exact ⟨a :: l, by simp [e], rfl⟩
def EqW (P : Program) (d : Nat) (T : TypeId) (ks : List IntKind) : Prop := ∀ (xs ys : List Value) (c : Bool) (w : World), KI ks xs → KI ks ys → (c = true ↔ xs = ys) → (Op.equalIn d T (.agg xs.toArray) (.agg ys.toArray)).run P w = .ok c w
def EqT (P : Program) (d : Nat) (T : TypeId) (ks : List IntKind) : Prop := ∀ (A B : List Value) (off : Nat) (xs ys : List Value) (c : Bool) (w : World), KI ks xs → KI ks ys → (c = true ↔ xs = ys) → (A.drop off).take ks.length = xs → (B.drop off).take ks.length = ys →
  ∃ x y, (part T A.toArray off).run P w = .ok x w ∧ (part T B.toArray off).run P w = .ok y w ∧ (Op.equalIn d T x y).run P w = .ok c w
theorem ex_bool (p : Prop) : ∃ c : Bool, (c = true ↔ p) := by
  rcases Classical.em p with h | h
  · exact ⟨true, by simp [h]⟩
  · exact ⟨false, by simp [h]⟩
theorem bool_of {c d : Bool} (h : c = true ↔ d = true) : c = d := by cases c <;> cases d <;> simp_all
variable {P : Program}
theorem drop_one {A : List Value} {off : Nat} {v : Value} (h : (A.drop off).take 1 = [v]) : A.toArray[off]? = some v := by
  have h1 : ((A.drop off).take 1)[0]? = some v := by rw [h]; rfl
  rw [List.getElem?_take, List.getElem?_drop] at h1
  simpa using h1
theorem EqT.int {d : Nat} {T : TypeId} {k : IntKind} (hu : P.underlying T = some (.int k)) : EqT P (d + 1) T [k] := by
  intro A B off xs ys c w hx hy hc ha hb
  match xs, ys, hx, hy with
  | [x], [y], ⟨⟨a, e⟩, _⟩, ⟨⟨b, e'⟩, _⟩ =>
    subst e e'
    refine ⟨_, _, part_one hu rfl (drop_one ha) w, part_one hu rfl (drop_one hb) w, ?_⟩
    rw [run_equalIn_int w d T k k a b hu, show (a == b) = c from bool_of (by rw [hc]; simp)]
theorem EqT.agg {d : Nat} {T : TypeId} {ks : List IntKind} {de : TypeDesc} (h : EqW P d T ks) (hu : P.underlying T = some de) (hd : aggDesc de = true) (hs : (P.info? T).map (·.size) = some ks.length) : EqT P d T ks := by
  intro A B off xs ys c w hx hy hc ha hb
  have e : ∀ (A : List Value), A.toArray.extract off (off + ks.length) = ((A.drop off).take ks.length).toArray := fun A => by
    apply Array.ext'
    simp [List.extract_eq_take_drop, Nat.add_sub_cancel_left]
  have p1 := part_agg hu hd hs A.toArray off w
  have p2 := part_agg hu hd hs B.toArray off w
  rw [e, ha] at p1
  rw [e, hb] at p2
  exact ⟨_, _, p1, p2, h xs ys c w hx hy hc⟩
theorem EqW.ints {d : Nat} {T e : TypeId} {n : Nat} {k : IntKind} (ht : P.underlying T = some (.array n e)) (he : P.underlying e = some (.int k)) (hs : (P.info? e).map (·.size) = some 1) : EqW P (d + 2) T (List.replicate n k) := by
  intro xs ys c w hx hy hc
  obtain ⟨a, ha, rfl⟩ := hx.rep
  obtain ⟨b, hb, rfl⟩ := hy.rep
  rw [run_equalIn_ints w d T e n ht he hs a b ha hb]
  rw [show decide (a = b) = c from bool_of (by
    rw [hc, decide_eq_true_iff]
    exact ⟨fun h => by rw [h], fun h => (List.map_inj_right (fun x y h => by injection h)).1 h⟩)]
def FsE (P : Program) (d : Nat) : Nat → List Field → List (List IntKind) → Prop
  | _, [], [] => True
  | off, f :: fs, ks :: l => f.name ≠ "_" ∧ f.offset = off ∧ EqT P d f.type ks ∧ FsE P d (off + ks.length) fs l
  | _, _, _ => False
theorem eqFields_all {d : Nat} : ∀ (fs : List Field) (l : List (List IntKind)) (pre pre' xs ys : List Value) (c : Bool) (w : World), FsE P d pre.length fs l → pre'.length = pre.length → KI l.flatten xs → KI l.flatten ys → (c = true ↔ xs = ys) →
    (Op.eqFields d (pre ++ xs).toArray (pre' ++ ys).toArray fs).run P w = .ok c w
  | [], [], pre, pre', xs, ys, c, w, _, _, hx, hy, hc => by
    match xs, ys, hx, hy, hc with
    | [], [], _, _, hc => obtain rfl : c = true := hc.2 rfl; simp [Op.eqFields]
  | [], _ :: _, _, _, _, _, _, _, h, _, _, _, _ => h.elim
  | _ :: _, [], _, _, _, _, _, _, h, _, _, _, _ => h.elim
  | f :: fs, ks :: l, pre, pre', xs, ys, c, w, ⟨h1, h2, h3, h4⟩, hp, hx, hy, hc => by
    obtain ⟨a, b, rfl, ha, hb⟩ := KI.split (by simpa using hx)
    obtain ⟨a', b', rfl, ha', hb'⟩ := KI.split (by simpa using hy)
    have la := ha.len
    have la' := ha'.len
    obtain ⟨c1, hc1⟩ := ex_bool (a = a')
    obtain ⟨c2, hc2⟩ := ex_bool (b = b')
    obtain ⟨x, y, p1, p2, q⟩ := h3 (pre ++ (a ++ b)) (pre' ++ (a' ++ b')) pre.length a a' c1 w ha ha' hc1 (by rw [List.drop_left, ← la, List.take_left]) (by rw [← hp, List.drop_left, ← la', List.take_left])
    have ih := eqFields_all fs l (pre ++ a) (pre' ++ a') b b' c2 w (by rw [List.length_append, la]; exact h4) (by rw [List.length_append, List.length_append, hp, la, la']) hb hb' hc2
    rw [List.append_assoc, List.append_assoc] at ih
    unfold Op.eqFields
    rw [if_pos h1, h2]
    simp only [Sem.run_bind, p1, p2, q, Result.andThen_ok]
    have hcc : c = (c1 && c2) := bool_of (by
      rw [hc, Bool.and_eq_true, hc1, hc2]
      exact ⟨fun h => List.append_inj h (by rw [la, la']), fun h => by rw [h.1, h.2]⟩)
    subst hcc
    cases c1
    · simp
    · simp [ih]
theorem EqW.struct {d : Nat} {T : TypeId} {fs : Array Field} (l : List (List IntKind)) (hu : P.underlying T = some (.struct fs)) (hs : P.stoodInHeld T = false) (hl : FsE P d 0 fs.toList l) : EqW P (d + 1) T l.flatten := by
  intro xs ys c w hx hy hc
  have hf : P.fieldsOf T = fs := by unfold Program.fieldsOf; rw [hu]
  rw [run_equalIn_struct w d T xs.toArray ys.toArray (by rw [hf]; exact hu) hs, hf]
  exact eqFields_all fs.toList l [] [] xs ys c w hl rfl hx hy hc
theorem EqW.run {T : TypeId} {ks : List IntKind} (h : EqW P 10000 T ks) {xs ys : List Value} (hx : KI ks xs) (hy : KI ks ys) {c : Bool} (hc : c = true ↔ xs = ys) (w : World) : (binOp .eql T (.agg xs.toArray) (.agg ys.toArray)).run P w = .ok (.bool (c)) w := by
  rw [run_eql_struct, h xs ys c w hx hy hc]
  rfl
theorem EqW.runN {T : TypeId} {ks : List IntKind} (h : EqW P 10000 T ks) {xs ys : List Value} (hx : KI ks xs) (hy : KI ks ys) {c : Bool} (hc : c = true ↔ xs = ys) (w : World) : (binOp .neq T (.agg xs.toArray) (.agg ys.toArray)).run P w = .ok (.bool (!c)) w := by
  rw [run_neq_struct, h xs ys c w hx hy hc]
  rfl
abbrev i3 : List IntKind := [.i64, .i64, .i64]
abbrev kHash : List IntKind := List.replicate 32 .u8
theorem eqT_int {d : Nat} : EqT Try.prog (d + 1) 3 [.i64] := EqT.int Try.underlying3
theorem eqT_u64 {d : Nat} : EqT Try.prog (d + 1) 26 [.u64] := EqT.int Try.underlying26
theorem eqT_hash {d : Nat} : EqT Try.prog (d + 2) 25 kHash := EqT.agg (EqW.ints Try.underlying25 Try.underlying5 (by kernel_rfl)) Try.underlying25 rfl (by kernel_rfl)
theorem eqW_name {d : Nat} : EqW Try.prog (d + 2) 23 [.i64, .i64] := EqW.struct [[.i64], [.i64]] Try.underlying23 (by kernel_rfl) ⟨by decide, rfl, eqT_int, by decide, rfl, eqT_int, trivial⟩
theorem eqT_name {d : Nat} : EqT Try.prog (d + 2) 23 [.i64, .i64] := EqT.agg eqW_name Try.underlying23 rfl (by kernel_rfl)
theorem eqW_sig {d : Nat} : EqW Try.prog (d + 2) 28 [.i64, .i64] := EqW.struct [[.i64], [.i64]] Try.underlying28 (by kernel_rfl) ⟨by decide, rfl, eqT_int, by decide, rfl, eqT_int, trivial⟩
theorem eqT_sig {d : Nat} : EqT Try.prog (d + 2) 28 [.i64, .i64] := EqT.agg eqW_sig Try.underlying28 rfl (by kernel_rfl)
theorem eqW_stamp {d : Nat} : EqW Try.prog (d + 3) 30 [[.i64], [.i64, .i64], kHash, [.u64], [.i64, .i64]].flatten :=
  EqW.struct [[.i64], [.i64, .i64], kHash, [.u64], [.i64, .i64]] Try.underlying30 (by kernel_rfl) ⟨by decide, rfl, eqT_int, by decide, rfl, eqT_name, by decide, rfl, eqT_hash, by decide, rfl, eqT_u64, by decide, rfl, eqT_sig, trivial⟩
theorem eqW_ack {d : Nat} : EqW Try.prog (d + 3) 44 [[.i64], [.i64, .i64], kHash, [.u64], [.i64, .i64]].flatten :=
  EqW.struct [[.i64], [.i64, .i64], kHash, [.u64], [.i64, .i64]] Try.underlying44 (by kernel_rfl) ⟨by decide, rfl, eqT_int, by decide, rfl, eqT_name, by decide, rfl, eqT_hash, by decide, rfl, eqT_u64, by decide, rfl, eqT_sig, trivial⟩
theorem eqW_vote {d : Nat} : EqW Try.prog (d + 3) 32 [[.i64], [.i64], [.i64], [.i64], kHash, [.i64, .i64]].flatten :=
  EqW.struct [[.i64], [.i64], [.i64], [.i64], kHash, [.i64, .i64]] Try.underlying32 (by kernel_rfl) ⟨by decide, rfl, eqT_int, by decide, rfl, eqT_int, by decide, rfl, eqT_int, by decide, rfl, eqT_int, by decide, rfl, eqT_hash, by decide, rfl, eqT_sig, trivial⟩
theorem eqW_deny {d : Nat} : EqW Try.prog (d + 3) 34 [[.i64], [.i64], [.i64, .i64]].flatten :=
  EqW.struct [[.i64], [.i64], [.i64, .i64]] Try.underlying34 (by kernel_rfl) ⟨by decide, rfl, eqT_int, by decide, rfl, eqT_int, by decide, rfl, eqT_sig, trivial⟩
theorem eqW_commit {d : Nat} : EqW Try.prog (d + 3) 49 [[.i64, .i64], kHash, [.i64], [.i64, .i64]].flatten :=
  EqW.struct [[.i64, .i64], kHash, [.i64], [.i64, .i64]] Try.underlying49 (by kernel_rfl) ⟨by decide, rfl, eqT_name, by decide, rfl, eqT_hash, by decide, rfl, eqT_int, by decide, rfl, eqT_sig, trivial⟩
theorem ki_hash {h : List Int} (e : h.length = 32) : KI kHash (h.map bv) := KI.ints e
theorem ki_st {x : St} (h : x.OK) : KI [[.i64], [.i64, .i64], kHash, [.u64], [.i64, .i64]].flatten x.cells := by
  have := KI.append (ks := [.i64, .i64, .i64]) (a := [.int .i64 x.rp, .int .i64 x.cl, .int .i64 x.sq]) ⟨⟨_, rfl⟩, ⟨_, rfl⟩, ⟨_, rfl⟩, trivial⟩ (KI.append (ki_hash h.h.1) (ks' := [.u64, .i64, .i64]) (b := [.int .u64 (x.tm : Nat), .int .i64 x.sb, .int .i64 x.mr]) ⟨⟨_, rfl⟩, ⟨_, rfl⟩, ⟨_, rfl⟩, trivial⟩)
  exact this
theorem ki_vt {x : Vt} (h : x.OK) : KI [[.i64], [.i64], [.i64], [.i64], kHash, [.i64, .i64]].flatten x.cells := by
  have := KI.append (ks := [.i64, .i64, .i64, .i64]) (a := [.int .i64 x.kd, .int .i64 x.ep, .int .i64 x.rd, .int .i64 x.rp]) ⟨⟨_, rfl⟩, ⟨_, rfl⟩, ⟨_, rfl⟩, ⟨_, rfl⟩, trivial⟩ (KI.append (ki_hash h.h.1) (ks' := [.i64, .i64]) (b := [.int .i64 x.sb, .int .i64 x.mr]) ⟨⟨_, rfl⟩, ⟨_, rfl⟩, trivial⟩)
  exact this
theorem ki_dn (x : Dn) : KI [[.i64], [.i64], [.i64, .i64]].flatten x.cells := ⟨⟨_, rfl⟩, ⟨_, rfl⟩, ⟨_, rfl⟩, ⟨_, rfl⟩, trivial⟩
theorem ki_en {x : En} (h : x.OK) : KI [[.i64, .i64], kHash, [.u64]].flatten x.cells := by
  have := KI.append (ks := [.i64, .i64]) (a := [.int .i64 x.cl, .int .i64 x.sq]) ⟨⟨_, rfl⟩, ⟨_, rfl⟩, trivial⟩ (KI.append (ki_hash h.h.1) (ks' := [.u64]) (b := [.int .u64 (x.tm : Nat)]) ⟨⟨_, rfl⟩, trivial⟩)
  exact this
theorem ki_cm {x : Cm} (h : x.h.length = 32) : KI [[.i64, .i64], kHash, [.i64], [.i64, .i64]].flatten x.cells := by
  have := KI.append (ks := [.i64, .i64]) (a := [.int .i64 x.cl, .int .i64 x.sq]) ⟨⟨_, rfl⟩, ⟨_, rfl⟩, trivial⟩ (KI.append (ki_hash h) (ks' := [.i64, .i64, .i64]) (b := [.int .i64 x.ln, .int .i64 x.sb, .int .i64 x.mr]) ⟨⟨_, rfl⟩, ⟨_, rfl⟩, ⟨_, rfl⟩, trivial⟩)
  exact this
end Go.Proofs.Ytknpapcfhnhheaa

/- gavellaw05.smallStamp, smallVote. -/
set_option maxRecDepth 100000
set_option linter.unusedVariables false
namespace Go.Proofs.Ytknpapcfhnhheaa
open Go Go.RowKit Go.Gv


theorem ex_builtA {P : Program} {o : Oper} {a : Act} {w : World} {t : TypeId} {ps : Array (Nat × Operand)} (ho : o.op = .build t ps) {parts : List (Nat × Value)} (hp : (ps.map fun (i, x) => (i, a.eval x)).toList = parts) {r : Array Value} (h : P.built t parts = some r) : (execOp a.eval o).run P w = .ok (.value (.agg r)) w := by
  have hrun := run_build (P := P) w t (ps.map fun (i, x) => (i, a.eval x)) r (by rw [hp]; exact h)
  unfold execOp
  simp only [ho, Sem.run_bind, hrun, Result.andThen_ok, Sem.run_pure]
theorem run_rem_i {P : Program} {t : TypeId} {k : IntKind} {w : World} (x y : Int) (h : y ≠ 0) : (binOp .rem t (.int k x) (.int k y)).run P w = .ok (.int k (x.tmod y)) w := by
  simp [binOp, Op.intDiv, h]
/-- a hash of one number; small stamps, votes -/
def smH (a : Int) : List Int := [a, 0, 0, 0, 0, 0, 0, 0, 0, 0, 0, 0, 0, 0, 0, 0, 0, 0, 0, 0, 0, 0, 0, 0, 0, 0, 0, 0, 0, 0, 0, 0]
def smSt (x : St) : St := ⟨within x.rp 4, within x.cl 3, within x.sq 3, smH (x.h.headD 0 % 2), x.tm % 3, 0, 0⟩
def smVt (x : Vt) : Vt := ⟨1 + within x.kd 2, within x.ep 3, within x.rd 3, within x.rp 4, smH (x.h.headD 0 % 2), 0, 0⟩
def smDn (x : Dn) : Dn := ⟨within x.rp 4, within x.ix 4, 0, 0⟩
theorem head_cell {h : List Int} (hk : HK h) : (h.map bv)[0]? = some (.int .u8 (h.headD 0)) := by
  have := hk.1
  match h, this with
  | a :: r, _ => rfl
theorem head_byte {h : List Int} (hk : HK h) : 0 ≤ h.headD 0 := by
  have := hk.1
  match h, this with
  | a :: r, _ => exact (hk.2 a (by simp)).1
theorem within_I (v n : Int) (h : 1 ≤ n) (hn : n ≤ 1000) : I64 (within v n) := by have := within_range v n h; unfold I64; omega
theorem smH_ok (a : Int) : HK (smH (a % 2)) := by
  refine ⟨rfl, ?_⟩
  intro b hb
  simp only [smH, List.mem_cons, List.not_mem_nil, or_false] at hb
  omega
theorem smSt_ok (x : St) : (smSt x).OK := ⟨(within_I x.rp 4 (by decide) (by decide)), (within_I x.cl 3 (by decide) (by decide)), (within_I x.sq 3 (by decide) (by decide)), smH_ok _, (by have : x.tm % 3 < 3 := Nat.mod_lt _ (by decide); unfold U64; show x.tm % 3 < _; omega), (show I64 0 by unfold I64; decide), (show I64 0 by unfold I64; decide)⟩
theorem smVt_ok (x : Vt) : (smVt x).OK := ⟨(by have := within_range x.kd 2 (by decide); show I64 (1 + within x.kd 2); unfold I64; omega), (within_I x.ep 3 (by decide) (by decide)), (within_I x.rd 3 (by decide) (by decide)), (within_I x.rp 4 (by decide) (by decide)), smH_ok _, (show I64 0 by unfold I64; decide), (show I64 0 by unfold I64; decide)⟩
theorem smDn_ok (x : Dn) : (smDn x).OK := ⟨(within_I x.rp 4 (by decide) (by decide)), (within_I x.ix 4 (by decide) (by decide)), (show I64 0 by unfold I64; decide), (show I64 0 by unfold I64; decide)⟩
set_option maxHeartbeats 4000000 in
theorem smallStamp_any (x : St) (w : World) (hok : x.OK) : Calls Try.prog 11 #[.agg x.cells.toArray] w fun e w' => e = .returned (.agg (smSt x).cells.toArray) ∧ Mod (fun _ => False) w w' := by
  have HOK := Lib.hid hok
  clear hok
  go_enter Try.func11, Try.ntmps11
  go_upto_region 1 with (fail)
  obtain ⟨w1, hw1⟩ : ∃ zz, zz = ((w.alloc (.cells (x.cells : List Value).toArray 30)).alloc (.cells #[.int .i64 0, .int .i64 0, .int .i64 0, .int .u8 0, .int .u8 0, .int .u8 0, .int .u8 0, .int .u8 0, .int .u8 0, .int .u8 0, .int .u8 0, .int .u8 0, .int .u8 0, .int .u8 0, .int .u8 0, .int .u8 0, .int .u8 0, .int .u8 0, .int .u8 0, .int .u8 0, .int .u8 0, .int .u8 0, .int .u8 0, .int .u8 0, .int .u8 0, .int .u8 0, .int .u8 0, .int .u8 0, .int .u8 0, .int .u8 0, .int .u8 0, .int .u8 0, .int .u8 0, .int .u8 0, .int .u8 0, .int .u64 0, .int .i64 0, .int .i64 0] 30)) := ⟨_, rfl⟩
  change Code.wp _ _ _ _ ((w.alloc (.cells (x.cells : List Value).toArray 30)).alloc (.cells #[.int .i64 0, .int .i64 0, .int .i64 0, .int .u8 0, .int .u8 0, .int .u8 0, .int .u8 0, .int .u8 0, .int .u8 0, .int .u8 0, .int .u8 0, .int .u8 0, .int .u8 0, .int .u8 0, .int .u8 0, .int .u8 0, .int .u8 0, .int .u8 0, .int .u8 0, .int .u8 0, .int .u8 0, .int .u8 0, .int .u8 0, .int .u8 0, .int .u8 0, .int .u8 0, .int .u8 0, .int .u8 0, .int .u8 0, .int .u8 0, .int .u8 0, .int .u8 0, .int .u8 0, .int .u8 0, .int .u8 0, .int .u64 0, .int .i64 0, .int .i64 0] 30))
  rw [← hw1]
  have HB1 := Lib.hid (show Cs w1 (w.heap.size) (x.cells : List Value).toArray 30 by rw [hw1]; exact (Cs.new _ _ _).alloc _)
  have HB2 := Lib.hid (show Cs w1 (w.heap.size + 1) #[.int .i64 0, .int .i64 0, .int .i64 0, .int .u8 0, .int .u8 0, .int .u8 0, .int .u8 0, .int .u8 0, .int .u8 0, .int .u8 0, .int .u8 0, .int .u8 0, .int .u8 0, .int .u8 0, .int .u8 0, .int .u8 0, .int .u8 0, .int .u8 0, .int .u8 0, .int .u8 0, .int .u8 0, .int .u8 0, .int .u8 0, .int .u8 0, .int .u8 0, .int .u8 0, .int .u8 0, .int .u8 0, .int .u8 0, .int .u8 0, .int .u8 0, .int .u8 0, .int .u8 0, .int .u8 0, .int .u8 0, .int .u64 0, .int .i64 0, .int .i64 0] 30 by rw [hw1]; exact Cs_newN _ _ _ (by simp))
  have hm : Mod (fun _ => False) w w1 := by rw [hw1]; exact ((Mod.refl _ _).alloc _).alloc _
  have HM0 := Lib.hid (show Mod (fun _ => False) w w1 from hm.mono (fun _ _ h => h.elim))
  have hs1 : w1.heap.size = w.heap.size + 2 := by rw [hw1]; simp
  clear hw1 hm
  go_upto_region 1 with (fail)
  generalize ha0 : Act.mk _ _ = a0
  have oe1 : a0.eval (.tmp 1) = .pointer (some ⟨w.heap.size, 0, none⟩) := by rw [← ha0]; rfl
  have oe2 : a0.eval (.tmp 2) = .pointer (some ⟨w.heap.size + 1, 0, none⟩) := by rw [← ha0]; rfl
  have hsz0 : a0.tmps.size = 24 := by rw [← ha0]; rfl
  have HA0 := Lib.hid ha0
  clear ha0
  refine wp_region_Q 24 hsz0 (by kernel_rfl) (by kernel_rfl) [3, 4, 5, 6, 7, 8, 9, 10, 11, 12, 13, 14, 15, 16, 17, 18, 19, 20, 21, 22, 23, 45] (by kernel_rfl) (by decide) (fun k => (k = w.heap.size + 1)) (fun k j => (k = 0 ∧ ((j = w.heap.size + 1)))) (by intro k j h; (try dsimp only at h ⊢); omega) [qi (.pointer (some ⟨w.heap.size, 0, none⟩)), qi (.int .i64 x.rp), qi (.int .i64 (within x.rp 4)), qi (.pointer (some ⟨w.heap.size, 1, none⟩)), qi (.pointer (some ⟨w.heap.size, 1, none⟩)), qi (.int .i64 x.cl), qi (.int .i64 (within x.cl 3)), qi (.pointer (some ⟨w.heap.size, 1, none⟩)), qi (.pointer (some ⟨w.heap.size, 2, none⟩)), qi (.int .i64 x.sq), qi (.int .i64 (within x.sq 3)), qi (.agg #[.int .i64 (within x.cl 3), .int .i64 (within x.sq 3)]), qi (.pointer (some ⟨w.heap.size, 3, none⟩)), qi (.pointer (some ⟨w.heap.size, 3, none⟩)), qi (.int .u8 (x.h.headD 0)), qi (.int .u8 (x.h.headD 0 % 2)), qi (hv (smH (x.h.headD 0 % 2))), qi (.pointer (some ⟨w.heap.size, 35, none⟩)), qi (.int .u64 (x.tm : Nat)), qi (.int .u64 ((x.tm % 3 : Nat) : Int)), qi (.agg (smSt x).cells.toArray), qv 0] ⟨qi_stable, qi_stable, qi_stable, qi_stable, qi_stable, qi_stable, qi_stable, qi_stable, qi_stable, qi_stable, qi_stable, qi_stable, qi_stable, qi_stable, qi_stable, qi_stable, qi_stable, qi_stable, qi_stable, qi_stable, qi_stable, qv_stable, trivial⟩ [21] (by kernel_rfl) (by decide) (by kernel_rfl) [] (by kernel_rfl) (by intro r hr; cases hr) (by intro r hr; cases hr) (by intro r hr; cases hr) ⟨?_, ?_, ?_, ?_, ?_, ?_, ?_, ?_, ?_, ?_, ?_, ?_, ?_, ?_, ?_, ?_, ?_, ?_, ?_, ?_, ?_, ?_, trivial⟩ ?_
  · refine stepq_env rfl rfl rfl fun Z tr act w' hZ hm hm0 hout hsz hd hub hpre => ?_
    refine qe_run rfl (wanted_none rfl) (ex_field rfl Try.underlying30 rfl (by kernel_rfl) ((hout 1 (by decide)).trans oe1)) QE.refl ?_
    rfl
  · refine stepq_env rfl rfl rfl fun Z tr act w' hZ hm hm0 hout hsz hd hub hpre => ?_
    have h0 := hd ⟨0, .data⟩ (by simp) rfl _ rfl
    refine qe_run rfl (wanted_none rfl) (ex_load1 rfl Try.underlying3 rfl h0 (Cs.pre1 (HB1.out.mod hm (by intro h2; (try dsimp only at h2); (try simp only [false_or] at h2); omega)) rfl)) QE.refl ?_
    rfl
  · refine stepq_env rfl rfl rfl fun Z tr act w' hZ hm hm0 hout hsz hd hub hpre => ?_
    have h1 := hd ⟨1, .data⟩ (by simp) rfl _ rfl
    have ea4 : act.eval (.tmp 4) = .int .i64 x.rp := h1
    refine qe_call (args := #[.int .i64 x.rp, .int .i64 4]) rfl (wanted_none rfl) (by rw [ex_callF rfl Try.func13 (by kernel_rfl) (by kernel_rfl)]; exact congrArg (fun z => Result.ok (Next.enter _ z) _) (by simp only [List.map_toArray, List.map_cons, List.map_nil, ea4]; try rfl)) (Within_any x.rp 4 (by decide) (by decide) HOK.out.rp _) ?_
    rintro e w2 ⟨rfl, rfl⟩
    exact ⟨_, rfl, QE.refl, rfl⟩
  · refine stepq_env rfl rfl rfl fun Z tr act w' hZ hm hm0 hout hsz hd hub hpre => ?_
    refine qe_run rfl (wanted_none rfl) (ex_field rfl Try.underlying30 rfl (by kernel_rfl) ((hout 1 (by decide)).trans oe1)) QE.refl ?_
    rfl
  · refine stepq_env rfl rfl rfl fun Z tr act w' hZ hm hm0 hout hsz hd hub hpre => ?_
    have h3 := hd ⟨3, .data⟩ (by simp) rfl _ rfl
    refine qe_run rfl (wanted_none rfl) (ex_field rfl Try.underlying23 rfl (by kernel_rfl) h3) QE.refl ?_
    rfl
  · refine stepq_env rfl rfl rfl fun Z tr act w' hZ hm hm0 hout hsz hd hub hpre => ?_
    have h4 := hd ⟨4, .data⟩ (by simp) rfl _ rfl
    refine qe_run rfl (wanted_none rfl) (ex_load1 rfl Try.underlying3 rfl h4 (Cs.pre1 (HB1.out.mod hm (by intro h2; (try dsimp only at h2); (try simp only [false_or] at h2); omega)) rfl)) QE.refl ?_
    rfl
  · refine stepq_env rfl rfl rfl fun Z tr act w' hZ hm hm0 hout hsz hd hub hpre => ?_
    have h5 := hd ⟨5, .data⟩ (by simp) rfl _ rfl
    have ea8 : act.eval (.tmp 8) = .int .i64 x.cl := h5
    refine qe_call (args := #[.int .i64 x.cl, .int .i64 3]) rfl (wanted_none rfl) (by rw [ex_callF rfl Try.func13 (by kernel_rfl) (by kernel_rfl)]; exact congrArg (fun z => Result.ok (Next.enter _ z) _) (by simp only [List.map_toArray, List.map_cons, List.map_nil, ea8]; try rfl)) (Within_any x.cl 3 (by decide) (by decide) HOK.out.cl _) ?_
    rintro e w2 ⟨rfl, rfl⟩
    exact ⟨_, rfl, QE.refl, rfl⟩
  · refine stepq_env rfl rfl rfl fun Z tr act w' hZ hm hm0 hout hsz hd hub hpre => ?_
    refine qe_run rfl (wanted_none rfl) (ex_field rfl Try.underlying30 rfl (by kernel_rfl) ((hout 1 (by decide)).trans oe1)) QE.refl ?_
    rfl
  · refine stepq_env rfl rfl rfl fun Z tr act w' hZ hm hm0 hout hsz hd hub hpre => ?_
    have h7 := hd ⟨7, .data⟩ (by simp) rfl _ rfl
    refine qe_run rfl (wanted_none rfl) (ex_field rfl Try.underlying23 rfl (by kernel_rfl) h7) QE.refl ?_
    rfl
  · refine stepq_env rfl rfl rfl fun Z tr act w' hZ hm hm0 hout hsz hd hub hpre => ?_
    have h8 := hd ⟨8, .data⟩ (by simp) rfl _ rfl
    refine qe_run rfl (wanted_none rfl) (ex_load1 rfl Try.underlying3 rfl h8 (Cs.pre1 (HB1.out.mod hm (by intro h2; (try dsimp only at h2); (try simp only [false_or] at h2); omega)) rfl)) QE.refl ?_
    rfl
  · refine stepq_env rfl rfl rfl fun Z tr act w' hZ hm hm0 hout hsz hd hub hpre => ?_
    have h9 := hd ⟨9, .data⟩ (by simp) rfl _ rfl
    have ea12 : act.eval (.tmp 12) = .int .i64 x.sq := h9
    refine qe_call (args := #[.int .i64 x.sq, .int .i64 3]) rfl (wanted_none rfl) (by rw [ex_callF rfl Try.func13 (by kernel_rfl) (by kernel_rfl)]; exact congrArg (fun z => Result.ok (Next.enter _ z) _) (by simp only [List.map_toArray, List.map_cons, List.map_nil, ea12]; try rfl)) (Within_any x.sq 3 (by decide) (by decide) HOK.out.sq _) ?_
    rintro e w2 ⟨rfl, rfl⟩
    exact ⟨_, rfl, QE.refl, rfl⟩
  · refine stepq_env rfl rfl rfl fun Z tr act w' hZ hm hm0 hout hsz hd hub hpre => ?_
    have h6 := hd ⟨6, .data⟩ (by simp) rfl _ rfl
    have h10 := hd ⟨10, .data⟩ (by simp) rfl _ rfl
    refine qe_run rfl (wanted_none rfl) (ex_build rfl (z := [.int .i64 0, .int .i64 0]) (places := [(0, 1), (1, 1)]) (by kernel_rfl) (parts := [(0, .int .i64 (within x.cl 3)), (1, .int .i64 (within x.sq 3))]) (by simp only [List.map_toArray, List.map_cons, List.map_nil, show act.eval (.tmp 9) = _ from h6, show act.eval (.tmp 13) = _ from h10]; try rfl) (r := [.int .i64 (within x.cl 3), .int .i64 (within x.sq 3)]) (by rfl)) QE.refl ?_
    rfl
  · refine stepq_env rfl rfl rfl fun Z tr act w' hZ hm hm0 hout hsz hd hub hpre => ?_
    refine qe_run rfl (wanted_none rfl) (ex_field rfl Try.underlying30 rfl (by kernel_rfl) ((hout 1 (by decide)).trans oe1)) QE.refl ?_
    rfl
  · refine stepq_env rfl rfl rfl fun Z tr act w' hZ hm hm0 hout hsz hd hub hpre => ?_
    have h12 := hd ⟨12, .data⟩ (by simp) rfl _ rfl
    refine qe_run rfl (wanted_none rfl) (ex_idxA (i := 0) (s := 1) rfl Try.underlying25 (by decide) (by kernel_rfl) h12 rfl (by omega)) QE.refl ?_
    rfl
  · refine stepq_env rfl rfl rfl fun Z tr act w' hZ hm hm0 hout hsz hd hub hpre => ?_
    have h13 := hd ⟨13, .data⟩ (by simp) rfl _ rfl
    refine qe_run rfl (wanted_none rfl) (ex_load1 rfl Try.underlying5 rfl h13 (Cs.midA (HB1.out.mod hm (by intro h2; (try dsimp only at h2); (try simp only [false_or] at h2); omega)) rfl 0 _ (head_cell HOK.out.h))) QE.refl ?_
    rfl
  · refine stepq_env rfl rfl rfl fun Z tr act w' hZ hm hm0 hout hsz hd hub hpre => ?_
    have h14 := hd ⟨14, .data⟩ (by simp) rfl _ rfl
    refine qe_run rfl (wanted_none rfl) (ex_binE rfl h14 rfl (guard_ints _ _ _ _ _ _) (run_rem_i _ _ (by decide)) (congrArg (Value.int .u8) (Int.tmod_eq_emod_of_nonneg (head_byte HOK.out.h)))) QE.refl ?_
    rfl
  · refine stepq_env rfl rfl rfl fun Z tr act w' hZ hm hm0 hout hsz hd hub hpre => ?_
    have h15 := hd ⟨15, .data⟩ (by simp) rfl _ rfl
    refine qe_run rfl (wanted_none rfl) (ex_builtA rfl (parts := [(0, .int .u8 (x.h.headD 0 % 2))]) (by simp only [List.map_toArray, List.map_cons, List.map_nil, show act.eval (.tmp 18) = _ from h15]; try rfl) (r := (((smH (x.h.headD 0 % 2)).map bv) : List Value).toArray) (by kernel_rfl)) QE.refl ?_
    rfl
  · refine stepq_env rfl rfl rfl fun Z tr act w' hZ hm hm0 hout hsz hd hub hpre => ?_
    refine qe_run rfl (wanted_none rfl) (ex_field rfl Try.underlying30 rfl (by kernel_rfl) ((hout 1 (by decide)).trans oe1)) QE.refl ?_
    rfl
  · refine stepq_env rfl rfl rfl fun Z tr act w' hZ hm hm0 hout hsz hd hub hpre => ?_
    have h17 := hd ⟨17, .data⟩ (by simp) rfl _ rfl
    refine qe_run rfl (wanted_none rfl) (ex_load1 rfl Try.underlying26 rfl h17 (Cs.post1 (m := 32) (k := 0) (HB1.out.mod hm (by intro h2; (try dsimp only at h2); (try simp only [false_or] at h2); omega)) (by rw [List.length_map]; exact HOK.out.h.1) rfl rfl)) QE.refl ?_
    rfl
  · refine stepq_env rfl rfl rfl fun Z tr act w' hZ hm hm0 hout hsz hd hub hpre => ?_
    have h18 := hd ⟨18, .data⟩ (by simp) rfl _ rfl
    refine qe_run rfl (wanted_none rfl) (ex_binE rfl h18 rfl (guard_ints _ _ _ _ _ _) (run_rem_i _ _ (by decide)) (congrArg (Value.int .u64) (by rw [Int.tmod_eq_emod_of_nonneg (by omega)]))) QE.refl ?_
    rfl
  · refine stepq_env rfl rfl rfl fun Z tr act w' hZ hm hm0 hout hsz hd hub hpre => ?_
    have h2 := hd ⟨2, .data⟩ (by simp) rfl _ rfl
    have h11 := hd ⟨11, .data⟩ (by simp) rfl _ rfl
    have h16 := hd ⟨16, .data⟩ (by simp) rfl _ rfl
    have h19 := hd ⟨19, .data⟩ (by simp) rfl _ rfl
    refine qe_run rfl (wanted_none rfl) (ex_build rfl (z := [.int .i64 0, .int .i64 0, .int .i64 0, .int .u8 0, .int .u8 0, .int .u8 0, .int .u8 0, .int .u8 0, .int .u8 0, .int .u8 0, .int .u8 0, .int .u8 0, .int .u8 0, .int .u8 0, .int .u8 0, .int .u8 0, .int .u8 0, .int .u8 0, .int .u8 0, .int .u8 0, .int .u8 0, .int .u8 0, .int .u8 0, .int .u8 0, .int .u8 0, .int .u8 0, .int .u8 0, .int .u8 0, .int .u8 0, .int .u8 0, .int .u8 0, .int .u8 0, .int .u8 0, .int .u8 0, .int .u8 0, .int .u64 0, .int .i64 0, .int .i64 0]) (places := [(0, 1), (1, 2), (3, 32), (35, 1), (36, 2)]) (by kernel_rfl) (parts := [(0, .int .i64 (within x.rp 4)), (1, .agg #[.int .i64 (within x.cl 3), .int .i64 (within x.sq 3)]), (2, hv (smH (x.h.headD 0 % 2))), (3, .int .u64 ((x.tm % 3 : Nat) : Int))]) (by simp only [List.map_toArray, List.map_cons, List.map_nil, show act.eval (.tmp 5) = _ from h2, show act.eval (.tmp 14) = _ from h11, show act.eval (.tmp 19) = _ from h16, show act.eval (.tmp 22) = _ from h19]; try rfl) (r := (smSt x).cells) (by rfl)) QE.refl ?_
    rfl
  · exact stepq_chain rfl
  intro u1_0 hr
  have zu1_0 := hr.size
  have Hx1 := Lib.hid (HB1.out.mod hr (by intro h2; (try dsimp only at h2); (try simp only [false_or] at h2); omega))
  have Hx2 := Lib.hid (HB2.out.mod hr (by intro h2; (try dsimp only at h2); (try simp only [false_or] at h2); omega))
  have Hx3 := Lib.hid (HM0.out.trans hr (by intro k h1 h2; (try dsimp only at h2 ⊢); (try simp only [false_or] at h2 ⊢); omega))
  clear HB1 HB2 HM0
  clear hr
  refine QChain.cons rfl fun Z act hYZ hZ hout hsz hd hpre => ?_
  have h20 := hd ⟨20, .data⟩ (by simp) rfl _ rfl
  refine qc_store rfl (wanted_none rfl) rfl Hx2.out (off := 0) (vs := (smSt x).cells) (by rw [St.len (smSt_ok x)]; kernel_rfl) (St.one _) (by rw [St.len (smSt_ok x)]; decide) ((hout 2 (by decide)).trans oe2) (by rw [show act.eval ((.tmp 23)) = _ from h20]; rfl) ?_
  intro u1_1a qc0 hm
  have qB2 : Cs u1_1a (w.heap.size + 1) ((smSt x).cells : List Value).toArray 30 := by rw [show lay _ 0 _ = ((smSt x).cells : List Value).toArray from lay_whole _ _ (by rw [St.len (smSt_ok x)]; rfl)] at qc0; exact qc0
  clear qc0
  have zu1_1a := hm.size
  refine ⟨hm.mono (by intro k hk h; (try dsimp only at h ⊢); (try simp only [false_or, or_false, true_and] at h ⊢); omega), (fun _ => rfl), ?_⟩
  intro u1_1 hr
  have zu1_1 := hr.size
  have Hx4 := Lib.hid (qB2.mod hr (by intro h2; (try dsimp only at h2); (try simp only [false_or] at h2); omega))
  have hmr := hm.two hr
  have Hx5 := Lib.hid (Hx1.out.mod hmr (by intro h2; (try dsimp only at h2); (try simp only [false_or] at h2); omega))
  have Hx6 := Lib.hid (Hx3.out.trans hmr (by intro k h1 h2; (try dsimp only at h2 ⊢); (try simp only [false_or] at h2 ⊢); omega))
  clear Hx1 Hx3
  clear hmr
  clear hm hr hYZ hZ hout hsz hd hpre qB2 Hx2 h20
  refine QChain.nil fun vs hl hzz hrows hne => ?_
  obtain ⟨Z, hYZ, hZb, hV⟩ := hzz
  obtain ⟨v0, vs0, rfl, hl0⟩ := list_cons hl
  obtain ⟨v1, vs1, rfl, hl1⟩ := list_cons hl0
  obtain ⟨v2, vs2, rfl, hl2⟩ := list_cons hl1
  obtain ⟨v3, vs3, rfl, hl3⟩ := list_cons hl2
  obtain ⟨v4, vs4, rfl, hl4⟩ := list_cons hl3
  obtain ⟨v5, vs5, rfl, hl5⟩ := list_cons hl4
  obtain ⟨v6, vs6, rfl, hl6⟩ := list_cons hl5
  obtain ⟨v7, vs7, rfl, hl7⟩ := list_cons hl6
  obtain ⟨v8, vs8, rfl, hl8⟩ := list_cons hl7
  obtain ⟨v9, vs9, rfl, hl9⟩ := list_cons hl8
  obtain ⟨v10, vs10, rfl, hl10⟩ := list_cons hl9
  obtain ⟨v11, vs11, rfl, hl11⟩ := list_cons hl10
  obtain ⟨v12, vs12, rfl, hl12⟩ := list_cons hl11
  obtain ⟨v13, vs13, rfl, hl13⟩ := list_cons hl12
  obtain ⟨v14, vs14, rfl, hl14⟩ := list_cons hl13
  obtain ⟨v15, vs15, rfl, hl15⟩ := list_cons hl14
  obtain ⟨v16, vs16, rfl, hl16⟩ := list_cons hl15
  obtain ⟨v17, vs17, rfl, hl17⟩ := list_cons hl16
  obtain ⟨v18, vs18, rfl, hl18⟩ := list_cons hl17
  obtain ⟨v19, vs19, rfl, hl19⟩ := list_cons hl18
  obtain ⟨v20, vs20, rfl, hl20⟩ := list_cons hl19
  obtain ⟨v21, vs21, rfl, hl21⟩ := list_cons hl20
  obtain rfl := list_nil hl21
  clear hl hl0 hl1 hl2 hl3 hl4 hl5 hl6 hl7 hl8 hl9 hl10 hl11 hl12 hl13 hl14 hl15 hl16 hl17 hl18 hl19 hl20 hl21
  obtain rfl : v2 = .int .i64 (within x.rp 4) := hV 2 _ rfl
  obtain rfl : v6 = .int .i64 (within x.cl 3) := hV 6 _ rfl
  obtain rfl : v10 = .int .i64 (within x.sq 3) := hV 10 _ rfl
  have ha0 := HA0.out
  subst ha0
  clear HA0 hV hYZ hZb hsz0 hrows hne oe1 oe2
  simp only [putAll, Act.put, List.setIfInBounds_toArray, List.set_cons_zero, List.set_cons_succ, List.set_nil]
  go_wp2
  exact bodyPost_ret (results_cellA rfl _ _ (w.heap.size + 1) ((smSt x).cells) rfl (fun k u hu => by rw [Cs.cell Hx4.out]; simpa using hu) Try.underlying30 rfl (by rw [St.len (smSt_ok x)]; kernel_rfl)) rfl ⟨rfl, Hx6.out⟩
set_option maxHeartbeats 4000000 in
theorem smallVote_any (x : Vt) (w : World) (hok : x.OK) : Calls Try.prog 12 #[.agg x.cells.toArray] w fun e w' => e = .returned (.agg (smVt x).cells.toArray) ∧ Mod (fun _ => False) w w' := by
  have HOK := Lib.hid hok
  clear hok
  go_enter Try.func12, Try.ntmps12
  go_upto_region 1 with (fail)
  obtain ⟨w1, hw1⟩ : ∃ zz, zz = ((w.alloc (.cells (x.cells : List Value).toArray 32)).alloc (.cells #[.int .i64 0, .int .i64 0, .int .i64 0, .int .i64 0, .int .u8 0, .int .u8 0, .int .u8 0, .int .u8 0, .int .u8 0, .int .u8 0, .int .u8 0, .int .u8 0, .int .u8 0, .int .u8 0, .int .u8 0, .int .u8 0, .int .u8 0, .int .u8 0, .int .u8 0, .int .u8 0, .int .u8 0, .int .u8 0, .int .u8 0, .int .u8 0, .int .u8 0, .int .u8 0, .int .u8 0, .int .u8 0, .int .u8 0, .int .u8 0, .int .u8 0, .int .u8 0, .int .u8 0, .int .u8 0, .int .u8 0, .int .u8 0, .int .i64 0, .int .i64 0] 32)) := ⟨_, rfl⟩
  change Code.wp _ _ _ _ ((w.alloc (.cells (x.cells : List Value).toArray 32)).alloc (.cells #[.int .i64 0, .int .i64 0, .int .i64 0, .int .i64 0, .int .u8 0, .int .u8 0, .int .u8 0, .int .u8 0, .int .u8 0, .int .u8 0, .int .u8 0, .int .u8 0, .int .u8 0, .int .u8 0, .int .u8 0, .int .u8 0, .int .u8 0, .int .u8 0, .int .u8 0, .int .u8 0, .int .u8 0, .int .u8 0, .int .u8 0, .int .u8 0, .int .u8 0, .int .u8 0, .int .u8 0, .int .u8 0, .int .u8 0, .int .u8 0, .int .u8 0, .int .u8 0, .int .u8 0, .int .u8 0, .int .u8 0, .int .u8 0, .int .i64 0, .int .i64 0] 32))
  rw [← hw1]
  have HB1 := Lib.hid (show Cs w1 (w.heap.size) (x.cells : List Value).toArray 32 by rw [hw1]; exact (Cs.new _ _ _).alloc _)
  have HB2 := Lib.hid (show Cs w1 (w.heap.size + 1) #[.int .i64 0, .int .i64 0, .int .i64 0, .int .i64 0, .int .u8 0, .int .u8 0, .int .u8 0, .int .u8 0, .int .u8 0, .int .u8 0, .int .u8 0, .int .u8 0, .int .u8 0, .int .u8 0, .int .u8 0, .int .u8 0, .int .u8 0, .int .u8 0, .int .u8 0, .int .u8 0, .int .u8 0, .int .u8 0, .int .u8 0, .int .u8 0, .int .u8 0, .int .u8 0, .int .u8 0, .int .u8 0, .int .u8 0, .int .u8 0, .int .u8 0, .int .u8 0, .int .u8 0, .int .u8 0, .int .u8 0, .int .u8 0, .int .i64 0, .int .i64 0] 32 by rw [hw1]; exact Cs_newN _ _ _ (by simp))
  have hm : Mod (fun _ => False) w w1 := by rw [hw1]; exact ((Mod.refl _ _).alloc _).alloc _
  have HM0 := Lib.hid (show Mod (fun _ => False) w w1 from hm.mono (fun _ _ h => h.elim))
  have hs1 : w1.heap.size = w.heap.size + 2 := by rw [hw1]; simp
  clear hw1 hm
  go_upto_region 1 with (fail)
  generalize ha0 : Act.mk _ _ = a0
  have oe1 : a0.eval (.tmp 1) = .pointer (some ⟨w.heap.size, 0, none⟩) := by rw [← ha0]; rfl
  have oe2 : a0.eval (.tmp 2) = .pointer (some ⟨w.heap.size + 1, 0, none⟩) := by rw [← ha0]; rfl
  have hsz0 : a0.tmps.size = 22 := by rw [← ha0]; rfl
  have HA0 := Lib.hid ha0
  clear ha0
  refine wp_region_Q 22 hsz0 (by kernel_rfl) (by kernel_rfl) [3, 4, 5, 6, 7, 8, 9, 10, 11, 12, 13, 14, 15, 16, 17, 18, 19, 20, 21, 41] (by kernel_rfl) (by decide) (fun k => (k = w.heap.size + 1)) (fun k j => (k = 0 ∧ ((j = w.heap.size + 1)))) (by intro k j h; (try dsimp only at h ⊢); omega) [qi (.pointer (some ⟨w.heap.size, 0, none⟩)), qi (.int .i64 x.kd), qi (.int .i64 (within x.kd 2)), qi (.int .i64 (1 + within x.kd 2)), qi (.pointer (some ⟨w.heap.size, 1, none⟩)), qi (.int .i64 x.ep), qi (.int .i64 (within x.ep 3)), qi (.pointer (some ⟨w.heap.size, 2, none⟩)), qi (.int .i64 x.rd), qi (.int .i64 (within x.rd 3)), qi (.pointer (some ⟨w.heap.size, 3, none⟩)), qi (.int .i64 x.rp), qi (.int .i64 (within x.rp 4)), qi (.pointer (some ⟨w.heap.size, 4, none⟩)), qi (.pointer (some ⟨w.heap.size, 4, none⟩)), qi (.int .u8 (x.h.headD 0)), qi (.int .u8 (x.h.headD 0 % 2)), qi (hv (smH (x.h.headD 0 % 2))), qi (.agg (smVt x).cells.toArray), qv 0] ⟨qi_stable, qi_stable, qi_stable, qi_stable, qi_stable, qi_stable, qi_stable, qi_stable, qi_stable, qi_stable, qi_stable, qi_stable, qi_stable, qi_stable, qi_stable, qi_stable, qi_stable, qi_stable, qi_stable, qv_stable, trivial⟩ [19] (by kernel_rfl) (by decide) (by kernel_rfl) [] (by kernel_rfl) (by intro r hr; cases hr) (by intro r hr; cases hr) (by intro r hr; cases hr) ⟨?_, ?_, ?_, ?_, ?_, ?_, ?_, ?_, ?_, ?_, ?_, ?_, ?_, ?_, ?_, ?_, ?_, ?_, ?_, ?_, trivial⟩ ?_
  · refine stepq_env rfl rfl rfl fun Z tr act w' hZ hm hm0 hout hsz hd hub hpre => ?_
    refine qe_run rfl (wanted_none rfl) (ex_field rfl Try.underlying32 rfl (by kernel_rfl) ((hout 1 (by decide)).trans oe1)) QE.refl ?_
    rfl
  · refine stepq_env rfl rfl rfl fun Z tr act w' hZ hm hm0 hout hsz hd hub hpre => ?_
    have h0 := hd ⟨0, .data⟩ (by simp) rfl _ rfl
    refine qe_run rfl (wanted_none rfl) (ex_load1 rfl Try.underlying3 rfl h0 (Cs.pre1 (HB1.out.mod hm (by intro h2; (try dsimp only at h2); (try simp only [false_or] at h2); omega)) rfl)) QE.refl ?_
    rfl
  · refine stepq_env rfl rfl rfl fun Z tr act w' hZ hm hm0 hout hsz hd hub hpre => ?_
    have h1 := hd ⟨1, .data⟩ (by simp) rfl _ rfl
    have ea4 : act.eval (.tmp 4) = .int .i64 x.kd := h1
    refine qe_call (args := #[.int .i64 x.kd, .int .i64 2]) rfl (wanted_none rfl) (by rw [ex_callF rfl Try.func13 (by kernel_rfl) (by kernel_rfl)]; exact congrArg (fun z => Result.ok (Next.enter _ z) _) (by simp only [List.map_toArray, List.map_cons, List.map_nil, ea4]; try rfl)) (Within_any x.kd 2 (by decide) (by decide) HOK.out.kd _) ?_
    rintro e w2 ⟨rfl, rfl⟩
    exact ⟨_, rfl, QE.refl, rfl⟩
  · refine stepq_env rfl rfl rfl fun Z tr act w' hZ hm hm0 hout hsz hd hub hpre => ?_
    have h2 := hd ⟨2, .data⟩ (by simp) rfl _ rfl
    refine qe_run rfl (wanted_none rfl) (ex_binE rfl rfl h2 (guard_ints _ _ _ _ _ _) (run_add_i _ _ Try.underlying3) (congrArg (Value.int .i64) (IntWalk.i64_in _ (by have := within_range x.kd 2 (by decide); omega)))) QE.refl ?_
    rfl
  · refine stepq_env rfl rfl rfl fun Z tr act w' hZ hm hm0 hout hsz hd hub hpre => ?_
    refine qe_run rfl (wanted_none rfl) (ex_field rfl Try.underlying32 rfl (by kernel_rfl) ((hout 1 (by decide)).trans oe1)) QE.refl ?_
    rfl
  · refine stepq_env rfl rfl rfl fun Z tr act w' hZ hm hm0 hout hsz hd hub hpre => ?_
    have h4 := hd ⟨4, .data⟩ (by simp) rfl _ rfl
    refine qe_run rfl (wanted_none rfl) (ex_load1 rfl Try.underlying3 rfl h4 (Cs.pre1 (HB1.out.mod hm (by intro h2; (try dsimp only at h2); (try simp only [false_or] at h2); omega)) rfl)) QE.refl ?_
    rfl
  · refine stepq_env rfl rfl rfl fun Z tr act w' hZ hm hm0 hout hsz hd hub hpre => ?_
    have h5 := hd ⟨5, .data⟩ (by simp) rfl _ rfl
    have ea8 : act.eval (.tmp 8) = .int .i64 x.ep := h5
    refine qe_call (args := #[.int .i64 x.ep, .int .i64 3]) rfl (wanted_none rfl) (by rw [ex_callF rfl Try.func13 (by kernel_rfl) (by kernel_rfl)]; exact congrArg (fun z => Result.ok (Next.enter _ z) _) (by simp only [List.map_toArray, List.map_cons, List.map_nil, ea8]; try rfl)) (Within_any x.ep 3 (by decide) (by decide) HOK.out.ep _) ?_
    rintro e w2 ⟨rfl, rfl⟩
    exact ⟨_, rfl, QE.refl, rfl⟩
  · refine stepq_env rfl rfl rfl fun Z tr act w' hZ hm hm0 hout hsz hd hub hpre => ?_
    refine qe_run rfl (wanted_none rfl) (ex_field rfl Try.underlying32 rfl (by kernel_rfl) ((hout 1 (by decide)).trans oe1)) QE.refl ?_
    rfl
  · refine stepq_env rfl rfl rfl fun Z tr act w' hZ hm hm0 hout hsz hd hub hpre => ?_
    have h7 := hd ⟨7, .data⟩ (by simp) rfl _ rfl
    refine qe_run rfl (wanted_none rfl) (ex_load1 rfl Try.underlying3 rfl h7 (Cs.pre1 (HB1.out.mod hm (by intro h2; (try dsimp only at h2); (try simp only [false_or] at h2); omega)) rfl)) QE.refl ?_
    rfl
  · refine stepq_env rfl rfl rfl fun Z tr act w' hZ hm hm0 hout hsz hd hub hpre => ?_
    have h8 := hd ⟨8, .data⟩ (by simp) rfl _ rfl
    have ea11 : act.eval (.tmp 11) = .int .i64 x.rd := h8
    refine qe_call (args := #[.int .i64 x.rd, .int .i64 3]) rfl (wanted_none rfl) (by rw [ex_callF rfl Try.func13 (by kernel_rfl) (by kernel_rfl)]; exact congrArg (fun z => Result.ok (Next.enter _ z) _) (by simp only [List.map_toArray, List.map_cons, List.map_nil, ea11]; try rfl)) (Within_any x.rd 3 (by decide) (by decide) HOK.out.rd _) ?_
    rintro e w2 ⟨rfl, rfl⟩
    exact ⟨_, rfl, QE.refl, rfl⟩
  · refine stepq_env rfl rfl rfl fun Z tr act w' hZ hm hm0 hout hsz hd hub hpre => ?_
    refine qe_run rfl (wanted_none rfl) (ex_field rfl Try.underlying32 rfl (by kernel_rfl) ((hout 1 (by decide)).trans oe1)) QE.refl ?_
    rfl
  · refine stepq_env rfl rfl rfl fun Z tr act w' hZ hm hm0 hout hsz hd hub hpre => ?_
    have h10 := hd ⟨10, .data⟩ (by simp) rfl _ rfl
    refine qe_run rfl (wanted_none rfl) (ex_load1 rfl Try.underlying3 rfl h10 (Cs.pre1 (HB1.out.mod hm (by intro h2; (try dsimp only at h2); (try simp only [false_or] at h2); omega)) rfl)) QE.refl ?_
    rfl
  · refine stepq_env rfl rfl rfl fun Z tr act w' hZ hm hm0 hout hsz hd hub hpre => ?_
    have h11 := hd ⟨11, .data⟩ (by simp) rfl _ rfl
    have ea14 : act.eval (.tmp 14) = .int .i64 x.rp := h11
    refine qe_call (args := #[.int .i64 x.rp, .int .i64 4]) rfl (wanted_none rfl) (by rw [ex_callF rfl Try.func13 (by kernel_rfl) (by kernel_rfl)]; exact congrArg (fun z => Result.ok (Next.enter _ z) _) (by simp only [List.map_toArray, List.map_cons, List.map_nil, ea14]; try rfl)) (Within_any x.rp 4 (by decide) (by decide) HOK.out.rp _) ?_
    rintro e w2 ⟨rfl, rfl⟩
    exact ⟨_, rfl, QE.refl, rfl⟩
  · refine stepq_env rfl rfl rfl fun Z tr act w' hZ hm hm0 hout hsz hd hub hpre => ?_
    refine qe_run rfl (wanted_none rfl) (ex_field rfl Try.underlying32 rfl (by kernel_rfl) ((hout 1 (by decide)).trans oe1)) QE.refl ?_
    rfl
  · refine stepq_env rfl rfl rfl fun Z tr act w' hZ hm hm0 hout hsz hd hub hpre => ?_
    have h13 := hd ⟨13, .data⟩ (by simp) rfl _ rfl
    refine qe_run rfl (wanted_none rfl) (ex_idxA (i := 0) (s := 1) rfl Try.underlying25 (by decide) (by kernel_rfl) h13 rfl (by omega)) QE.refl ?_
    rfl
  · refine stepq_env rfl rfl rfl fun Z tr act w' hZ hm hm0 hout hsz hd hub hpre => ?_
    have h14 := hd ⟨14, .data⟩ (by simp) rfl _ rfl
    refine qe_run rfl (wanted_none rfl) (ex_load1 rfl Try.underlying5 rfl h14 (Cs.midA (HB1.out.mod hm (by intro h2; (try dsimp only at h2); (try simp only [false_or] at h2); omega)) rfl 0 _ (head_cell HOK.out.h))) QE.refl ?_
    rfl
  · refine stepq_env rfl rfl rfl fun Z tr act w' hZ hm hm0 hout hsz hd hub hpre => ?_
    have h15 := hd ⟨15, .data⟩ (by simp) rfl _ rfl
    refine qe_run rfl (wanted_none rfl) (ex_binE rfl h15 rfl (guard_ints _ _ _ _ _ _) (run_rem_i _ _ (by decide)) (congrArg (Value.int .u8) (Int.tmod_eq_emod_of_nonneg (head_byte HOK.out.h)))) QE.refl ?_
    rfl
  · refine stepq_env rfl rfl rfl fun Z tr act w' hZ hm hm0 hout hsz hd hub hpre => ?_
    have h16 := hd ⟨16, .data⟩ (by simp) rfl _ rfl
    refine qe_run rfl (wanted_none rfl) (ex_builtA rfl (parts := [(0, .int .u8 (x.h.headD 0 % 2))]) (by simp only [List.map_toArray, List.map_cons, List.map_nil, show act.eval (.tmp 19) = _ from h16]; try rfl) (r := (((smH (x.h.headD 0 % 2)).map bv) : List Value).toArray) (by kernel_rfl)) QE.refl ?_
    rfl
  · refine stepq_env rfl rfl rfl fun Z tr act w' hZ hm hm0 hout hsz hd hub hpre => ?_
    have h3 := hd ⟨3, .data⟩ (by simp) rfl _ rfl
    have h6 := hd ⟨6, .data⟩ (by simp) rfl _ rfl
    have h9 := hd ⟨9, .data⟩ (by simp) rfl _ rfl
    have h12 := hd ⟨12, .data⟩ (by simp) rfl _ rfl
    have h17 := hd ⟨17, .data⟩ (by simp) rfl _ rfl
    refine qe_run rfl (wanted_none rfl) (ex_build rfl (z := [.int .i64 0, .int .i64 0, .int .i64 0, .int .i64 0, .int .u8 0, .int .u8 0, .int .u8 0, .int .u8 0, .int .u8 0, .int .u8 0, .int .u8 0, .int .u8 0, .int .u8 0, .int .u8 0, .int .u8 0, .int .u8 0, .int .u8 0, .int .u8 0, .int .u8 0, .int .u8 0, .int .u8 0, .int .u8 0, .int .u8 0, .int .u8 0, .int .u8 0, .int .u8 0, .int .u8 0, .int .u8 0, .int .u8 0, .int .u8 0, .int .u8 0, .int .u8 0, .int .u8 0, .int .u8 0, .int .u8 0, .int .u8 0, .int .i64 0, .int .i64 0]) (places := [(0, 1), (1, 1), (2, 1), (3, 1), (4, 32), (36, 2)]) (by kernel_rfl) (parts := [(0, .int .i64 (1 + within x.kd 2)), (1, .int .i64 (within x.ep 3)), (2, .int .i64 (within x.rd 3)), (3, .int .i64 (within x.rp 4)), (4, hv (smH (x.h.headD 0 % 2)))]) (by simp only [List.map_toArray, List.map_cons, List.map_nil, show act.eval (.tmp 6) = _ from h3, show act.eval (.tmp 9) = _ from h6, show act.eval (.tmp 12) = _ from h9, show act.eval (.tmp 15) = _ from h12, show act.eval (.tmp 20) = _ from h17]; try rfl) (r := (smVt x).cells) (by rfl)) QE.refl ?_
    rfl
  · exact stepq_chain rfl
  intro u1_0 hr
  have zu1_0 := hr.size
  have Hx1 := Lib.hid (HB1.out.mod hr (by intro h2; (try dsimp only at h2); (try simp only [false_or] at h2); omega))
  have Hx2 := Lib.hid (HB2.out.mod hr (by intro h2; (try dsimp only at h2); (try simp only [false_or] at h2); omega))
  have Hx3 := Lib.hid (HM0.out.trans hr (by intro k h1 h2; (try dsimp only at h2 ⊢); (try simp only [false_or] at h2 ⊢); omega))
  clear HB1 HB2 HM0
  clear hr
  refine QChain.cons rfl fun Z act hYZ hZ hout hsz hd hpre => ?_
  have h18 := hd ⟨18, .data⟩ (by simp) rfl _ rfl
  refine qc_store rfl (wanted_none rfl) rfl Hx2.out (off := 0) (vs := (smVt x).cells) (by rw [Vt.len (smVt_ok x)]; kernel_rfl) (Vt.one _) (by rw [Vt.len (smVt_ok x)]; decide) ((hout 2 (by decide)).trans oe2) (by rw [show act.eval ((.tmp 21)) = _ from h18]; rfl) ?_
  intro u1_1a qc0 hm
  have qB2 : Cs u1_1a (w.heap.size + 1) ((smVt x).cells : List Value).toArray 32 := by rw [show lay _ 0 _ = ((smVt x).cells : List Value).toArray from lay_whole _ _ (by rw [Vt.len (smVt_ok x)]; rfl)] at qc0; exact qc0
  clear qc0
  have zu1_1a := hm.size
  refine ⟨hm.mono (by intro k hk h; (try dsimp only at h ⊢); (try simp only [false_or, or_false, true_and] at h ⊢); omega), (fun _ => rfl), ?_⟩
  intro u1_1 hr
  have zu1_1 := hr.size
  have Hx4 := Lib.hid (qB2.mod hr (by intro h2; (try dsimp only at h2); (try simp only [false_or] at h2); omega))
  have hmr := hm.two hr
  have Hx5 := Lib.hid (Hx1.out.mod hmr (by intro h2; (try dsimp only at h2); (try simp only [false_or] at h2); omega))
  have Hx6 := Lib.hid (Hx3.out.trans hmr (by intro k h1 h2; (try dsimp only at h2 ⊢); (try simp only [false_or] at h2 ⊢); omega))
  clear Hx1 Hx3
  clear hmr
  clear hm hr hYZ hZ hout hsz hd hpre qB2 Hx2 h18
  refine QChain.nil fun vs hl hzz hrows hne => ?_
  obtain ⟨Z, hYZ, hZb, hV⟩ := hzz
  obtain ⟨v0, vs0, rfl, hl0⟩ := list_cons hl
  obtain ⟨v1, vs1, rfl, hl1⟩ := list_cons hl0
  obtain ⟨v2, vs2, rfl, hl2⟩ := list_cons hl1
  obtain ⟨v3, vs3, rfl, hl3⟩ := list_cons hl2
  obtain ⟨v4, vs4, rfl, hl4⟩ := list_cons hl3
  obtain ⟨v5, vs5, rfl, hl5⟩ := list_cons hl4
  obtain ⟨v6, vs6, rfl, hl6⟩ := list_cons hl5
  obtain ⟨v7, vs7, rfl, hl7⟩ := list_cons hl6
  obtain ⟨v8, vs8, rfl, hl8⟩ := list_cons hl7
  obtain ⟨v9, vs9, rfl, hl9⟩ := list_cons hl8
  obtain ⟨v10, vs10, rfl, hl10⟩ := list_cons hl9
  obtain ⟨v11, vs11, rfl, hl11⟩ := list_cons hl10
  obtain ⟨v12, vs12, rfl, hl12⟩ := list_cons hl11
  obtain ⟨v13, vs13, rfl, hl13⟩ := list_cons hl12
  obtain ⟨v14, vs14, rfl, hl14⟩ := list_cons hl13
  obtain ⟨v15, vs15, rfl, hl15⟩ := list_cons hl14
  obtain ⟨v16, vs16, rfl, hl16⟩ := list_cons hl15
  obtain ⟨v17, vs17, rfl, hl17⟩ := list_cons hl16
  obtain ⟨v18, vs18, rfl, hl18⟩ := list_cons hl17
  obtain ⟨v19, vs19, rfl, hl19⟩ := list_cons hl18
  obtain rfl := list_nil hl19
  clear hl hl0 hl1 hl2 hl3 hl4 hl5 hl6 hl7 hl8 hl9 hl10 hl11 hl12 hl13 hl14 hl15 hl16 hl17 hl18 hl19
  obtain rfl : v2 = .int .i64 (within x.kd 2) := hV 2 _ rfl
  obtain rfl : v6 = .int .i64 (within x.ep 3) := hV 6 _ rfl
  obtain rfl : v9 = .int .i64 (within x.rd 3) := hV 9 _ rfl
  obtain rfl : v12 = .int .i64 (within x.rp 4) := hV 12 _ rfl
  have ha0 := HA0.out
  subst ha0
  clear HA0 hV hYZ hZb hsz0 hrows hne oe1 oe2
  simp only [putAll, Act.put, List.setIfInBounds_toArray, List.set_cons_zero, List.set_cons_succ, List.set_nil]
  go_wp2
  exact bodyPost_ret (results_cellA rfl _ _ (w.heap.size + 1) ((smVt x).cells) rfl (fun k u hu => by rw [Cs.cell Hx4.out]; simpa using hu) Try.underlying32 rfl (by rw [Vt.len (smVt_ok x)]; kernel_rfl)) rfl ⟨rfl, Hx6.out⟩
end Go.Proofs.Ytknpapcfhnhheaa
