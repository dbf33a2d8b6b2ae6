/- CommitLimits: the walk. -/
import Derived.Test.YtgnmdnmmemdemaaCm6
set_option maxRecDepth 100000
set_option linter.unusedVariables false
namespace Go.Proofs.Ytgnmdnmmemdemaa
open Go Go.RowKit Go.Gv

theorem run_rem5 {P : Program} {T : TypeId} (x : Int) {w : World} (h : P.underlying T = some (.int .i64)) : (binOp .rem T (.int .i64 x) (.int .i64 5)).run P w = .ok (.int .i64 (x.tmod 5)) w := by
  simp [binOp, Op.intDiv]
  trace_state
theorem lay_sq (c : Cm) (y : Int) (hl : c.h.length = 32) : lay c.cells.toArray 1 [.int .i64 y] = (Cm.cells { c with sq := y }).toArray := by
  unfold lay
  simp [Cm.cells]
theorem lay_ln (c : Cm) (y : Int) (hl : c.h.length = 32) : lay c.cells.toArray 34 [.int .i64 y] = (Cm.cells { c with ln := y }).toArray := by
  unfold lay
  congr 1
  have e : c.cells = ([Value.int .i64 c.cl, .int .i64 c.sq] ++ c.h.map bv) ++ .int .i64 c.ln :: [.int .i64 c.sb, .int .i64 c.mr] := by simp [Cm.cells]
  have hl2 : ([Value.int .i64 c.cl, .int .i64 c.sq] ++ c.h.map bv).length = 34 := by simp [hl]
  simp only [List.length_cons, List.length_nil]
  rw [e, List.take_append_of_le_length (by omega), List.take_of_length_le (by omega), List.drop_append, List.drop_eq_nil_of_le (by omega), show 34 + (0 + 1) - ([Value.int .i64 c.cl, .int .i64 c.sq] ++ c.h.map bv).length = 1 by omega]
  simp [Cm.cells]
set_option maxHeartbeats 8000000 in
theorem CommitLimits_walk (n0 n1 n2 n3 : Int) (h0 : I64 n0) (h1 : I64 n1) (h2 : I64 n2) (h3 : I64 n3) (w : World) : Calls Try.prog 3 #[.int .i64 n0, .int .i64 n1, .int .i64 n2, .int .i64 n3] w fun e w' => e = .returned (.bool true) ∧ Mod (fun _ => False) w w' := by
  have H0 := Lib.hid h0
  have H1 := Lib.hid h1
  have H2 := Lib.hid h2
  have H3 := Lib.hid h3
  clear h0 h1 h2 h3
  go_enter Try.func3, Try.ntmps3
  go_upto_region 1 with (fail)
  generalize ha0 : Act.mk _ _ = a0
  have oe0 : a0.eval (.tmp 0) = .int .i64 n0 := by rw [← ha0]; rfl
  have hsz0 : a0.tmps.size = 84 := by rw [← ha0]; rfl
  have HA0 := Lib.hid ha0
  clear ha0
  refine wp_region_A 84 hsz0 (by kernel_rfl) (by kernel_rfl) [12, 13, 14, 15, 9, 89] (by kernel_rfl) (by decide) (fun j => w.heap.size ≤ j) (fun _ _ => False) (fun _ _ h => h.elim) Still (fun _ _ _ h => h) (fun _ _ _ hm h => hm.trans h (fun _ _ h => h.elim)) [gi (.int .i64 n0), gi (.int .i64 (within n0 5)), gi (.int .i64 (1 + within n0 5)), gi (.agg ([.int .i64 1, .int .i64 (1 + within n0 5)] : List Value).toArray), ga, ga] ⟨gi_stable, gi_stable, gi_stable, gi_stable, ga_stable, ga_stable, trivial⟩ [] (by kernel_rfl) (by decide) (by kernel_rfl) (fun _ _ => True) (fun _ _ _ _ _ => trivial) trivial [⟨4, 5, 24, [.int .i64 0, .int .i64 0], [.int .i64 1, .int .i64 (1 + within n0 5)]⟩] (by kernel_rfl) (by intro r hr; simp only [List.mem_cons, List.not_mem_nil, or_false] at hr; rcases hr with rfl <;> exact ⟨rfl, rfl⟩) (fun _ _ h => h.elim) (fun _ h => h) stillA (fun _ _ _ _ _ _ => trivial) (AllEnd.get _ ⟨gi_end, gi_end, gi_end, gi_end, ga_end, ga_end, trivial⟩) (by intro r hr; simp only [List.mem_cons, List.not_mem_nil, or_false] at hr; rcases hr with rfl <;> exact ⟨of_decide_eq_true (by kernel_rfl), of_decide_eq_true (by kernel_rfl)⟩) (by intro r hr; simp only [List.mem_cons, List.not_mem_nil, or_false] at hr; rcases hr with rfl <;> exact fun _ _ _ => ⟨trivial, trivial⟩) ⟨?_, ?_, ?_, ?_, ?_, ?_, trivial⟩ ?_
  · refine ⟨fun r hr e => ?_, fun r hr e => ?_, fun hno => ?_⟩
    · simp only [List.mem_cons, List.not_mem_nil, or_false] at hr
      rcases hr with rfl
      · simp at e
    · simp only [List.mem_cons, List.not_mem_nil, or_false] at hr
      rcases hr with rfl
      · simp at e
    · intro tr act w' hm hout hsz hd hG hk hub
      exact jg_run (by rfl) rfl (wanted_none rfl) (ex_move rfl ((hout 0 (by decide)).trans oe0)) (Mod.refl _ _) rfl
  · refine ⟨fun r hr e => ?_, fun r hr e => ?_, fun hno => ?_⟩
    · simp only [List.mem_cons, List.not_mem_nil, or_false] at hr
      rcases hr with rfl
      · simp at e
    · simp only [List.mem_cons, List.not_mem_nil, or_false] at hr
      rcases hr with rfl
      · simp at e
    · intro tr act w' hm hout hsz hd hG hk hub
      have h0 := hd ⟨0, .data⟩ (by simp) rfl _ rfl
      refine jg_call (args := #[.int .i64 n0, .int .i64 5]) (by rfl) rfl (wanted_none rfl) (by rw [ex_callF rfl Try.func14 (by kernel_rfl) (by kernel_rfl)]; exact congrArg (fun z => Result.ok (Next.enter _ z) _) (by simp only [List.map_toArray, List.map_cons, List.map_nil, show act.eval (.tmp 12) = _ from h0]; try rfl)) (Within_any n0 5 (by decide) (by decide) H0.out _) ?_
      rintro e w2 ⟨rfl, rfl⟩
      exact ⟨_, rfl, Mod.refl _ _, rfl⟩
  · refine ⟨fun r hr e => ?_, fun r hr e => ?_, fun hno => ?_⟩
    · simp only [List.mem_cons, List.not_mem_nil, or_false] at hr
      rcases hr with rfl
      · simp at e
    · simp only [List.mem_cons, List.not_mem_nil, or_false] at hr
      rcases hr with rfl
      · simp at e
    · intro tr act w' hm hout hsz hd hG hk hub
      have h1 := hd ⟨1, .data⟩ (by simp) rfl _ rfl
      refine jg_run (by rfl) rfl (wanted_none rfl) (ex_bin rfl rfl h1 (guard_ints _ _ _ _ _ _) (run_add_i _ _ Try.underlying3)) (Mod.refl _ _) ?_
      exact congrArg (Value.int .i64) (IntWalk.i64_in _ (by have := within_range n0 5 (by decide); omega))
  · refine ⟨fun r hr e => ?_, fun r hr e => ?_, fun hno => ?_⟩
    · simp only [List.mem_cons, List.not_mem_nil, or_false] at hr
      rcases hr with rfl
      · simp at e
    · simp only [List.mem_cons, List.not_mem_nil, or_false] at hr
      rcases hr with rfl
      · simp at e
    · intro tr act w' hm hout hsz hd hG hk hub
      have h2 := hd ⟨2, .data⟩ (by simp) rfl _ rfl
      exact jg_run (by rfl) rfl (wanted_none rfl) (ex_build rfl (z := [.int .i64 0, .int .i64 0]) (places := [(0, 1), (1, 1)]) (by kernel_rfl) (parts := [(0, .int .i64 1), (1, .int .i64 (1 + within n0 5))]) (by simp only [List.map_toArray, List.map_cons, List.map_nil, show act.eval (.tmp 14) = _ from h2]; try rfl) (r := [.int .i64 1, .int .i64 (1 + within n0 5)]) (by rfl)) (Mod.refl _ _) rfl
  · refine ⟨fun r hr e => ?_, fun r hr e => ?_, fun hno => ?_⟩
    · simp only [List.mem_cons, List.not_mem_nil, or_false] at hr
      rcases hr with rfl
      · exact ⟨rfl, rfl, by kernel_rfl, rfl, (by intro u hu; simp at hu; rcases hu with rfl | rfl <;> rfl), (by kernel_rfl)⟩
    · simp only [List.mem_cons, List.not_mem_nil, or_false] at hr
      rcases hr with rfl
      · simp at e
    · exact absurd rfl (hno ⟨4, 5, 24, [.int .i64 0, .int .i64 0], [.int .i64 1, .int .i64 (1 + within n0 5)]⟩ (by simp)).1
  · refine ⟨fun r hr e => ?_, fun r hr e => ?_, fun hno => ?_⟩
    · simp only [List.mem_cons, List.not_mem_nil, or_false] at hr
      rcases hr with rfl
      · simp at e
    · simp only [List.mem_cons, List.not_mem_nil, or_false] at hr
      rcases hr with rfl
      · refine ⟨rfl, _, (.tmp 15), rfl, by decide, rfl, by kernel_rfl, by kernel_rfl, fun tr act w' hm hout hd hG => ?_⟩
        have h3 := hd ⟨3, .data⟩ (by simp) rfl _ rfl
        rw [show act.eval ((.tmp 15)) = _ from h3]
        rfl
    · exact absurd rfl (hno ⟨4, 5, 24, [.int .i64 0, .int .i64 0], [.int .i64 1, .int .i64 (1 + within n0 5)]⟩ (by simp)).2
  intro vs tr w2 hl htl hm hG hV hAL hNE
  obtain ⟨v0, vs0, rfl, hl0⟩ := list_cons hl
  obtain ⟨v1, vs1, rfl, hl1⟩ := list_cons hl0
  obtain ⟨v2, vs2, rfl, hl2⟩ := list_cons hl1
  obtain ⟨v3, vs3, rfl, hl3⟩ := list_cons hl2
  obtain ⟨v4, vs4, rfl, hl4⟩ := list_cons hl3
  obtain ⟨v5, vs5, rfl, hl5⟩ := list_cons hl4
  obtain rfl := list_nil hl5
  obtain ⟨q0, fq0, hqB0, hqC0⟩ := hAL _ (by simp only [List.mem_cons, List.not_mem_nil, or_false]; trivial)
  obtain rfl : v4 = _ := Option.some.inj fq0
  clear hl hl0 hl1 hl2 hl3 hl4 hl5
  have ha0 := HA0.out
  subst ha0
  clear HA0 hV hsz0 oe0
  simp only [putAll, Act.put, List.setIfInBounds_toArray, List.set_cons_zero, List.set_cons_succ, List.set_nil]
  have KF2 := Lib.hid (show Cs w2 q0 #[.int .i64 1, .int .i64 (1 + within n0 5)] 24 from hqC0)
  have KM2 := Lib.hid (show Mod (fun _ => False) w w2 from (Mod.refl _ _).trans hm (fun k h1 h2 => by omega))
  have zq0 := hqC0.lt
  clear hm hG hAL hNE hqC0 fq0
  go_upto_region 2 with (fail)
  generalize ha0 : Act.mk _ _ = a0
  have oe1 : a0.eval (.tmp 1) = .int .i64 n1 := by rw [← ha0]; rfl
  have oe2 : a0.eval (.tmp 2) = .int .i64 n2 := by rw [← ha0]; rfl
  have oe3 : a0.eval (.tmp 3) = .int .i64 n3 := by rw [← ha0]; rfl
  have hsz0 : a0.tmps.size = 84 := by rw [← ha0]; rfl
  have HA0 := Lib.hid ha0
  clear ha0
  refine wp_region_A 84 hsz0 (by kernel_rfl) (by kernel_rfl) [16, 17, 18, 19, 20, 21, 22, 23, 24, 25, 26, 10, 96] (by kernel_rfl) (by decide) (fun j => w2.heap.size ≤ j) (fun _ _ => False) (fun _ _ h => h.elim) Still (fun _ _ _ h => h) (fun _ _ _ hm h => hm.trans h (fun _ _ h => h.elim)) [gi (.int .i64 n1), gi (.int .i64 (within n1 8)), gi (.int .i64 (within n1 8 - 1)), gi (.int .i64 n2), gi (.int .i64 (within n2 4)), gi (.int .i64 (within n2 4 - 1)), gi (.agg ([.int .i64 (within n1 8 - 1), .int .i64 (within n2 4 - 1)] : List Value).toArray), gi (.int .i64 n3), gi (.int .i64 (within n3 4)), gi (.int .i64 (within n3 4 - 1)), gi (Cm.val (⟨within n1 8 - 1, within n2 4 - 1, (List.replicate 32 (0 : Int)), within n3 4 - 1, 0, 0⟩)), ga, ga] ⟨gi_stable, gi_stable, gi_stable, gi_stable, gi_stable, gi_stable, gi_stable, gi_stable, gi_stable, gi_stable, gi_stable, ga_stable, ga_stable, trivial⟩ [] (by kernel_rfl) (by decide) (by kernel_rfl) (fun _ _ => True) (fun _ _ _ _ _ => trivial) trivial [⟨11, 12, 32, [.int .i64 0, .int .i64 0, .int .u8 0, .int .u8 0, .int .u8 0, .int .u8 0, .int .u8 0, .int .u8 0, .int .u8 0, .int .u8 0, .int .u8 0, .int .u8 0, .int .u8 0, .int .u8 0, .int .u8 0, .int .u8 0, .int .u8 0, .int .u8 0, .int .u8 0, .int .u8 0, .int .u8 0, .int .u8 0, .int .u8 0, .int .u8 0, .int .u8 0, .int .u8 0, .int .u8 0, .int .u8 0, .int .u8 0, .int .u8 0, .int .u8 0, .int .u8 0, .int .u8 0, .int .u8 0, .int .i64 0, .int .i64 0, .int .i64 0], Cm.cells (⟨within n1 8 - 1, within n2 4 - 1, (List.replicate 32 (0 : Int)), within n3 4 - 1, 0, 0⟩)⟩] (by kernel_rfl) (by intro r hr; simp only [List.mem_cons, List.not_mem_nil, or_false] at hr; rcases hr with rfl <;> exact ⟨rfl, rfl⟩) (fun _ _ h => h.elim) (fun _ h => h) stillA (fun _ _ _ _ _ _ => trivial) (AllEnd.get _ ⟨gi_end, gi_end, gi_end, gi_end, gi_end, gi_end, gi_end, gi_end, gi_end, gi_end, gi_end, ga_end, ga_end, trivial⟩) (by intro r hr; simp only [List.mem_cons, List.not_mem_nil, or_false] at hr; rcases hr with rfl <;> exact ⟨of_decide_eq_true (by kernel_rfl), of_decide_eq_true (by kernel_rfl)⟩) (by intro r hr; simp only [List.mem_cons, List.not_mem_nil, or_false] at hr; rcases hr with rfl <;> exact fun _ _ _ => ⟨trivial, trivial⟩) ⟨?_, ?_, ?_, ?_, ?_, ?_, ?_, ?_, ?_, ?_, ?_, ?_, ?_, trivial⟩ ?_
  · refine ⟨fun r hr e => ?_, fun r hr e => ?_, fun hno => ?_⟩
    · simp only [List.mem_cons, List.not_mem_nil, or_false] at hr
      rcases hr with rfl
      · simp at e
    · simp only [List.mem_cons, List.not_mem_nil, or_false] at hr
      rcases hr with rfl
      · simp at e
    · intro tr act w' hm hout hsz hd hG hk hub
      exact jg_run (by rfl) rfl (wanted_none rfl) (ex_move rfl ((hout 1 (by decide)).trans oe1)) (Mod.refl _ _) rfl
  · refine ⟨fun r hr e => ?_, fun r hr e => ?_, fun hno => ?_⟩
    · simp only [List.mem_cons, List.not_mem_nil, or_false] at hr
      rcases hr with rfl
      · simp at e
    · simp only [List.mem_cons, List.not_mem_nil, or_false] at hr
      rcases hr with rfl
      · simp at e
    · intro tr act w' hm hout hsz hd hG hk hub
      have h0 := hd ⟨0, .data⟩ (by simp) rfl _ rfl
      refine jg_call (args := #[.int .i64 n1, .int .i64 8]) (by rfl) rfl (wanted_none rfl) (by rw [ex_callF rfl Try.func14 (by kernel_rfl) (by kernel_rfl)]; exact congrArg (fun z => Result.ok (Next.enter _ z) _) (by simp only [List.map_toArray, List.map_cons, List.map_nil, show act.eval (.tmp 16) = _ from h0]; try rfl)) (Within_any n1 8 (by decide) (by decide) H1.out _) ?_
      rintro e w2 ⟨rfl, rfl⟩
      exact ⟨_, rfl, Mod.refl _ _, rfl⟩
  · refine ⟨fun r hr e => ?_, fun r hr e => ?_, fun hno => ?_⟩
    · simp only [List.mem_cons, List.not_mem_nil, or_false] at hr
      rcases hr with rfl
      · simp at e
    · simp only [List.mem_cons, List.not_mem_nil, or_false] at hr
      rcases hr with rfl
      · simp at e
    · intro tr act w' hm hout hsz hd hG hk hub
      have h1 := hd ⟨1, .data⟩ (by simp) rfl _ rfl
      refine jg_run (by rfl) rfl (wanted_none rfl) (ex_bin rfl h1 rfl (guard_ints _ _ _ _ _ _) (run_sub_i _ _ Try.underlying3)) (Mod.refl _ _) ?_
      exact congrArg (Value.int .i64) (IntWalk.i64_in _ (by have := within_range n1 8 (by decide); omega))
  · refine ⟨fun r hr e => ?_, fun r hr e => ?_, fun hno => ?_⟩
    · simp only [List.mem_cons, List.not_mem_nil, or_false] at hr
      rcases hr with rfl
      · simp at e
    · simp only [List.mem_cons, List.not_mem_nil, or_false] at hr
      rcases hr with rfl
      · simp at e
    · intro tr act w' hm hout hsz hd hG hk hub
      exact jg_run (by rfl) rfl (wanted_none rfl) (ex_move rfl ((hout 2 (by decide)).trans oe2)) (Mod.refl _ _) rfl
  · refine ⟨fun r hr e => ?_, fun r hr e => ?_, fun hno => ?_⟩
    · simp only [List.mem_cons, List.not_mem_nil, or_false] at hr
      rcases hr with rfl
      · simp at e
    · simp only [List.mem_cons, List.not_mem_nil, or_false] at hr
      rcases hr with rfl
      · simp at e
    · intro tr act w' hm hout hsz hd hG hk hub
      have h3 := hd ⟨3, .data⟩ (by simp) rfl _ rfl
      refine jg_call (args := #[.int .i64 n2, .int .i64 4]) (by rfl) rfl (wanted_none rfl) (by rw [ex_callF rfl Try.func14 (by kernel_rfl) (by kernel_rfl)]; exact congrArg (fun z => Result.ok (Next.enter _ z) _) (by simp only [List.map_toArray, List.map_cons, List.map_nil, show act.eval (.tmp 19) = _ from h3]; try rfl)) (Within_any n2 4 (by decide) (by decide) H2.out _) ?_
      rintro e w2 ⟨rfl, rfl⟩
      exact ⟨_, rfl, Mod.refl _ _, rfl⟩
  · refine ⟨fun r hr e => ?_, fun r hr e => ?_, fun hno => ?_⟩
    · simp only [List.mem_cons, List.not_mem_nil, or_false] at hr
      rcases hr with rfl
      · simp at e
    · simp only [List.mem_cons, List.not_mem_nil, or_false] at hr
      rcases hr with rfl
      · simp at e
    · intro tr act w' hm hout hsz hd hG hk hub
      have h4 := hd ⟨4, .data⟩ (by simp) rfl _ rfl
      refine jg_run (by rfl) rfl (wanted_none rfl) (ex_bin rfl h4 rfl (guard_ints _ _ _ _ _ _) (run_sub_i _ _ Try.underlying3)) (Mod.refl _ _) ?_
      exact congrArg (Value.int .i64) (IntWalk.i64_in _ (by have := within_range n2 4 (by decide); omega))
  · refine ⟨fun r hr e => ?_, fun r hr e => ?_, fun hno => ?_⟩
    · simp only [List.mem_cons, List.not_mem_nil, or_false] at hr
      rcases hr with rfl
      · simp at e
    · simp only [List.mem_cons, List.not_mem_nil, or_false] at hr
      rcases hr with rfl
      · simp at e
    · intro tr act w' hm hout hsz hd hG hk hub
      have h2 := hd ⟨2, .data⟩ (by simp) rfl _ rfl
      have h5 := hd ⟨5, .data⟩ (by simp) rfl _ rfl
      exact jg_run (by rfl) rfl (wanted_none rfl) (ex_build rfl (z := [.int .i64 0, .int .i64 0]) (places := [(0, 1), (1, 1)]) (by kernel_rfl) (parts := [(0, .int .i64 (within n1 8 - 1)), (1, .int .i64 (within n2 4 - 1))]) (by simp only [List.map_toArray, List.map_cons, List.map_nil, show act.eval (.tmp 18) = _ from h2, show act.eval (.tmp 21) = _ from h5]; try rfl) (r := [.int .i64 (within n1 8 - 1), .int .i64 (within n2 4 - 1)]) (by rfl)) (Mod.refl _ _) rfl
  · refine ⟨fun r hr e => ?_, fun r hr e => ?_, fun hno => ?_⟩
    · simp only [List.mem_cons, List.not_mem_nil, or_false] at hr
      rcases hr with rfl
      · simp at e
    · simp only [List.mem_cons, List.not_mem_nil, or_false] at hr
      rcases hr with rfl
      · simp at e
    · intro tr act w' hm hout hsz hd hG hk hub
      exact jg_run (by rfl) rfl (wanted_none rfl) (ex_move rfl ((hout 3 (by decide)).trans oe3)) (Mod.refl _ _) rfl
  · refine ⟨fun r hr e => ?_, fun r hr e => ?_, fun hno => ?_⟩
    · simp only [List.mem_cons, List.not_mem_nil, or_false] at hr
      rcases hr with rfl
      · simp at e
    · simp only [List.mem_cons, List.not_mem_nil, or_false] at hr
      rcases hr with rfl
      · simp at e
    · intro tr act w' hm hout hsz hd hG hk hub
      have h7 := hd ⟨7, .data⟩ (by simp) rfl _ rfl
      refine jg_call (args := #[.int .i64 n3, .int .i64 4]) (by rfl) rfl (wanted_none rfl) (by rw [ex_callF rfl Try.func14 (by kernel_rfl) (by kernel_rfl)]; exact congrArg (fun z => Result.ok (Next.enter _ z) _) (by simp only [List.map_toArray, List.map_cons, List.map_nil, show act.eval (.tmp 23) = _ from h7]; try rfl)) (Within_any n3 4 (by decide) (by decide) H3.out _) ?_
      rintro e w2 ⟨rfl, rfl⟩
      exact ⟨_, rfl, Mod.refl _ _, rfl⟩
  · refine ⟨fun r hr e => ?_, fun r hr e => ?_, fun hno => ?_⟩
    · simp only [List.mem_cons, List.not_mem_nil, or_false] at hr
      rcases hr with rfl
      · simp at e
    · simp only [List.mem_cons, List.not_mem_nil, or_false] at hr
      rcases hr with rfl
      · simp at e
    · intro tr act w' hm hout hsz hd hG hk hub
      have h8 := hd ⟨8, .data⟩ (by simp) rfl _ rfl
      refine jg_run (by rfl) rfl (wanted_none rfl) (ex_bin rfl h8 rfl (guard_ints _ _ _ _ _ _) (run_sub_i _ _ Try.underlying3)) (Mod.refl _ _) ?_
      exact congrArg (Value.int .i64) (IntWalk.i64_in _ (by have := within_range n3 4 (by decide); omega))
  · refine ⟨fun r hr e => ?_, fun r hr e => ?_, fun hno => ?_⟩
    · simp only [List.mem_cons, List.not_mem_nil, or_false] at hr
      rcases hr with rfl
      · simp at e
    · simp only [List.mem_cons, List.not_mem_nil, or_false] at hr
      rcases hr with rfl
      · simp at e
    · intro tr act w' hm hout hsz hd hG hk hub
      have h6 := hd ⟨6, .data⟩ (by simp) rfl _ rfl
      have h9 := hd ⟨9, .data⟩ (by simp) rfl _ rfl
      exact jg_run (by rfl) rfl (wanted_none rfl) (ex_build rfl (z := [.int .i64 0, .int .i64 0, .int .u8 0, .int .u8 0, .int .u8 0, .int .u8 0, .int .u8 0, .int .u8 0, .int .u8 0, .int .u8 0, .int .u8 0, .int .u8 0, .int .u8 0, .int .u8 0, .int .u8 0, .int .u8 0, .int .u8 0, .int .u8 0, .int .u8 0, .int .u8 0, .int .u8 0, .int .u8 0, .int .u8 0, .int .u8 0, .int .u8 0, .int .u8 0, .int .u8 0, .int .u8 0, .int .u8 0, .int .u8 0, .int .u8 0, .int .u8 0, .int .u8 0, .int .u8 0, .int .i64 0, .int .i64 0, .int .i64 0]) (places := [(0, 2), (2, 32), (34, 1), (35, 2)]) (by kernel_rfl) (parts := [(0, .agg #[.int .i64 (within n1 8 - 1), .int .i64 (within n2 4 - 1)]), (2, .int .i64 (within n3 4 - 1))]) (by simp only [List.map_toArray, List.map_cons, List.map_nil, show act.eval (.tmp 22) = _ from h6, show act.eval (.tmp 25) = _ from h9]; try rfl) (r := Cm.cells (⟨within n1 8 - 1, within n2 4 - 1, (List.replicate 32 (0 : Int)), within n3 4 - 1, 0, 0⟩)) (by rfl)) (Mod.refl _ _) rfl
  · refine ⟨fun r hr e => ?_, fun r hr e => ?_, fun hno => ?_⟩
    · simp only [List.mem_cons, List.not_mem_nil, or_false] at hr
      rcases hr with rfl
      · exact ⟨rfl, rfl, by kernel_rfl, (by rw [Cm.len (by simp)]; rfl), (Cm.one _), (by rw [Cm.len (by simp)]; exact size_commit)⟩
    · simp only [List.mem_cons, List.not_mem_nil, or_false] at hr
      rcases hr with rfl
      · simp at e
    · exact absurd rfl (hno ⟨11, 12, 32, [.int .i64 0, .int .i64 0, .int .u8 0, .int .u8 0, .int .u8 0, .int .u8 0, .int .u8 0, .int .u8 0, .int .u8 0, .int .u8 0, .int .u8 0, .int .u8 0, .int .u8 0, .int .u8 0, .int .u8 0, .int .u8 0, .int .u8 0, .int .u8 0, .int .u8 0, .int .u8 0, .int .u8 0, .int .u8 0, .int .u8 0, .int .u8 0, .int .u8 0, .int .u8 0, .int .u8 0, .int .u8 0, .int .u8 0, .int .u8 0, .int .u8 0, .int .u8 0, .int .u8 0, .int .u8 0, .int .i64 0, .int .i64 0, .int .i64 0], Cm.cells (⟨within n1 8 - 1, within n2 4 - 1, (List.replicate 32 (0 : Int)), within n3 4 - 1, 0, 0⟩)⟩ (by simp)).1
  · refine ⟨fun r hr e => ?_, fun r hr e => ?_, fun hno => ?_⟩
    · simp only [List.mem_cons, List.not_mem_nil, or_false] at hr
      rcases hr with rfl
      · simp at e
    · simp only [List.mem_cons, List.not_mem_nil, or_false] at hr
      rcases hr with rfl
      · refine ⟨rfl, _, (.tmp 26), rfl, by decide, rfl, by kernel_rfl, by kernel_rfl, fun tr act w' hm hout hd hG => ?_⟩
        have h10 := hd ⟨10, .data⟩ (by simp) rfl _ rfl
        rw [show act.eval ((.tmp 26)) = _ from h10]
        rfl
    · exact absurd rfl (hno ⟨11, 12, 32, [.int .i64 0, .int .i64 0, .int .u8 0, .int .u8 0, .int .u8 0, .int .u8 0, .int .u8 0, .int .u8 0, .int .u8 0, .int .u8 0, .int .u8 0, .int .u8 0, .int .u8 0, .int .u8 0, .int .u8 0, .int .u8 0, .int .u8 0, .int .u8 0, .int .u8 0, .int .u8 0, .int .u8 0, .int .u8 0, .int .u8 0, .int .u8 0, .int .u8 0, .int .u8 0, .int .u8 0, .int .u8 0, .int .u8 0, .int .u8 0, .int .u8 0, .int .u8 0, .int .u8 0, .int .u8 0, .int .i64 0, .int .i64 0, .int .i64 0], Cm.cells (⟨within n1 8 - 1, within n2 4 - 1, (List.replicate 32 (0 : Int)), within n3 4 - 1, 0, 0⟩)⟩ (by simp)).2
  intro vs tr w3 hl htl hm hG hV hAL hNE
  obtain ⟨v0, vs0, rfl, hl0⟩ := list_cons hl
  obtain ⟨v1, vs1, rfl, hl1⟩ := list_cons hl0
  obtain ⟨v2, vs2, rfl, hl2⟩ := list_cons hl1
  obtain ⟨v3, vs3, rfl, hl3⟩ := list_cons hl2
  obtain ⟨v4, vs4, rfl, hl4⟩ := list_cons hl3
  obtain ⟨v5, vs5, rfl, hl5⟩ := list_cons hl4
  obtain ⟨v6, vs6, rfl, hl6⟩ := list_cons hl5
  obtain ⟨v7, vs7, rfl, hl7⟩ := list_cons hl6
  obtain ⟨v8, vs8, rfl, hl8⟩ := list_cons hl7
  obtain ⟨v9, vs9, rfl, hl9⟩ := list_cons hl8
  obtain ⟨v10, vs10, rfl, hl10⟩ := list_cons hl9
  obtain ⟨v11, vs11, rfl, hl11⟩ := list_cons hl10
  obtain ⟨v12, vs12, rfl, hl12⟩ := list_cons hl11
  obtain rfl := list_nil hl12
  obtain ⟨q1, fq1, hqB1, hqC1⟩ := hAL _ (by simp only [List.mem_cons, List.not_mem_nil, or_false]; trivial)
  obtain rfl : v11 = _ := Option.some.inj fq1
  clear hl hl0 hl1 hl2 hl3 hl4 hl5 hl6 hl7 hl8 hl9 hl10 hl11 hl12
  have ha0 := HA0.out
  subst ha0
  clear HA0 hV hsz0 oe1 oe2 oe3
  simp only [putAll, Act.put, List.setIfInBounds_toArray, List.set_cons_zero, List.set_cons_succ, List.set_nil]
  have KF := Lib.hid (KF2.out.mod hm (by omega))
  have KM := Lib.hid (KM2.out.trans hm (fun k h1 h2 => by omega))
  have hqn : ¬ q0 = q1 := by omega
  have hqw : w.heap.size ≤ q1 := by have := KM2.out.size; omega
  obtain ⟨c, hc⟩ : ∃ c : Cm, c = ⟨within n1 8 - 1, within n2 4 - 1, (List.replicate 32 (0 : Int)), within n3 4 - 1, 0, 0⟩ := ⟨_, rfl⟩
  have KX := Lib.hid (show Cs w3 q1 c.cells.toArray 32 by rw [hc]; exact hqC1)
  have hw1 := within_range n1 8 (by decide)
  have hw2 := within_range n2 4 (by decide)
  have hw3 := within_range n3 4 (by decide)
  have HCO := Lib.hid (show c.OK by rw [hc]; exact ⟨⟨⟨by dsimp only; omega, by dsimp only; omega⟩, ⟨by dsimp only; omega, by dsimp only; omega⟩, ⟨by dsimp only; omega, by dsimp only; omega⟩, ⟨by dsimp only; omega, by dsimp only; omega⟩, ⟨by dsimp only; omega, by dsimp only; omega⟩⟩, by simp, fun y hy => by rw [List.eq_of_mem_replicate hy]; decide⟩)
  have HCL := Lib.hid (show -1 ≤ c.cl ∧ c.cl ≤ 10 by rw [hc]; exact ⟨by show -1 ≤ within n1 8 - 1; omega, by show within n1 8 - 1 ≤ 10; omega⟩)
  clear hm hG hAL hNE hqC1 fq1 KF2 KM2 hw1 hw2 hw3 hc zq0 hqB0 hqB1
  go_upto_region 3 with (fail)
  generalize ha0 : Act.mk _ _ = a0
  have oe2 : a0.eval (.tmp 2) = .int .i64 n2 := by rw [← ha0]; rfl
  have oe3 : a0.eval (.tmp 3) = .int .i64 n3 := by rw [← ha0]; rfl
  have hsz0 : a0.tmps.size = 84 := by rw [← ha0]; rfl
  have HA0 := Lib.hid ha0
  clear ha0
  refine wp_region_G 84 hsz0 (by kernel_rfl) (by kernel_rfl) [27, 28, 29] (by kernel_rfl) (by decide) (fun _ => False) (fun _ _ => False) (fun _ _ h => h) Still (fun _ _ _ h => h) (fun _ _ _ hm h => hm.trans h (fun _ _ h => h.elim)) [gi (.int .i64 n2), gi (.int .i64 (n2.tmod 5)), gi (.bool (n2.tmod 5 == 4))] ⟨gi_stable, gi_stable, gi_stable, trivial⟩ [] (by kernel_rfl) (by decide) (by kernel_rfl) (fun _ _ => True) (fun _ _ _ _ _ => trivial) trivial ⟨?_, ?_, ?_, trivial⟩ ?_
  · intro tr act w' hm hout hsz hd hG hk hub
    exact jg_run (by rfl) rfl (wanted_none rfl) (ex_move rfl ((hout 2 (by decide)).trans oe2)) (Mod.refl _ _) rfl
  · intro tr act w' hm hout hsz hd hG hk hub
    have h0 := hd ⟨0, .data⟩ (by simp) rfl _ rfl
    exact jg_run (by rfl) rfl (wanted_none rfl) (ex_bin rfl h0 rfl (guard_ints _ _ _ _ _ _) (run_rem5 n2 Try.underlying3)) (Mod.refl _ _) rfl
  · intro tr act w' hm hout hsz hd hG hk hub
    have h1 := hd ⟨1, .data⟩ (by simp) rfl _ rfl
    exact jg_run (by rfl) rfl (wanted_none rfl) (ex_bin rfl h1 rfl (guard_ints _ _ _ _ _ _) (run_eql_i _ _ _ Try.underlying3)) (Mod.refl _ _) rfl
  intro vs tr xa hl htl hm hG hV
  obtain ⟨v0x, vs0, rfl, hl0⟩ := list_cons hl
  obtain ⟨v1x, vs1, rfl, hl1⟩ := list_cons hl0
  obtain ⟨v2x, vs2, rfl, hl2⟩ := list_cons hl1
  obtain rfl := list_nil hl2
  clear hl hl0 hl1 hl2
  obtain rfl : v2x = .bool (n2.tmod 5 == 4) := hV 2 _ rfl
  have ha0 := HA0.out
  subst ha0
  clear HA0 hV hsz0 oe2 oe3
  simp only [putAll, Act.put, List.setIfInBounds_toArray, List.set_cons_zero, List.set_cons_succ, List.set_nil]
  have k1 := Lib.hid (KX.out.mod hm (fun h => h))
  have k2 := Lib.hid (KF.out.mod hm (fun h => h))
  have k3 := Lib.hid (KM.out.trans hm (fun _ _ h => h))
  clear hm hG KX KF KM htl
  go_upto_if 29 with (fail)
  go_cut [] from 29 (fun w' => ∃ c : Cm, c.OK ∧ -1 ≤ c.cl ∧ c.cl ≤ 10 ∧ Cs w' q1 c.cells.toArray 32 ∧ Cs w' q0 #[.int .i64 1, .int .i64 (1 + within n0 5)] 24 ∧ Mod (fun _ => False) w w')
  case first =>
    cases ht : (n2.tmod 5 == 4) with
    | false => clear ht; go_wp2_with fail; go_meet; case rel => exact ⟨c, HCO.out, HCL.out.1, HCL.out.2, k1.out, k2.out, k3.out⟩
    | true =>
      clear ht
      have KX := Lib.hid (show ByLen (ResSt q1 32 c.cells (Cm.cells { c with sq := 1048575 + within n2 3 })) [] xa from k1.out)
      go_upto_region 4 with (fail)
      generalize ha0 : Act.mk _ _ = a0
      have oe2 : a0.eval (.tmp 2) = .int .i64 n2 := by rw [← ha0]; rfl
      have oe3 : a0.eval (.tmp 3) = .int .i64 n3 := by rw [← ha0]; rfl
      have oe10 : a0.eval (.tmp 10) = .pointer (some ⟨q1, 0, none⟩) := by rw [← ha0]; rfl
      have hsz0 : a0.tmps.size = 84 := by rw [← ha0]; rfl
      have HA0 := Lib.hid ha0
      clear ha0
      refine wp_region_G 84 hsz0 (by kernel_rfl) (by kernel_rfl) [30, 31, 32, 33, 34, 89] (by kernel_rfl) (by decide) (fun j => j = q1) (fun _ j => j = q1) (fun _ _ h => h) Still (fun _ _ _ h => h) (fun _ _ _ hm h => hm.trans h (fun _ _ h => h.elim)) [gi (.int .i64 n2), gi (.int .i64 (within n2 3)), gi (.int .i64 (1048575 + within n2 3)), gi (.pointer (some ⟨q1, 0, none⟩)), gi (.pointer (some ⟨q1, 1, none⟩)), ga] ⟨gi_stable, gi_stable, gi_stable, gi_stable, gi_stable, ga_stable, trivial⟩ [5] (by kernel_rfl) (by decide) (by kernel_rfl) (ByLen (ResSt q1 32 c.cells (Cm.cells { c with sq := 1048575 + within n2 3 }))) (ByLen.still ResSt_still) KX.out ⟨?_, ?_, ?_, ?_, ?_, ?_, trivial⟩ ?_
      · intro tr act w' hm hout hsz hd hG hk hub
        exact jg_run (by rfl) rfl (wanted_none rfl) (ex_move rfl ((hout 2 (by decide)).trans oe2)) (Mod.refl _ _) rfl
      · intro tr act w' hm hout hsz hd hG hk hub
        have h0 := hd ⟨0, .data⟩ (by simp) rfl _ rfl
        refine jg_call (args := #[.int .i64 n2, .int .i64 3]) (by rfl) rfl (wanted_none rfl) (by rw [ex_callF rfl Try.func14 (by kernel_rfl) (by kernel_rfl)]; exact congrArg (fun z => Result.ok (Next.enter _ z) _) (by simp only [List.map_toArray, List.map_cons, List.map_nil, show act.eval (.tmp 30) = _ from h0]; try rfl)) (Within_any n2 3 (by decide) (by decide) H2.out _) ?_
        rintro e w2 ⟨rfl, rfl⟩
        exact ⟨_, rfl, Mod.refl _ _, rfl⟩
      · intro tr act w' hm hout hsz hd hG hk hub
        have h1 := hd ⟨1, .data⟩ (by simp) rfl _ rfl
        refine jg_run (by rfl) rfl (wanted_none rfl) (ex_bin rfl rfl h1 (guard_ints _ _ _ _ _ _) (run_add_i _ _ Try.underlying3)) (Mod.refl _ _) ?_
        exact congrArg (Value.int .i64) (IntWalk.i64_in _ (by have := within_range n2 3 (by decide); omega))
      · intro tr act w' hm hout hsz hd hG hk hub
        refine jg_run (by rfl) rfl (wanted_none rfl) (ex_field rfl Try.underlying32 rfl (by kernel_rfl) ((hout 10 (by decide)).trans oe10)) (Mod.refl _ _) ?_
        rfl
      · intro tr act w' hm hout hsz hd hG hk hub
        have h3 := hd ⟨3, .data⟩ (by simp) rfl _ rfl
        refine jg_run (by rfl) rfl (wanted_none rfl) (ex_field rfl Try.underlying26 rfl (by kernel_rfl) h3) (Mod.refl _ _) ?_
        rfl
      · intro tr act w' hm hout hsz hd hG hk hub
        have h2 := hd ⟨2, .data⟩ (by simp) rfl _ rfl
        have h4 := hd ⟨4, .data⟩ (by simp) rfl _ rfl
        have hl := hk 0 rfl
        refine jc_turn (by rfl) rfl (wanted_none rfl) (ex_storeA rfl (hG.at hl) (off := 1) (vs := [.int .i64 (1048575 + within n2 3)]) (by kernel_rfl) (by intro u hu; simp at hu; rw [hu]; rfl) (by simp [Cm.len HCO.out.2.1]) h4 (by rw [show act.eval (.tmp 32) = _ from h2]; rfl)) setRow_Mod trivial (ByLen.on hl ?_)
        rw [lay_sq _ _ HCO.out.2.1]
        exact setRow_Cs (hG.at hl)
      intro vs tr xb hl htl hm hG hV
      obtain ⟨v0xt, vs0, rfl, hl0⟩ := list_cons hl
      obtain ⟨v1xt, vs1, rfl, hl1⟩ := list_cons hl0
      obtain ⟨v2xt, vs2, rfl, hl2⟩ := list_cons hl1
      obtain ⟨v3xt, vs3, rfl, hl3⟩ := list_cons hl2
      obtain ⟨v4xt, vs4, rfl, hl4⟩ := list_cons hl3
      obtain ⟨v5xt, vs5, rfl, hl5⟩ := list_cons hl4
      obtain rfl := list_nil hl5
      clear hl hl0 hl1 hl2 hl3 hl4 hl5
      have ha0 := HA0.out
      subst ha0
      clear HA0 hV hsz0 oe2 oe3 oe10
      simp only [putAll, Act.put, List.setIfInBounds_toArray, List.set_cons_zero, List.set_cons_succ, List.set_nil]
      have k4 := hG.at htl
      have k5 := k2.out.mod hm (by omega)
      have k6 := k3.out.trans hm (fun k h1 h2 => by omega)
      clear hm hG htl
      have hwr := within_range n2 3 (by decide)
      have hok : (Cm.mk c.cl (1048575 + within n2 3) c.h c.ln c.sb c.mr).OK := ⟨⟨HCO.out.1.1, ⟨by dsimp only; omega, by dsimp only; omega⟩, HCO.out.1.2.2.1, HCO.out.1.2.2.2⟩, HCO.out.2⟩
      have HOK := Lib.hid hok
      clear hwr hok
      go_wp2_with fail
      go_meet
      case rel => exact ⟨_, HOK.out, HCL.out.1, HCL.out.2, k4, k5, k6⟩
  case rest =>
    obtain ⟨w4, rfl⟩ : ∃ x, x = wc := ⟨_, rfl⟩
    obtain ⟨c, hok, hcl1, hcl2, hx, hf, hmm⟩ := hcut
    have HCO := Lib.hid hok
    have HCL := Lib.hid (⟨hcl1, hcl2⟩ : -1 ≤ c.cl ∧ c.cl ≤ 10)
    have KX := Lib.hid hx
    have KF := Lib.hid hf
    have KM := Lib.hid hmm
    clear hok hcl1 hcl2 hx hf hmm
    go_upto_region 5 with (fail)
    generalize ha0 : Act.mk _ _ = a0
    have oe2 : a0.eval (.tmp 2) = .int .i64 n2 := by rw [← ha0]; rfl
    have oe3 : a0.eval (.tmp 3) = .int .i64 n3 := by rw [← ha0]; rfl
    have hsz0 : a0.tmps.size = 84 := by rw [← ha0]; rfl
    have HA0 := Lib.hid ha0
    clear ha0
    refine wp_region_G 84 hsz0 (by kernel_rfl) (by kernel_rfl) [35, 36, 37] (by kernel_rfl) (by decide) (fun _ => False) (fun _ _ => False) (fun _ _ h => h) Still (fun _ _ _ h => h) (fun _ _ _ hm h => hm.trans h (fun _ _ h => h.elim)) [gi (.int .i64 n3), gi (.int .i64 (n3.tmod 5)), gi (.bool (n3.tmod 5 == 4))] ⟨gi_stable, gi_stable, gi_stable, trivial⟩ [] (by kernel_rfl) (by decide) (by kernel_rfl) (fun _ _ => True) (fun _ _ _ _ _ => trivial) trivial ⟨?_, ?_, ?_, trivial⟩ ?_
    · intro tr act w' hm hout hsz hd hG hk hub
      exact jg_run (by rfl) rfl (wanted_none rfl) (ex_move rfl ((hout 3 (by decide)).trans oe3)) (Mod.refl _ _) rfl
    · intro tr act w' hm hout hsz hd hG hk hub
      have h0 := hd ⟨0, .data⟩ (by simp) rfl _ rfl
      exact jg_run (by rfl) rfl (wanted_none rfl) (ex_bin rfl h0 rfl (guard_ints _ _ _ _ _ _) (run_rem5 n3 Try.underlying3)) (Mod.refl _ _) rfl
    · intro tr act w' hm hout hsz hd hG hk hub
      have h1 := hd ⟨1, .data⟩ (by simp) rfl _ rfl
      exact jg_run (by rfl) rfl (wanted_none rfl) (ex_bin rfl h1 rfl (guard_ints _ _ _ _ _ _) (run_eql_i _ _ _ Try.underlying3)) (Mod.refl _ _) rfl
    intro vs tr ya hl htl hm hG hV
    obtain ⟨v0y, vs0, rfl, hl0⟩ := list_cons hl
    obtain ⟨v1y, vs1, rfl, hl1⟩ := list_cons hl0
    obtain ⟨v2y, vs2, rfl, hl2⟩ := list_cons hl1
    obtain rfl := list_nil hl2
    clear hl hl0 hl1 hl2
    obtain rfl : v2y = .bool (n3.tmod 5 == 4) := hV 2 _ rfl
    have ha0 := HA0.out
    subst ha0
    clear HA0 hV hsz0 oe2 oe3
    simp only [putAll, Act.put, List.setIfInBounds_toArray, List.set_cons_zero, List.set_cons_succ, List.set_nil]
    have k1 := Lib.hid (KX.out.mod hm (fun h => h))
    have k2 := Lib.hid (KF.out.mod hm (fun h => h))
    have k3 := Lib.hid (KM.out.trans hm (fun _ _ h => h))
    clear hm hG KX KF KM htl
    go_upto_if 37 with (fail)
    go_cut [] from 37 (fun w' => ∃ c : Cm, c.OK ∧ -1 ≤ c.cl ∧ c.cl ≤ 10 ∧ Cs w' q1 c.cells.toArray 32 ∧ Cs w' q0 #[.int .i64 1, .int .i64 (1 + within n0 5)] 24 ∧ Mod (fun _ => False) w w')
    case first =>
      cases ht : (n3.tmod 5 == 4) with
      | false => clear ht; go_wp2_with fail; go_meet; case rel => exact ⟨c, HCO.out, HCL.out.1, HCL.out.2, k1.out, k2.out, k3.out⟩
      | true =>
        clear ht
        have KX := Lib.hid (show ByLen (ResSt q1 32 c.cells (Cm.cells { c with ln := 255 + within n3 3 })) [] ya from k1.out)
        go_upto_region 6 with (fail)
        generalize ha0 : Act.mk _ _ = a0
        have oe2 : a0.eval (.tmp 2) = .int .i64 n2 := by rw [← ha0]; rfl
        have oe3 : a0.eval (.tmp 3) = .int .i64 n3 := by rw [← ha0]; rfl
        have oe10 : a0.eval (.tmp 10) = .pointer (some ⟨q1, 0, none⟩) := by rw [← ha0]; rfl
        have hsz0 : a0.tmps.size = 84 := by rw [← ha0]; rfl
        have HA0 := Lib.hid ha0
        clear ha0
        refine wp_region_G 84 hsz0 (by kernel_rfl) (by kernel_rfl) [38, 39, 40, 41, 88] (by kernel_rfl) (by decide) (fun j => j = q1) (fun _ j => j = q1) (fun _ _ h => h) Still (fun _ _ _ h => h) (fun _ _ _ hm h => hm.trans h (fun _ _ h => h.elim)) [gi (.int .i64 n3), gi (.int .i64 (within n3 3)), gi (.int .i64 (255 + within n3 3)), gi (.pointer (some ⟨q1, 34, none⟩)), ga] ⟨gi_stable, gi_stable, gi_stable, gi_stable, ga_stable, trivial⟩ [4] (by kernel_rfl) (by decide) (by kernel_rfl) (ByLen (ResSt q1 32 c.cells (Cm.cells { c with ln := 255 + within n3 3 }))) (ByLen.still ResSt_still) KX.out ⟨?_, ?_, ?_, ?_, ?_, trivial⟩ ?_
        · intro tr act w' hm hout hsz hd hG hk hub
          exact jg_run (by rfl) rfl (wanted_none rfl) (ex_move rfl ((hout 3 (by decide)).trans oe3)) (Mod.refl _ _) rfl
        · intro tr act w' hm hout hsz hd hG hk hub
          have h0 := hd ⟨0, .data⟩ (by simp) rfl _ rfl
          refine jg_call (args := #[.int .i64 n3, .int .i64 3]) (by rfl) rfl (wanted_none rfl) (by rw [ex_callF rfl Try.func14 (by kernel_rfl) (by kernel_rfl)]; exact congrArg (fun z => Result.ok (Next.enter _ z) _) (by simp only [List.map_toArray, List.map_cons, List.map_nil, show act.eval (.tmp 38) = _ from h0]; try rfl)) (Within_any n3 3 (by decide) (by decide) H3.out _) ?_
          rintro e w2 ⟨rfl, rfl⟩
          exact ⟨_, rfl, Mod.refl _ _, rfl⟩
        · intro tr act w' hm hout hsz hd hG hk hub
          have h1 := hd ⟨1, .data⟩ (by simp) rfl _ rfl
          refine jg_run (by rfl) rfl (wanted_none rfl) (ex_bin rfl rfl h1 (guard_ints _ _ _ _ _ _) (run_add_i _ _ Try.underlying3)) (Mod.refl _ _) ?_
          exact congrArg (Value.int .i64) (IntWalk.i64_in _ (by have := within_range n3 3 (by decide); omega))
        · intro tr act w' hm hout hsz hd hG hk hub
          refine jg_run (by rfl) rfl (wanted_none rfl) (ex_field rfl Try.underlying32 rfl (by kernel_rfl) ((hout 10 (by decide)).trans oe10)) (Mod.refl _ _) ?_
          rfl
        · intro tr act w' hm hout hsz hd hG hk hub
          have h2 := hd ⟨2, .data⟩ (by simp) rfl _ rfl
          have h3 := hd ⟨3, .data⟩ (by simp) rfl _ rfl
          have hl := hk 0 rfl
          refine jc_turn (by rfl) rfl (wanted_none rfl) (ex_storeA rfl (hG.at hl) (off := 34) (vs := [.int .i64 (255 + within n3 3)]) (by kernel_rfl) (by intro u hu; simp at hu; rw [hu]; rfl) (by simp [Cm.len HCO.out.2.1]) h3 (by rw [show act.eval (.tmp 40) = _ from h2]; rfl)) setRow_Mod trivial (ByLen.on hl ?_)
          rw [lay_ln _ _ HCO.out.2.1]
          exact setRow_Cs (hG.at hl)
        intro vs tr yb hl htl hm hG hV
        obtain ⟨v0yt, vs0, rfl, hl0⟩ := list_cons hl
        obtain ⟨v1yt, vs1, rfl, hl1⟩ := list_cons hl0
        obtain ⟨v2yt, vs2, rfl, hl2⟩ := list_cons hl1
        obtain ⟨v3yt, vs3, rfl, hl3⟩ := list_cons hl2
        obtain ⟨v4yt, vs4, rfl, hl4⟩ := list_cons hl3
        obtain rfl := list_nil hl4
        clear hl hl0 hl1 hl2 hl3 hl4
        have ha0 := HA0.out
        subst ha0
        clear HA0 hV hsz0 oe2 oe3 oe10
        simp only [putAll, Act.put, List.setIfInBounds_toArray, List.set_cons_zero, List.set_cons_succ, List.set_nil]
        have k4 := hG.at htl
        have k5 := k2.out.mod hm (by omega)
        have k6 := k3.out.trans hm (fun k h1 h2 => by omega)
        clear hm hG htl
        have hwr := within_range n3 3 (by decide)
        have hok : (Cm.mk c.cl c.sq c.h (255 + within n3 3) c.sb c.mr).OK := ⟨⟨HCO.out.1.1, HCO.out.1.2.1, ⟨by dsimp only; omega, by dsimp only; omega⟩, HCO.out.1.2.2.2⟩, HCO.out.2⟩
        have HOK := Lib.hid hok
        clear hwr hok
        go_wp2_with fail
        go_meet
        case rel => exact ⟨_, HOK.out, HCL.out.1, HCL.out.2, k4, k5, k6⟩
    case rest =>
      obtain ⟨w5, rfl⟩ : ∃ x, x = wc := ⟨_, rfl⟩
      obtain ⟨c, hok, hcl1, hcl2, hx, hf, hmm⟩ := hcut
      have HCO := Lib.hid hok
      have HCL := Lib.hid (⟨hcl1, hcl2⟩ : -1 ≤ c.cl ∧ c.cl ≤ 10)
      have KX := Lib.hid hx
      have KF := Lib.hid hf
      have KM := Lib.hid hmm
      clear hok hcl1 hcl2 hx hf hmm
      obtain ⟨k, hk⟩ : ∃ k, k = 1 + within n0 5 := ⟨_, rfl⟩
      rw [← hk] at KF
      clear hk
      by_cases c0 : 0 ≤ c.cl
      · have E0 := Lib.hid (decide_eq_true c0)
        clear c0
        by_cases c1 : c.cl < k
        · have E1 := Lib.hid (decide_eq_true c1)
          clear c1
          by_cases c2 : 1 ≤ c.sq
          · have E2 := Lib.hid (decide_eq_true c2)
            clear c2
            by_cases c3 : c.sq ≤ 1048576
            · have E3 := Lib.hid (decide_eq_true c3)
              clear c3
              by_cases c4 : 0 ≤ c.ln
              · have E4 := Lib.hid (decide_eq_true c4)
                clear c4
                by_cases c5 : c.ln ≤ 256
                · have E5 := Lib.hid (decide_eq_true c5)
                  clear c5
                  have EV := Lib.hid (show validF k c = true by unfold validF; simp only [E0.out, E1.out, E2.out, E3.out, E4.out, E5.out, Bool.false_and, Bool.true_and] <;> rfl)
                  go_upto_region 7 with (fail)
                  generalize ha0 : Act.mk _ _ = a0
                  have oe9 : a0.eval (.tmp 9) = .pointer (some ⟨q0, 0, none⟩) := by rw [← ha0]; rfl
                  have oe10 : a0.eval (.tmp 10) = .pointer (some ⟨q1, 0, none⟩) := by rw [← ha0]; rfl
                  have hsz0 : a0.tmps.size = 84 := by rw [← ha0]; rfl
                  have HA0 := Lib.hid ha0
                  clear ha0
                  refine wp_region_G 84 hsz0 (by kernel_rfl) (by kernel_rfl) [42, 43, 44, 45, 46, 47, 48, 49, 50, 51, 52, 53, 54, 55, 56, 57, 58, 59, 60, 61, 62, 63, 64, 65, 66, 67, 68, 69, 70, 71, 72, 73, 74, 75, 11] (by kernel_rfl) (by decide) (fun _ => False) (fun _ _ => False) (fun _ _ h => h) Still (fun _ _ _ h => h) (fun _ _ _ hm h => hm.trans h (fun _ _ h => h.elim)) [gi (.pointer (some ⟨q1, 0, none⟩)), gi (.pointer (some ⟨q1, 0, none⟩)), gi (.int .i64 c.cl), gi (.bool true), gi (.bool true), gi (.pointer (some ⟨q1, 0, none⟩)), gi (.pointer (some ⟨q1, 0, none⟩)), gi (.int .i64 c.cl), gi (.pointer (some ⟨q0, 1, none⟩)), gi (.int .i64 k), gi (.bool true), gi (.bool true), gi (.bool true), gi (.pointer (some ⟨q1, 0, none⟩)), gi (.pointer (some ⟨q1, 1, none⟩)), gi (.int .i64 c.sq), gi (.bool true), gi (.bool true), gi (.bool true), gi (.pointer (some ⟨q1, 0, none⟩)), gi (.pointer (some ⟨q1, 1, none⟩)), gi (.int .i64 c.sq), gi (.bool true), gi (.bool true), gi (.bool true), gi (.pointer (some ⟨q1, 34, none⟩)), gi (.int .i64 c.ln), gi (.bool true), gi (.bool true), gi (.bool true), gi (.pointer (some ⟨q1, 34, none⟩)), gi (.int .i64 c.ln), gi (.bool true), gi (.bool true), gi (.bool true)] ⟨gi_stable, gi_stable, gi_stable, gi_stable, gi_stable, gi_stable, gi_stable, gi_stable, gi_stable, gi_stable, gi_stable, gi_stable, gi_stable, gi_stable, gi_stable, gi_stable, gi_stable, gi_stable, gi_stable, gi_stable, gi_stable, gi_stable, gi_stable, gi_stable, gi_stable, gi_stable, gi_stable, gi_stable, gi_stable, gi_stable, gi_stable, gi_stable, gi_stable, gi_stable, gi_stable, trivial⟩ [] (by kernel_rfl) (by decide) (by kernel_rfl) (fun _ _ => True) (fun _ _ _ _ _ => trivial) trivial ⟨?_, ?_, ?_, ?_, ?_, ?_, ?_, ?_, ?_, ?_, ?_, ?_, ?_, ?_, ?_, ?_, ?_, ?_, ?_, ?_, ?_, ?_, ?_, ?_, ?_, ?_, ?_, ?_, ?_, ?_, ?_, ?_, ?_, ?_, ?_, trivial⟩ ?_
                  · intro tr act w' hm hout hsz hd hG hk hub
                    refine jg_run (by rfl) rfl (wanted_none rfl) (ex_field rfl Try.underlying32 rfl (by kernel_rfl) ((hout 10 (by decide)).trans oe10)) (Mod.refl _ _) ?_
                    rfl
                  · intro tr act w' hm hout hsz hd hG hk hub
                    have h0 := hd ⟨0, .data⟩ (by simp) rfl _ rfl
                    refine jg_run (by rfl) rfl (wanted_none rfl) (ex_field rfl Try.underlying26 rfl (by kernel_rfl) h0) (Mod.refl _ _) ?_
                    rfl
                  · intro tr act w' hm hout hsz hd hG hk hub
                    have h1 := hd ⟨1, .data⟩ (by simp) rfl _ rfl
                    exact jg_run (by rfl) rfl (wanted_none rfl) (ex_load1 rfl Try.underlying3 rfl h1 (KX.out.mod hm (fun h => h)).c0) (Mod.refl _ _) rfl
                  · intro tr act w' hm hout hsz hd hG hk hub
                    have h2 := hd ⟨2, .data⟩ (by simp) rfl _ rfl
                    refine jg_run (by rfl) rfl (wanted_none rfl) (ex_bin rfl h2 rfl (guard_ints _ _ _ _ _ _) (run_geq_i _ _ _ Try.underlying3)) (Mod.refl _ _) ?_
                    exact congrArg Value.bool E0.out
                  · intro tr act w' hm hout hsz hd hG hk hub
                    have h3 := hd ⟨3, .data⟩ (by simp) rfl _ rfl
                    exact jg_run (by rfl) rfl (wanted_none rfl) (ex_move rfl h3) (Mod.refl _ _) rfl
                  · intro tr act w' hm hout hsz hd hG hk hub
                    have h4 := hd ⟨4, .guard⟩ (by simp) rfl _ rfl
                    refine jg_run (by rfl) rfl ((wanted_of rfl rfl (hsz 46 (by decide)) h4).trans rfl) (ex_field rfl Try.underlying32 rfl (by kernel_rfl) ((hout 10 (by decide)).trans oe10)) (Mod.refl _ _) ?_
                    rfl
                  · intro tr act w' hm hout hsz hd hG hk hub
                    have h4 := hd ⟨4, .guard⟩ (by simp) rfl _ rfl
                    have h5 := hd ⟨5, .data⟩ (by simp) rfl _ rfl
                    refine jg_run (by rfl) rfl ((wanted_of rfl rfl (hsz 46 (by decide)) h4).trans rfl) (ex_field rfl Try.underlying26 rfl (by kernel_rfl) h5) (Mod.refl _ _) ?_
                    rfl
                  · intro tr act w' hm hout hsz hd hG hk hub
                    have h4 := hd ⟨4, .guard⟩ (by simp) rfl _ rfl
                    have h6 := hd ⟨6, .data⟩ (by simp) rfl _ rfl
                    exact jg_run (by rfl) rfl ((wanted_of rfl rfl (hsz 46 (by decide)) h4).trans rfl) (ex_load1 rfl Try.underlying3 rfl h6 (KX.out.mod hm (fun h => h)).c0) (Mod.refl _ _) rfl
                  · intro tr act w' hm hout hsz hd hG hk hub
                    have h4 := hd ⟨4, .guard⟩ (by simp) rfl _ rfl
                    refine jg_run (by rfl) rfl ((wanted_of rfl rfl (hsz 46 (by decide)) h4).trans rfl) (ex_field rfl Try.underlying24 rfl (by kernel_rfl) ((hout 9 (by decide)).trans oe9)) (Mod.refl _ _) ?_
                    rfl
                  · intro tr act w' hm hout hsz hd hG hk hub
                    have h4 := hd ⟨4, .guard⟩ (by simp) rfl _ rfl
                    have h8 := hd ⟨8, .data⟩ (by simp) rfl _ rfl
                    exact jg_run (by rfl) rfl ((wanted_of rfl rfl (hsz 46 (by decide)) h4).trans rfl) (ex_load1 rfl Try.underlying3 rfl h8 (by rw [(KF.out.mod hm (fun h => h)).cell]; rfl)) (Mod.refl _ _) rfl
                  · intro tr act w' hm hout hsz hd hG hk hub
                    have h4 := hd ⟨4, .guard⟩ (by simp) rfl _ rfl
                    have h7 := hd ⟨7, .data⟩ (by simp) rfl _ rfl
                    have h9 := hd ⟨9, .data⟩ (by simp) rfl _ rfl
                    refine jg_run (by rfl) rfl ((wanted_of rfl rfl (hsz 46 (by decide)) h4).trans rfl) (ex_bin rfl h7 h9 (guard_ints _ _ _ _ _ _) (run_lss_i _ _ _ Try.underlying3)) (Mod.refl _ _) ?_
                    exact congrArg Value.bool E1.out
                  · intro tr act w' hm hout hsz hd hG hk hub
                    have h4 := hd ⟨4, .data⟩ (by simp) rfl _ rfl
                    have h10 := hd ⟨10, .data⟩ (by simp) rfl _ rfl
                    exact jg_run (by rfl) rfl (wanted_none rfl) (ex_pick rfl h4 h10 rfl) (Mod.refl _ _) rfl
                  · intro tr act w' hm hout hsz hd hG hk hub
                    have h11 := hd ⟨11, .data⟩ (by simp) rfl _ rfl
                    exact jg_run (by rfl) rfl (wanted_none rfl) (ex_move rfl h11) (Mod.refl _ _) rfl
                  · intro tr act w' hm hout hsz hd hG hk hub
                    have h12 := hd ⟨12, .guard⟩ (by simp) rfl _ rfl
                    refine jg_run (by rfl) rfl ((wanted_of rfl rfl (hsz 54 (by decide)) h12).trans rfl) (ex_field rfl Try.underlying32 rfl (by kernel_rfl) ((hout 10 (by decide)).trans oe10)) (Mod.refl _ _) ?_
                    rfl
                  · intro tr act w' hm hout hsz hd hG hk hub
                    have h12 := hd ⟨12, .guard⟩ (by simp) rfl _ rfl
                    have h13 := hd ⟨13, .data⟩ (by simp) rfl _ rfl
                    refine jg_run (by rfl) rfl ((wanted_of rfl rfl (hsz 54 (by decide)) h12).trans rfl) (ex_field rfl Try.underlying26 rfl (by kernel_rfl) h13) (Mod.refl _ _) ?_
                    rfl
                  · intro tr act w' hm hout hsz hd hG hk hub
                    have h12 := hd ⟨12, .guard⟩ (by simp) rfl _ rfl
                    have h14 := hd ⟨14, .data⟩ (by simp) rfl _ rfl
                    exact jg_run (by rfl) rfl ((wanted_of rfl rfl (hsz 54 (by decide)) h12).trans rfl) (ex_load1 rfl Try.underlying3 rfl h14 (KX.out.mod hm (fun h => h)).c1) (Mod.refl _ _) rfl
                  · intro tr act w' hm hout hsz hd hG hk hub
                    have h12 := hd ⟨12, .guard⟩ (by simp) rfl _ rfl
                    have h15 := hd ⟨15, .data⟩ (by simp) rfl _ rfl
                    refine jg_run (by rfl) rfl ((wanted_of rfl rfl (hsz 54 (by decide)) h12).trans rfl) (ex_bin rfl h15 rfl (guard_ints _ _ _ _ _ _) (run_geq_i _ _ _ Try.underlying3)) (Mod.refl _ _) ?_
                    exact congrArg Value.bool E2.out
                  · intro tr act w' hm hout hsz hd hG hk hub
                    have h12 := hd ⟨12, .data⟩ (by simp) rfl _ rfl
                    have h16 := hd ⟨16, .data⟩ (by simp) rfl _ rfl
                    exact jg_run (by rfl) rfl (wanted_none rfl) (ex_pick rfl h12 h16 rfl) (Mod.refl _ _) rfl
                  · intro tr act w' hm hout hsz hd hG hk hub
                    have h17 := hd ⟨17, .data⟩ (by simp) rfl _ rfl
                    exact jg_run (by rfl) rfl (wanted_none rfl) (ex_move rfl h17) (Mod.refl _ _) rfl
                  · intro tr act w' hm hout hsz hd hG hk hub
                    have h18 := hd ⟨18, .guard⟩ (by simp) rfl _ rfl
                    refine jg_run (by rfl) rfl ((wanted_of rfl rfl (hsz 60 (by decide)) h18).trans rfl) (ex_field rfl Try.underlying32 rfl (by kernel_rfl) ((hout 10 (by decide)).trans oe10)) (Mod.refl _ _) ?_
                    rfl
                  · intro tr act w' hm hout hsz hd hG hk hub
                    have h18 := hd ⟨18, .guard⟩ (by simp) rfl _ rfl
                    have h19 := hd ⟨19, .data⟩ (by simp) rfl _ rfl
                    refine jg_run (by rfl) rfl ((wanted_of rfl rfl (hsz 60 (by decide)) h18).trans rfl) (ex_field rfl Try.underlying26 rfl (by kernel_rfl) h19) (Mod.refl _ _) ?_
                    rfl
                  · intro tr act w' hm hout hsz hd hG hk hub
                    have h18 := hd ⟨18, .guard⟩ (by simp) rfl _ rfl
                    have h20 := hd ⟨20, .data⟩ (by simp) rfl _ rfl
                    exact jg_run (by rfl) rfl ((wanted_of rfl rfl (hsz 60 (by decide)) h18).trans rfl) (ex_load1 rfl Try.underlying3 rfl h20 (KX.out.mod hm (fun h => h)).c1) (Mod.refl _ _) rfl
                  · intro tr act w' hm hout hsz hd hG hk hub
                    have h18 := hd ⟨18, .guard⟩ (by simp) rfl _ rfl
                    have h21 := hd ⟨21, .data⟩ (by simp) rfl _ rfl
                    refine jg_run (by rfl) rfl ((wanted_of rfl rfl (hsz 60 (by decide)) h18).trans rfl) (ex_bin rfl h21 rfl (guard_ints _ _ _ _ _ _) (run_leq_i _ _ _ Try.underlying3)) (Mod.refl _ _) ?_
                    exact congrArg Value.bool E3.out
                  · intro tr act w' hm hout hsz hd hG hk hub
                    have h18 := hd ⟨18, .data⟩ (by simp) rfl _ rfl
                    have h22 := hd ⟨22, .data⟩ (by simp) rfl _ rfl
                    exact jg_run (by rfl) rfl (wanted_none rfl) (ex_pick rfl h18 h22 rfl) (Mod.refl _ _) rfl
                  · intro tr act w' hm hout hsz hd hG hk hub
                    have h23 := hd ⟨23, .data⟩ (by simp) rfl _ rfl
                    exact jg_run (by rfl) rfl (wanted_none rfl) (ex_move rfl h23) (Mod.refl _ _) rfl
                  · intro tr act w' hm hout hsz hd hG hk hub
                    have h24 := hd ⟨24, .guard⟩ (by simp) rfl _ rfl
                    refine jg_run (by rfl) rfl ((wanted_of rfl rfl (hsz 66 (by decide)) h24).trans rfl) (ex_field rfl Try.underlying32 rfl (by kernel_rfl) ((hout 10 (by decide)).trans oe10)) (Mod.refl _ _) ?_
                    rfl
                  · intro tr act w' hm hout hsz hd hG hk hub
                    have h24 := hd ⟨24, .guard⟩ (by simp) rfl _ rfl
                    have h25 := hd ⟨25, .data⟩ (by simp) rfl _ rfl
                    exact jg_run (by rfl) rfl ((wanted_of rfl rfl (hsz 66 (by decide)) h24).trans rfl) (ex_load1 rfl Try.underlying3 rfl h25 ((KX.out.mod hm (fun h => h)).c34 HCO.out.2.1)) (Mod.refl _ _) rfl
                  · intro tr act w' hm hout hsz hd hG hk hub
                    have h24 := hd ⟨24, .guard⟩ (by simp) rfl _ rfl
                    have h26 := hd ⟨26, .data⟩ (by simp) rfl _ rfl
                    refine jg_run (by rfl) rfl ((wanted_of rfl rfl (hsz 66 (by decide)) h24).trans rfl) (ex_bin rfl h26 rfl (guard_ints _ _ _ _ _ _) (run_geq_i _ _ _ Try.underlying3)) (Mod.refl _ _) ?_
                    exact congrArg Value.bool E4.out
                  · intro tr act w' hm hout hsz hd hG hk hub
                    have h24 := hd ⟨24, .data⟩ (by simp) rfl _ rfl
                    have h27 := hd ⟨27, .data⟩ (by simp) rfl _ rfl
                    exact jg_run (by rfl) rfl (wanted_none rfl) (ex_pick rfl h24 h27 rfl) (Mod.refl _ _) rfl
                  · intro tr act w' hm hout hsz hd hG hk hub
                    have h28 := hd ⟨28, .data⟩ (by simp) rfl _ rfl
                    exact jg_run (by rfl) rfl (wanted_none rfl) (ex_move rfl h28) (Mod.refl _ _) rfl
                  · intro tr act w' hm hout hsz hd hG hk hub
                    have h29 := hd ⟨29, .guard⟩ (by simp) rfl _ rfl
                    refine jg_run (by rfl) rfl ((wanted_of rfl rfl (hsz 71 (by decide)) h29).trans rfl) (ex_field rfl Try.underlying32 rfl (by kernel_rfl) ((hout 10 (by decide)).trans oe10)) (Mod.refl _ _) ?_
                    rfl
                  · intro tr act w' hm hout hsz hd hG hk hub
                    have h29 := hd ⟨29, .guard⟩ (by simp) rfl _ rfl
                    have h30 := hd ⟨30, .data⟩ (by simp) rfl _ rfl
                    exact jg_run (by rfl) rfl ((wanted_of rfl rfl (hsz 71 (by decide)) h29).trans rfl) (ex_load1 rfl Try.underlying3 rfl h30 ((KX.out.mod hm (fun h => h)).c34 HCO.out.2.1)) (Mod.refl _ _) rfl
                  · intro tr act w' hm hout hsz hd hG hk hub
                    have h29 := hd ⟨29, .guard⟩ (by simp) rfl _ rfl
                    have h31 := hd ⟨31, .data⟩ (by simp) rfl _ rfl
                    refine jg_run (by rfl) rfl ((wanted_of rfl rfl (hsz 71 (by decide)) h29).trans rfl) (ex_bin rfl h31 rfl (guard_ints _ _ _ _ _ _) (run_leq_i _ _ _ Try.underlying3)) (Mod.refl _ _) ?_
                    exact congrArg Value.bool E5.out
                  · intro tr act w' hm hout hsz hd hG hk hub
                    have h29 := hd ⟨29, .data⟩ (by simp) rfl _ rfl
                    have h32 := hd ⟨32, .data⟩ (by simp) rfl _ rfl
                    exact jg_run (by rfl) rfl (wanted_none rfl) (ex_pick rfl h29 h32 rfl) (Mod.refl _ _) rfl
                  · intro tr act w' hm hout hsz hd hG hk hub
                    have h33 := hd ⟨33, .data⟩ (by simp) rfl _ rfl
                    exact jg_run (by rfl) rfl (wanted_none rfl) (ex_assign rfl h33) (Mod.refl _ _) rfl
                  intro vs tr w6 hl htl hm hG hV
                  obtain ⟨v0, vs0, rfl, hl0⟩ := list_cons hl
                  obtain ⟨v1, vs1, rfl, hl1⟩ := list_cons hl0
                  obtain ⟨v2, vs2, rfl, hl2⟩ := list_cons hl1
                  obtain ⟨v3, vs3, rfl, hl3⟩ := list_cons hl2
                  obtain ⟨v4, vs4, rfl, hl4⟩ := list_cons hl3
                  obtain ⟨v5, vs5, rfl, hl5⟩ := list_cons hl4
                  obtain ⟨v6, vs6, rfl, hl6⟩ := list_cons hl5
                  obtain ⟨v7, vs7, rfl, hl7⟩ := list_cons hl6
                  obtain ⟨v8, vs8, rfl, hl8⟩ := list_cons hl7
                  obtain ⟨v9, vs9, rfl, hl9⟩ := list_cons hl8
                  obtain ⟨v10, vs10, rfl, hl10⟩ := list_cons hl9
                  obtain ⟨v11, vs11, rfl, hl11⟩ := list_cons hl10
                  obtain ⟨v12, vs12, rfl, hl12⟩ := list_cons hl11
                  obtain ⟨v13, vs13, rfl, hl13⟩ := list_cons hl12
                  obtain ⟨v14, vs14, rfl, hl14⟩ := list_cons hl13
                  obtain ⟨v15, vs15, rfl, hl15⟩ := list_cons hl14
                  obtain ⟨v16, vs16, rfl, hl16⟩ := list_cons hl15
                  obtain ⟨v17, vs17, rfl, hl17⟩ := list_cons hl16
                  obtain ⟨v18, vs18, rfl, hl18⟩ := list_cons hl17
                  obtain ⟨v19, vs19, rfl, hl19⟩ := list_cons hl18
                  obtain ⟨v20, vs20, rfl, hl20⟩ := list_cons hl19
                  obtain ⟨v21, vs21, rfl, hl21⟩ := list_cons hl20
                  obtain ⟨v22, vs22, rfl, hl22⟩ := list_cons hl21
                  obtain ⟨v23, vs23, rfl, hl23⟩ := list_cons hl22
                  obtain ⟨v24, vs24, rfl, hl24⟩ := list_cons hl23
                  obtain ⟨v25, vs25, rfl, hl25⟩ := list_cons hl24
                  obtain ⟨v26, vs26, rfl, hl26⟩ := list_cons hl25
                  obtain ⟨v27, vs27, rfl, hl27⟩ := list_cons hl26
                  obtain ⟨v28, vs28, rfl, hl28⟩ := list_cons hl27
                  obtain ⟨v29, vs29, rfl, hl29⟩ := list_cons hl28
                  obtain ⟨v30, vs30, rfl, hl30⟩ := list_cons hl29
                  obtain ⟨v31, vs31, rfl, hl31⟩ := list_cons hl30
                  obtain ⟨v32, vs32, rfl, hl32⟩ := list_cons hl31
                  obtain ⟨v33, vs33, rfl, hl33⟩ := list_cons hl32
                  obtain ⟨v34, vs34, rfl, hl34⟩ := list_cons hl33
                  obtain rfl := list_nil hl34
                  clear hl hl0 hl1 hl2 hl3 hl4 hl5 hl6 hl7 hl8 hl9 hl10 hl11 hl12 hl13 hl14 hl15 hl16 hl17 hl18 hl19 hl20 hl21 hl22 hl23 hl24 hl25 hl26 hl27 hl28 hl29 hl30 hl31 hl32 hl33 hl34
                  obtain rfl : v34 = .bool true := hV 34 _ rfl
                  have ha0 := HA0.out
                  subst ha0
                  clear HA0 hV hsz0 oe9 oe10
                  simp only [putAll, Act.put, List.setIfInBounds_toArray, List.set_cons_zero, List.set_cons_succ, List.set_nil]
                  have KM5 := Lib.hid hm
                  clear hm hG
                  go_upto_region 8 with (fail)
                  generalize ha0 : Act.mk _ _ = a0
                  have oe9 : a0.eval (.tmp 9) = .pointer (some ⟨q0, 0, none⟩) := by rw [← ha0]; rfl
                  have oe10 : a0.eval (.tmp 10) = .pointer (some ⟨q1, 0, none⟩) := by rw [← ha0]; rfl
                  have oe11 : a0.eval (.tmp 11) = .bool true := by rw [← ha0]; rfl
                  have hsz0 : a0.tmps.size = 84 := by rw [← ha0]; rfl
                  have HA0 := Lib.hid ha0
                  clear ha0
                  refine wp_region_G 84 hsz0 (by kernel_rfl) (by kernel_rfl) [76, 77, 78, 79, 80, 81, 82, 83, 8] (by kernel_rfl) (by decide) (fun _ => False) (fun _ _ => False) (fun _ _ h => h) Still (fun _ _ _ h => h) (fun _ _ _ hm h => hm.trans h (fun _ _ h => h.elim)) [gi (.agg #[.int .i64 1, .int .i64 k]), gi (c.val), gi (.bool true), gi (.bool true), gi (.bool true), gi (.bool true), gi (.bool true), gi (.bool true), gi (.bool true)] ⟨gi_stable, gi_stable, gi_stable, gi_stable, gi_stable, gi_stable, gi_stable, gi_stable, gi_stable, trivial⟩ [] (by kernel_rfl) (by decide) (by kernel_rfl) (fun _ _ => True) (fun _ _ _ _ _ => trivial) trivial ⟨?_, ?_, ?_, ?_, ?_, ?_, ?_, ?_, ?_, trivial⟩ ?_
                  · intro tr act w' hm hout hsz hd hG hk hub
                    exact jg_run (by rfl) rfl (wanted_none rfl) (ex_loadA rfl Try.underlying24 rfl (off := 0) (cs := [.int .i64 1, .int .i64 k]) (by kernel_rfl) ((hout 9 (by decide)).trans oe9) (Cs.whole (KF.out.mod (KM5.out.trans hm (fun _ _ h => h)) (fun h => h)))) (Mod.refl _ _) rfl
                  · intro tr act w' hm hout hsz hd hG hk hub
                    exact jg_run (by rfl) rfl (wanted_none rfl) (ex_loadA rfl Try.underlying32 rfl (off := 0) (cs := c.cells) (by rw [Cm.len HCO.out.2.1]; exact size_commit) ((hout 10 (by decide)).trans oe10) (Cs.whole (KX.out.mod (KM5.out.trans hm (fun _ _ h => h)) (fun h => h)))) (Mod.refl _ _) rfl
                  · intro tr act w' hm hout hsz hd hG hk hub
                    have h0 := hd ⟨0, .data⟩ (by simp) rfl _ rfl
                    have h1 := hd ⟨1, .data⟩ (by simp) rfl _ rfl
                    refine jg_call (args := #[.agg #[.int .i64 1, .int .i64 k], c.val]) (by rfl) rfl (wanted_none rfl) (by rw [ex_callF rfl Try.func15 (by kernel_rfl) (by kernel_rfl)]; exact congrArg (fun z => Result.ok (Next.enter _ z) _) (by simp only [List.map_toArray, List.map_cons, List.map_nil, show act.eval (.tmp 76) = _ from h0, show act.eval (.tmp 77) = _ from h1]; try rfl)) (Valid_any 1 k c HCO.out _) ?_
                    rintro e w2 ⟨rfl, hm2⟩
                    exact ⟨_, rfl, hm2, congrArg Value.bool EV.out⟩
                  · intro tr act w' hm hout hsz hd hG hk hub
                    exact jg_run (by rfl) rfl (wanted_none rfl) (ex_move rfl ((hout 11 (by decide)).trans oe11)) (Mod.refl _ _) rfl
                  · intro tr act w' hm hout hsz hd hG hk hub
                    have h2 := hd ⟨2, .data⟩ (by simp) rfl _ rfl
                    have h3 := hd ⟨3, .data⟩ (by simp) rfl _ rfl
                    exact jg_run (by rfl) rfl (wanted_none rfl) (ex_bin rfl h2 h3 (guard_bools _ _ _ _ _ _) (run_eql_bools _ _ _ Try.underlying4)) (Mod.refl _ _) rfl
                  · intro tr act w' hm hout hsz hd hG hk hub
                    have h4 := hd ⟨4, .data⟩ (by simp) rfl _ rfl
                    exact jg_run (by rfl) rfl (wanted_none rfl) (ex_move rfl h4) (Mod.refl _ _) rfl
                  · intro tr act w' hm hout hsz hd hG hk hub
                    have h5 := hd ⟨5, .guard⟩ (by simp) rfl _ rfl
                    refine jg_call (args := #[]) (by rfl) rfl ((wanted_of rfl rfl (hsz 81 (by decide)) h5).trans rfl) (by rw [ex_callF rfl Try.func16 (by kernel_rfl) (by kernel_rfl)]; simp) (wakes04 _) ?_
                    rintro e w2 ⟨rfl, hm2⟩
                    exact ⟨_, rfl, hm2, rfl⟩
                  · intro tr act w' hm hout hsz hd hG hk hub
                    have h5 := hd ⟨5, .data⟩ (by simp) rfl _ rfl
                    have h6 := hd ⟨6, .data⟩ (by simp) rfl _ rfl
                    exact jg_run (by rfl) rfl (wanted_none rfl) (ex_pick rfl h5 h6 rfl) (Mod.refl _ _) rfl
                  · intro tr act w' hm hout hsz hd hG hk hub
                    have h7 := hd ⟨7, .data⟩ (by simp) rfl _ rfl
                    exact jg_run (by rfl) rfl (wanted_none rfl) (ex_assign rfl h7) (Mod.refl _ _) rfl
                  intro vs tr w7 hl htl hm hG hV
                  obtain ⟨v0x, vs0, rfl, hl0⟩ := list_cons hl
                  obtain ⟨v1x, vs1, rfl, hl1⟩ := list_cons hl0
                  obtain ⟨v2x, vs2, rfl, hl2⟩ := list_cons hl1
                  obtain ⟨v3x, vs3, rfl, hl3⟩ := list_cons hl2
                  obtain ⟨v4x, vs4, rfl, hl4⟩ := list_cons hl3
                  obtain ⟨v5x, vs5, rfl, hl5⟩ := list_cons hl4
                  obtain ⟨v6x, vs6, rfl, hl6⟩ := list_cons hl5
                  obtain ⟨v7x, vs7, rfl, hl7⟩ := list_cons hl6
                  obtain ⟨v8x, vs8, rfl, hl8⟩ := list_cons hl7
                  obtain rfl := list_nil hl8
                  clear hl hl0 hl1 hl2 hl3 hl4 hl5 hl6 hl7 hl8
                  obtain rfl : v8x = .bool true := hV 8 _ rfl
                  have ha0 := HA0.out
                  subst ha0
                  clear HA0 hV hsz0 oe9 oe10 oe11
                  simp only [putAll, Act.put, List.setIfInBounds_toArray, List.set_cons_zero, List.set_cons_succ, List.set_nil]
                  have KM6 := Lib.hid ((KM.out.trans KM5.out (fun _ _ h => h)).trans hm (fun _ _ h => h))
                  clear hm hG
                  go_wp2
                  go_ret
                  exact ⟨rfl, KM6.out⟩
                · have E5 := Lib.hid (decide_eq_false c5)
                  clear c5
                  have EV := Lib.hid (show validF k c = false by unfold validF; simp only [E0.out, E1.out, E2.out, E3.out, E4.out, E5.out, Bool.false_and, Bool.true_and] <;> rfl)
                  go_upto_region 7 with (fail)
                  generalize ha0 : Act.mk _ _ = a0
                  have oe9 : a0.eval (.tmp 9) = .pointer (some ⟨q0, 0, none⟩) := by rw [← ha0]; rfl
                  have oe10 : a0.eval (.tmp 10) = .pointer (some ⟨q1, 0, none⟩) := by rw [← ha0]; rfl
                  have hsz0 : a0.tmps.size = 84 := by rw [← ha0]; rfl
                  have HA0 := Lib.hid ha0
                  clear ha0
                  refine wp_region_G 84 hsz0 (by kernel_rfl) (by kernel_rfl) [42, 43, 44, 45, 46, 47, 48, 49, 50, 51, 52, 53, 54, 55, 56, 57, 58, 59, 60, 61, 62, 63, 64, 65, 66, 67, 68, 69, 70, 71, 72, 73, 74, 75, 11] (by kernel_rfl) (by decide) (fun _ => False) (fun _ _ => False) (fun _ _ h => h) Still (fun _ _ _ h => h) (fun _ _ _ hm h => hm.trans h (fun _ _ h => h.elim)) [gi (.pointer (some ⟨q1, 0, none⟩)), gi (.pointer (some ⟨q1, 0, none⟩)), gi (.int .i64 c.cl), gi (.bool true), gi (.bool true), gi (.pointer (some ⟨q1, 0, none⟩)), gi (.pointer (some ⟨q1, 0, none⟩)), gi (.int .i64 c.cl), gi (.pointer (some ⟨q0, 1, none⟩)), gi (.int .i64 k), gi (.bool true), gi (.bool true), gi (.bool true), gi (.pointer (some ⟨q1, 0, none⟩)), gi (.pointer (some ⟨q1, 1, none⟩)), gi (.int .i64 c.sq), gi (.bool true), gi (.bool true), gi (.bool true), gi (.pointer (some ⟨q1, 0, none⟩)), gi (.pointer (some ⟨q1, 1, none⟩)), gi (.int .i64 c.sq), gi (.bool true), gi (.bool true), gi (.bool true), gi (.pointer (some ⟨q1, 34, none⟩)), gi (.int .i64 c.ln), gi (.bool true), gi (.bool true), gi (.bool true), gi (.pointer (some ⟨q1, 34, none⟩)), gi (.int .i64 c.ln), gi (.bool false), gi (.bool false), gi (.bool false)] ⟨gi_stable, gi_stable, gi_stable, gi_stable, gi_stable, gi_stable, gi_stable, gi_stable, gi_stable, gi_stable, gi_stable, gi_stable, gi_stable, gi_stable, gi_stable, gi_stable, gi_stable, gi_stable, gi_stable, gi_stable, gi_stable, gi_stable, gi_stable, gi_stable, gi_stable, gi_stable, gi_stable, gi_stable, gi_stable, gi_stable, gi_stable, gi_stable, gi_stable, gi_stable, gi_stable, trivial⟩ [] (by kernel_rfl) (by decide) (by kernel_rfl) (fun _ _ => True) (fun _ _ _ _ _ => trivial) trivial ⟨?_, ?_, ?_, ?_, ?_, ?_, ?_, ?_, ?_, ?_, ?_, ?_, ?_, ?_, ?_, ?_, ?_, ?_, ?_, ?_, ?_, ?_, ?_, ?_, ?_, ?_, ?_, ?_, ?_, ?_, ?_, ?_, ?_, ?_, ?_, trivial⟩ ?_
                  · intro tr act w' hm hout hsz hd hG hk hub
                    refine jg_run (by rfl) rfl (wanted_none rfl) (ex_field rfl Try.underlying32 rfl (by kernel_rfl) ((hout 10 (by decide)).trans oe10)) (Mod.refl _ _) ?_
                    rfl
                  · intro tr act w' hm hout hsz hd hG hk hub
                    have h0 := hd ⟨0, .data⟩ (by simp) rfl _ rfl
                    refine jg_run (by rfl) rfl (wanted_none rfl) (ex_field rfl Try.underlying26 rfl (by kernel_rfl) h0) (Mod.refl _ _) ?_
                    rfl
                  · intro tr act w' hm hout hsz hd hG hk hub
                    have h1 := hd ⟨1, .data⟩ (by simp) rfl _ rfl
                    exact jg_run (by rfl) rfl (wanted_none rfl) (ex_load1 rfl Try.underlying3 rfl h1 (KX.out.mod hm (fun h => h)).c0) (Mod.refl _ _) rfl
                  · intro tr act w' hm hout hsz hd hG hk hub
                    have h2 := hd ⟨2, .data⟩ (by simp) rfl _ rfl
                    refine jg_run (by rfl) rfl (wanted_none rfl) (ex_bin rfl h2 rfl (guard_ints _ _ _ _ _ _) (run_geq_i _ _ _ Try.underlying3)) (Mod.refl _ _) ?_
                    exact congrArg Value.bool E0.out
                  · intro tr act w' hm hout hsz hd hG hk hub
                    have h3 := hd ⟨3, .data⟩ (by simp) rfl _ rfl
                    exact jg_run (by rfl) rfl (wanted_none rfl) (ex_move rfl h3) (Mod.refl _ _) rfl
                  · intro tr act w' hm hout hsz hd hG hk hub
                    have h4 := hd ⟨4, .guard⟩ (by simp) rfl _ rfl
                    refine jg_run (by rfl) rfl ((wanted_of rfl rfl (hsz 46 (by decide)) h4).trans rfl) (ex_field rfl Try.underlying32 rfl (by kernel_rfl) ((hout 10 (by decide)).trans oe10)) (Mod.refl _ _) ?_
                    rfl
                  · intro tr act w' hm hout hsz hd hG hk hub
                    have h4 := hd ⟨4, .guard⟩ (by simp) rfl _ rfl
                    have h5 := hd ⟨5, .data⟩ (by simp) rfl _ rfl
                    refine jg_run (by rfl) rfl ((wanted_of rfl rfl (hsz 46 (by decide)) h4).trans rfl) (ex_field rfl Try.underlying26 rfl (by kernel_rfl) h5) (Mod.refl _ _) ?_
                    rfl
                  · intro tr act w' hm hout hsz hd hG hk hub
                    have h4 := hd ⟨4, .guard⟩ (by simp) rfl _ rfl
                    have h6 := hd ⟨6, .data⟩ (by simp) rfl _ rfl
                    exact jg_run (by rfl) rfl ((wanted_of rfl rfl (hsz 46 (by decide)) h4).trans rfl) (ex_load1 rfl Try.underlying3 rfl h6 (KX.out.mod hm (fun h => h)).c0) (Mod.refl _ _) rfl
                  · intro tr act w' hm hout hsz hd hG hk hub
                    have h4 := hd ⟨4, .guard⟩ (by simp) rfl _ rfl
                    refine jg_run (by rfl) rfl ((wanted_of rfl rfl (hsz 46 (by decide)) h4).trans rfl) (ex_field rfl Try.underlying24 rfl (by kernel_rfl) ((hout 9 (by decide)).trans oe9)) (Mod.refl _ _) ?_
                    rfl
                  · intro tr act w' hm hout hsz hd hG hk hub
                    have h4 := hd ⟨4, .guard⟩ (by simp) rfl _ rfl
                    have h8 := hd ⟨8, .data⟩ (by simp) rfl _ rfl
                    exact jg_run (by rfl) rfl ((wanted_of rfl rfl (hsz 46 (by decide)) h4).trans rfl) (ex_load1 rfl Try.underlying3 rfl h8 (by rw [(KF.out.mod hm (fun h => h)).cell]; rfl)) (Mod.refl _ _) rfl
                  · intro tr act w' hm hout hsz hd hG hk hub
                    have h4 := hd ⟨4, .guard⟩ (by simp) rfl _ rfl
                    have h7 := hd ⟨7, .data⟩ (by simp) rfl _ rfl
                    have h9 := hd ⟨9, .data⟩ (by simp) rfl _ rfl
                    refine jg_run (by rfl) rfl ((wanted_of rfl rfl (hsz 46 (by decide)) h4).trans rfl) (ex_bin rfl h7 h9 (guard_ints _ _ _ _ _ _) (run_lss_i _ _ _ Try.underlying3)) (Mod.refl _ _) ?_
                    exact congrArg Value.bool E1.out
                  · intro tr act w' hm hout hsz hd hG hk hub
                    have h4 := hd ⟨4, .data⟩ (by simp) rfl _ rfl
                    have h10 := hd ⟨10, .data⟩ (by simp) rfl _ rfl
                    exact jg_run (by rfl) rfl (wanted_none rfl) (ex_pick rfl h4 h10 rfl) (Mod.refl _ _) rfl
                  · intro tr act w' hm hout hsz hd hG hk hub
                    have h11 := hd ⟨11, .data⟩ (by simp) rfl _ rfl
                    exact jg_run (by rfl) rfl (wanted_none rfl) (ex_move rfl h11) (Mod.refl _ _) rfl
                  · intro tr act w' hm hout hsz hd hG hk hub
                    have h12 := hd ⟨12, .guard⟩ (by simp) rfl _ rfl
                    refine jg_run (by rfl) rfl ((wanted_of rfl rfl (hsz 54 (by decide)) h12).trans rfl) (ex_field rfl Try.underlying32 rfl (by kernel_rfl) ((hout 10 (by decide)).trans oe10)) (Mod.refl _ _) ?_
                    rfl
                  · intro tr act w' hm hout hsz hd hG hk hub
                    have h12 := hd ⟨12, .guard⟩ (by simp) rfl _ rfl
                    have h13 := hd ⟨13, .data⟩ (by simp) rfl _ rfl
                    refine jg_run (by rfl) rfl ((wanted_of rfl rfl (hsz 54 (by decide)) h12).trans rfl) (ex_field rfl Try.underlying26 rfl (by kernel_rfl) h13) (Mod.refl _ _) ?_
                    rfl
                  · intro tr act w' hm hout hsz hd hG hk hub
                    have h12 := hd ⟨12, .guard⟩ (by simp) rfl _ rfl
                    have h14 := hd ⟨14, .data⟩ (by simp) rfl _ rfl
                    exact jg_run (by rfl) rfl ((wanted_of rfl rfl (hsz 54 (by decide)) h12).trans rfl) (ex_load1 rfl Try.underlying3 rfl h14 (KX.out.mod hm (fun h => h)).c1) (Mod.refl _ _) rfl
                  · intro tr act w' hm hout hsz hd hG hk hub
                    have h12 := hd ⟨12, .guard⟩ (by simp) rfl _ rfl
                    have h15 := hd ⟨15, .data⟩ (by simp) rfl _ rfl
                    refine jg_run (by rfl) rfl ((wanted_of rfl rfl (hsz 54 (by decide)) h12).trans rfl) (ex_bin rfl h15 rfl (guard_ints _ _ _ _ _ _) (run_geq_i _ _ _ Try.underlying3)) (Mod.refl _ _) ?_
                    exact congrArg Value.bool E2.out
                  · intro tr act w' hm hout hsz hd hG hk hub
                    have h12 := hd ⟨12, .data⟩ (by simp) rfl _ rfl
                    have h16 := hd ⟨16, .data⟩ (by simp) rfl _ rfl
                    exact jg_run (by rfl) rfl (wanted_none rfl) (ex_pick rfl h12 h16 rfl) (Mod.refl _ _) rfl
                  · intro tr act w' hm hout hsz hd hG hk hub
                    have h17 := hd ⟨17, .data⟩ (by simp) rfl _ rfl
                    exact jg_run (by rfl) rfl (wanted_none rfl) (ex_move rfl h17) (Mod.refl _ _) rfl
                  · intro tr act w' hm hout hsz hd hG hk hub
                    have h18 := hd ⟨18, .guard⟩ (by simp) rfl _ rfl
                    refine jg_run (by rfl) rfl ((wanted_of rfl rfl (hsz 60 (by decide)) h18).trans rfl) (ex_field rfl Try.underlying32 rfl (by kernel_rfl) ((hout 10 (by decide)).trans oe10)) (Mod.refl _ _) ?_
                    rfl
                  · intro tr act w' hm hout hsz hd hG hk hub
                    have h18 := hd ⟨18, .guard⟩ (by simp) rfl _ rfl
                    have h19 := hd ⟨19, .data⟩ (by simp) rfl _ rfl
                    refine jg_run (by rfl) rfl ((wanted_of rfl rfl (hsz 60 (by decide)) h18).trans rfl) (ex_field rfl Try.underlying26 rfl (by kernel_rfl) h19) (Mod.refl _ _) ?_
                    rfl
                  · intro tr act w' hm hout hsz hd hG hk hub
                    have h18 := hd ⟨18, .guard⟩ (by simp) rfl _ rfl
                    have h20 := hd ⟨20, .data⟩ (by simp) rfl _ rfl
                    exact jg_run (by rfl) rfl ((wanted_of rfl rfl (hsz 60 (by decide)) h18).trans rfl) (ex_load1 rfl Try.underlying3 rfl h20 (KX.out.mod hm (fun h => h)).c1) (Mod.refl _ _) rfl
                  · intro tr act w' hm hout hsz hd hG hk hub
                    have h18 := hd ⟨18, .guard⟩ (by simp) rfl _ rfl
                    have h21 := hd ⟨21, .data⟩ (by simp) rfl _ rfl
                    refine jg_run (by rfl) rfl ((wanted_of rfl rfl (hsz 60 (by decide)) h18).trans rfl) (ex_bin rfl h21 rfl (guard_ints _ _ _ _ _ _) (run_leq_i _ _ _ Try.underlying3)) (Mod.refl _ _) ?_
                    exact congrArg Value.bool E3.out
                  · intro tr act w' hm hout hsz hd hG hk hub
                    have h18 := hd ⟨18, .data⟩ (by simp) rfl _ rfl
                    have h22 := hd ⟨22, .data⟩ (by simp) rfl _ rfl
                    exact jg_run (by rfl) rfl (wanted_none rfl) (ex_pick rfl h18 h22 rfl) (Mod.refl _ _) rfl
                  · intro tr act w' hm hout hsz hd hG hk hub
                    have h23 := hd ⟨23, .data⟩ (by simp) rfl _ rfl
                    exact jg_run (by rfl) rfl (wanted_none rfl) (ex_move rfl h23) (Mod.refl _ _) rfl
                  · intro tr act w' hm hout hsz hd hG hk hub
                    have h24 := hd ⟨24, .guard⟩ (by simp) rfl _ rfl
                    refine jg_run (by rfl) rfl ((wanted_of rfl rfl (hsz 66 (by decide)) h24).trans rfl) (ex_field rfl Try.underlying32 rfl (by kernel_rfl) ((hout 10 (by decide)).trans oe10)) (Mod.refl _ _) ?_
                    rfl
                  · intro tr act w' hm hout hsz hd hG hk hub
                    have h24 := hd ⟨24, .guard⟩ (by simp) rfl _ rfl
                    have h25 := hd ⟨25, .data⟩ (by simp) rfl _ rfl
                    exact jg_run (by rfl) rfl ((wanted_of rfl rfl (hsz 66 (by decide)) h24).trans rfl) (ex_load1 rfl Try.underlying3 rfl h25 ((KX.out.mod hm (fun h => h)).c34 HCO.out.2.1)) (Mod.refl _ _) rfl
                  · intro tr act w' hm hout hsz hd hG hk hub
                    have h24 := hd ⟨24, .guard⟩ (by simp) rfl _ rfl
                    have h26 := hd ⟨26, .data⟩ (by simp) rfl _ rfl
                    refine jg_run (by rfl) rfl ((wanted_of rfl rfl (hsz 66 (by decide)) h24).trans rfl) (ex_bin rfl h26 rfl (guard_ints _ _ _ _ _ _) (run_geq_i _ _ _ Try.underlying3)) (Mod.refl _ _) ?_
                    exact congrArg Value.bool E4.out
                  · intro tr act w' hm hout hsz hd hG hk hub
                    have h24 := hd ⟨24, .data⟩ (by simp) rfl _ rfl
                    have h27 := hd ⟨27, .data⟩ (by simp) rfl _ rfl
                    exact jg_run (by rfl) rfl (wanted_none rfl) (ex_pick rfl h24 h27 rfl) (Mod.refl _ _) rfl
                  · intro tr act w' hm hout hsz hd hG hk hub
                    have h28 := hd ⟨28, .data⟩ (by simp) rfl _ rfl
                    exact jg_run (by rfl) rfl (wanted_none rfl) (ex_move rfl h28) (Mod.refl _ _) rfl
                  · intro tr act w' hm hout hsz hd hG hk hub
                    have h29 := hd ⟨29, .guard⟩ (by simp) rfl _ rfl
                    refine jg_run (by rfl) rfl ((wanted_of rfl rfl (hsz 71 (by decide)) h29).trans rfl) (ex_field rfl Try.underlying32 rfl (by kernel_rfl) ((hout 10 (by decide)).trans oe10)) (Mod.refl _ _) ?_
                    rfl
                  · intro tr act w' hm hout hsz hd hG hk hub
                    have h29 := hd ⟨29, .guard⟩ (by simp) rfl _ rfl
                    have h30 := hd ⟨30, .data⟩ (by simp) rfl _ rfl
                    exact jg_run (by rfl) rfl ((wanted_of rfl rfl (hsz 71 (by decide)) h29).trans rfl) (ex_load1 rfl Try.underlying3 rfl h30 ((KX.out.mod hm (fun h => h)).c34 HCO.out.2.1)) (Mod.refl _ _) rfl
                  · intro tr act w' hm hout hsz hd hG hk hub
                    have h29 := hd ⟨29, .guard⟩ (by simp) rfl _ rfl
                    have h31 := hd ⟨31, .data⟩ (by simp) rfl _ rfl
                    refine jg_run (by rfl) rfl ((wanted_of rfl rfl (hsz 71 (by decide)) h29).trans rfl) (ex_bin rfl h31 rfl (guard_ints _ _ _ _ _ _) (run_leq_i _ _ _ Try.underlying3)) (Mod.refl _ _) ?_
                    exact congrArg Value.bool E5.out
                  · intro tr act w' hm hout hsz hd hG hk hub
                    have h29 := hd ⟨29, .data⟩ (by simp) rfl _ rfl
                    have h32 := hd ⟨32, .data⟩ (by simp) rfl _ rfl
                    exact jg_run (by rfl) rfl (wanted_none rfl) (ex_pick rfl h29 h32 rfl) (Mod.refl _ _) rfl
                  · intro tr act w' hm hout hsz hd hG hk hub
                    have h33 := hd ⟨33, .data⟩ (by simp) rfl _ rfl
                    exact jg_run (by rfl) rfl (wanted_none rfl) (ex_assign rfl h33) (Mod.refl _ _) rfl
                  intro vs tr w6 hl htl hm hG hV
                  obtain ⟨v0, vs0, rfl, hl0⟩ := list_cons hl
                  obtain ⟨v1, vs1, rfl, hl1⟩ := list_cons hl0
                  obtain ⟨v2, vs2, rfl, hl2⟩ := list_cons hl1
                  obtain ⟨v3, vs3, rfl, hl3⟩ := list_cons hl2
                  obtain ⟨v4, vs4, rfl, hl4⟩ := list_cons hl3
                  obtain ⟨v5, vs5, rfl, hl5⟩ := list_cons hl4
                  obtain ⟨v6, vs6, rfl, hl6⟩ := list_cons hl5
                  obtain ⟨v7, vs7, rfl, hl7⟩ := list_cons hl6
                  obtain ⟨v8, vs8, rfl, hl8⟩ := list_cons hl7
                  obtain ⟨v9, vs9, rfl, hl9⟩ := list_cons hl8
                  obtain ⟨v10, vs10, rfl, hl10⟩ := list_cons hl9
                  obtain ⟨v11, vs11, rfl, hl11⟩ := list_cons hl10
                  obtain ⟨v12, vs12, rfl, hl12⟩ := list_cons hl11
                  obtain ⟨v13, vs13, rfl, hl13⟩ := list_cons hl12
                  obtain ⟨v14, vs14, rfl, hl14⟩ := list_cons hl13
                  obtain ⟨v15, vs15, rfl, hl15⟩ := list_cons hl14
                  obtain ⟨v16, vs16, rfl, hl16⟩ := list_cons hl15
                  obtain ⟨v17, vs17, rfl, hl17⟩ := list_cons hl16
                  obtain ⟨v18, vs18, rfl, hl18⟩ := list_cons hl17
                  obtain ⟨v19, vs19, rfl, hl19⟩ := list_cons hl18
                  obtain ⟨v20, vs20, rfl, hl20⟩ := list_cons hl19
                  obtain ⟨v21, vs21, rfl, hl21⟩ := list_cons hl20
                  obtain ⟨v22, vs22, rfl, hl22⟩ := list_cons hl21
                  obtain ⟨v23, vs23, rfl, hl23⟩ := list_cons hl22
                  obtain ⟨v24, vs24, rfl, hl24⟩ := list_cons hl23
                  obtain ⟨v25, vs25, rfl, hl25⟩ := list_cons hl24
                  obtain ⟨v26, vs26, rfl, hl26⟩ := list_cons hl25
                  obtain ⟨v27, vs27, rfl, hl27⟩ := list_cons hl26
                  obtain ⟨v28, vs28, rfl, hl28⟩ := list_cons hl27
                  obtain ⟨v29, vs29, rfl, hl29⟩ := list_cons hl28
                  obtain ⟨v30, vs30, rfl, hl30⟩ := list_cons hl29
                  obtain ⟨v31, vs31, rfl, hl31⟩ := list_cons hl30
                  obtain ⟨v32, vs32, rfl, hl32⟩ := list_cons hl31
                  obtain ⟨v33, vs33, rfl, hl33⟩ := list_cons hl32
                  obtain ⟨v34, vs34, rfl, hl34⟩ := list_cons hl33
                  obtain rfl := list_nil hl34
                  clear hl hl0 hl1 hl2 hl3 hl4 hl5 hl6 hl7 hl8 hl9 hl10 hl11 hl12 hl13 hl14 hl15 hl16 hl17 hl18 hl19 hl20 hl21 hl22 hl23 hl24 hl25 hl26 hl27 hl28 hl29 hl30 hl31 hl32 hl33 hl34
                  obtain rfl : v34 = .bool false := hV 34 _ rfl
                  have ha0 := HA0.out
                  subst ha0
                  clear HA0 hV hsz0 oe9 oe10
                  simp only [putAll, Act.put, List.setIfInBounds_toArray, List.set_cons_zero, List.set_cons_succ, List.set_nil]
                  have KM5 := Lib.hid hm
                  clear hm hG
                  go_upto_region 8 with (fail)
                  generalize ha0 : Act.mk _ _ = a0
                  have oe9 : a0.eval (.tmp 9) = .pointer (some ⟨q0, 0, none⟩) := by rw [← ha0]; rfl
                  have oe10 : a0.eval (.tmp 10) = .pointer (some ⟨q1, 0, none⟩) := by rw [← ha0]; rfl
                  have oe11 : a0.eval (.tmp 11) = .bool false := by rw [← ha0]; rfl
                  have hsz0 : a0.tmps.size = 84 := by rw [← ha0]; rfl
                  have HA0 := Lib.hid ha0
                  clear ha0
                  refine wp_region_G 84 hsz0 (by kernel_rfl) (by kernel_rfl) [76, 77, 78, 79, 80, 81, 82, 83, 8] (by kernel_rfl) (by decide) (fun _ => False) (fun _ _ => False) (fun _ _ h => h) Still (fun _ _ _ h => h) (fun _ _ _ hm h => hm.trans h (fun _ _ h => h.elim)) [gi (.agg #[.int .i64 1, .int .i64 k]), gi (c.val), gi (.bool false), gi (.bool false), gi (.bool true), gi (.bool true), gi (.bool true), gi (.bool true), gi (.bool true)] ⟨gi_stable, gi_stable, gi_stable, gi_stable, gi_stable, gi_stable, gi_stable, gi_stable, gi_stable, trivial⟩ [] (by kernel_rfl) (by decide) (by kernel_rfl) (fun _ _ => True) (fun _ _ _ _ _ => trivial) trivial ⟨?_, ?_, ?_, ?_, ?_, ?_, ?_, ?_, ?_, trivial⟩ ?_
                  · intro tr act w' hm hout hsz hd hG hk hub
                    exact jg_run (by rfl) rfl (wanted_none rfl) (ex_loadA rfl Try.underlying24 rfl (off := 0) (cs := [.int .i64 1, .int .i64 k]) (by kernel_rfl) ((hout 9 (by decide)).trans oe9) (Cs.whole (KF.out.mod (KM5.out.trans hm (fun _ _ h => h)) (fun h => h)))) (Mod.refl _ _) rfl
                  · intro tr act w' hm hout hsz hd hG hk hub
                    exact jg_run (by rfl) rfl (wanted_none rfl) (ex_loadA rfl Try.underlying32 rfl (off := 0) (cs := c.cells) (by rw [Cm.len HCO.out.2.1]; exact size_commit) ((hout 10 (by decide)).trans oe10) (Cs.whole (KX.out.mod (KM5.out.trans hm (fun _ _ h => h)) (fun h => h)))) (Mod.refl _ _) rfl
                  · intro tr act w' hm hout hsz hd hG hk hub
                    have h0 := hd ⟨0, .data⟩ (by simp) rfl _ rfl
                    have h1 := hd ⟨1, .data⟩ (by simp) rfl _ rfl
                    refine jg_call (args := #[.agg #[.int .i64 1, .int .i64 k], c.val]) (by rfl) rfl (wanted_none rfl) (by rw [ex_callF rfl Try.func15 (by kernel_rfl) (by kernel_rfl)]; exact congrArg (fun z => Result.ok (Next.enter _ z) _) (by simp only [List.map_toArray, List.map_cons, List.map_nil, show act.eval (.tmp 76) = _ from h0, show act.eval (.tmp 77) = _ from h1]; try rfl)) (Valid_any 1 k c HCO.out _) ?_
                    rintro e w2 ⟨rfl, hm2⟩
                    exact ⟨_, rfl, hm2, congrArg Value.bool EV.out⟩
                  · intro tr act w' hm hout hsz hd hG hk hub
                    exact jg_run (by rfl) rfl (wanted_none rfl) (ex_move rfl ((hout 11 (by decide)).trans oe11)) (Mod.refl _ _) rfl
                  · intro tr act w' hm hout hsz hd hG hk hub
                    have h2 := hd ⟨2, .data⟩ (by simp) rfl _ rfl
                    have h3 := hd ⟨3, .data⟩ (by simp) rfl _ rfl
                    exact jg_run (by rfl) rfl (wanted_none rfl) (ex_bin rfl h2 h3 (guard_bools _ _ _ _ _ _) (run_eql_bools _ _ _ Try.underlying4)) (Mod.refl _ _) rfl
                  · intro tr act w' hm hout hsz hd hG hk hub
                    have h4 := hd ⟨4, .data⟩ (by simp) rfl _ rfl
                    exact jg_run (by rfl) rfl (wanted_none rfl) (ex_move rfl h4) (Mod.refl _ _) rfl
                  · intro tr act w' hm hout hsz hd hG hk hub
                    have h5 := hd ⟨5, .guard⟩ (by simp) rfl _ rfl
                    refine jg_call (args := #[]) (by rfl) rfl ((wanted_of rfl rfl (hsz 81 (by decide)) h5).trans rfl) (by rw [ex_callF rfl Try.func16 (by kernel_rfl) (by kernel_rfl)]; simp) (wakes04 _) ?_
                    rintro e w2 ⟨rfl, hm2⟩
                    exact ⟨_, rfl, hm2, rfl⟩
                  · intro tr act w' hm hout hsz hd hG hk hub
                    have h5 := hd ⟨5, .data⟩ (by simp) rfl _ rfl
                    have h6 := hd ⟨6, .data⟩ (by simp) rfl _ rfl
                    exact jg_run (by rfl) rfl (wanted_none rfl) (ex_pick rfl h5 h6 rfl) (Mod.refl _ _) rfl
                  · intro tr act w' hm hout hsz hd hG hk hub
                    have h7 := hd ⟨7, .data⟩ (by simp) rfl _ rfl
                    exact jg_run (by rfl) rfl (wanted_none rfl) (ex_assign rfl h7) (Mod.refl _ _) rfl
                  intro vs tr w7 hl htl hm hG hV
                  obtain ⟨v0x, vs0, rfl, hl0⟩ := list_cons hl
                  obtain ⟨v1x, vs1, rfl, hl1⟩ := list_cons hl0
                  obtain ⟨v2x, vs2, rfl, hl2⟩ := list_cons hl1
                  obtain ⟨v3x, vs3, rfl, hl3⟩ := list_cons hl2
                  obtain ⟨v4x, vs4, rfl, hl4⟩ := list_cons hl3
                  obtain ⟨v5x, vs5, rfl, hl5⟩ := list_cons hl4
                  obtain ⟨v6x, vs6, rfl, hl6⟩ := list_cons hl5
                  obtain ⟨v7x, vs7, rfl, hl7⟩ := list_cons hl6
                  obtain ⟨v8x, vs8, rfl, hl8⟩ := list_cons hl7
                  obtain rfl := list_nil hl8
                  clear hl hl0 hl1 hl2 hl3 hl4 hl5 hl6 hl7 hl8
                  obtain rfl : v8x = .bool true := hV 8 _ rfl
                  have ha0 := HA0.out
                  subst ha0
                  clear HA0 hV hsz0 oe9 oe10 oe11
                  simp only [putAll, Act.put, List.setIfInBounds_toArray, List.set_cons_zero, List.set_cons_succ, List.set_nil]
                  have KM6 := Lib.hid ((KM.out.trans KM5.out (fun _ _ h => h)).trans hm (fun _ _ h => h))
                  clear hm hG
                  go_wp2
                  go_ret
                  exact ⟨rfl, KM6.out⟩
              · have E4 := Lib.hid (decide_eq_false c4)
                clear c4
                have EV := Lib.hid (show validF k c = false by unfold validF; simp only [E0.out, E1.out, E2.out, E3.out, E4.out, Bool.false_and, Bool.true_and] <;> rfl)
                go_upto_region 7 with (fail)
                generalize ha0 : Act.mk _ _ = a0
                have oe9 : a0.eval (.tmp 9) = .pointer (some ⟨q0, 0, none⟩) := by rw [← ha0]; rfl
                have oe10 : a0.eval (.tmp 10) = .pointer (some ⟨q1, 0, none⟩) := by rw [← ha0]; rfl
                have hsz0 : a0.tmps.size = 84 := by rw [← ha0]; rfl
                have HA0 := Lib.hid ha0
                clear ha0
                refine wp_region_G 84 hsz0 (by kernel_rfl) (by kernel_rfl) [42, 43, 44, 45, 46, 47, 48, 49, 50, 51, 52, 53, 54, 55, 56, 57, 58, 59, 60, 61, 62, 63, 64, 65, 66, 67, 68, 69, 70, 71, 72, 73, 74, 75, 11] (by kernel_rfl) (by decide) (fun _ => False) (fun _ _ => False) (fun _ _ h => h) Still (fun _ _ _ h => h) (fun _ _ _ hm h => hm.trans h (fun _ _ h => h.elim)) [gi (.pointer (some ⟨q1, 0, none⟩)), gi (.pointer (some ⟨q1, 0, none⟩)), gi (.int .i64 c.cl), gi (.bool true), gi (.bool true), gi (.pointer (some ⟨q1, 0, none⟩)), gi (.pointer (some ⟨q1, 0, none⟩)), gi (.int .i64 c.cl), gi (.pointer (some ⟨q0, 1, none⟩)), gi (.int .i64 k), gi (.bool true), gi (.bool true), gi (.bool true), gi (.pointer (some ⟨q1, 0, none⟩)), gi (.pointer (some ⟨q1, 1, none⟩)), gi (.int .i64 c.sq), gi (.bool true), gi (.bool true), gi (.bool true), gi (.pointer (some ⟨q1, 0, none⟩)), gi (.pointer (some ⟨q1, 1, none⟩)), gi (.int .i64 c.sq), gi (.bool true), gi (.bool true), gi (.bool true), gi (.pointer (some ⟨q1, 34, none⟩)), gi (.int .i64 c.ln), gi (.bool false), gi (.bool false), gi (.bool false), gi (undef), gi (undef), gi (undef), gi (.bool false), gi (.bool false)] ⟨gi_stable, gi_stable, gi_stable, gi_stable, gi_stable, gi_stable, gi_stable, gi_stable, gi_stable, gi_stable, gi_stable, gi_stable, gi_stable, gi_stable, gi_stable, gi_stable, gi_stable, gi_stable, gi_stable, gi_stable, gi_stable, gi_stable, gi_stable, gi_stable, gi_stable, gi_stable, gi_stable, gi_stable, gi_stable, gi_stable, gi_stable, gi_stable, gi_stable, gi_stable, gi_stable, trivial⟩ [] (by kernel_rfl) (by decide) (by kernel_rfl) (fun _ _ => True) (fun _ _ _ _ _ => trivial) trivial ⟨?_, ?_, ?_, ?_, ?_, ?_, ?_, ?_, ?_, ?_, ?_, ?_, ?_, ?_, ?_, ?_, ?_, ?_, ?_, ?_, ?_, ?_, ?_, ?_, ?_, ?_, ?_, ?_, ?_, ?_, ?_, ?_, ?_, ?_, ?_, trivial⟩ ?_
                · intro tr act w' hm hout hsz hd hG hk hub
                  refine jg_run (by rfl) rfl (wanted_none rfl) (ex_field rfl Try.underlying32 rfl (by kernel_rfl) ((hout 10 (by decide)).trans oe10)) (Mod.refl _ _) ?_
                  rfl
                · intro tr act w' hm hout hsz hd hG hk hub
                  have h0 := hd ⟨0, .data⟩ (by simp) rfl _ rfl
                  refine jg_run (by rfl) rfl (wanted_none rfl) (ex_field rfl Try.underlying26 rfl (by kernel_rfl) h0) (Mod.refl _ _) ?_
                  rfl
                · intro tr act w' hm hout hsz hd hG hk hub
                  have h1 := hd ⟨1, .data⟩ (by simp) rfl _ rfl
                  exact jg_run (by rfl) rfl (wanted_none rfl) (ex_load1 rfl Try.underlying3 rfl h1 (KX.out.mod hm (fun h => h)).c0) (Mod.refl _ _) rfl
                · intro tr act w' hm hout hsz hd hG hk hub
                  have h2 := hd ⟨2, .data⟩ (by simp) rfl _ rfl
                  refine jg_run (by rfl) rfl (wanted_none rfl) (ex_bin rfl h2 rfl (guard_ints _ _ _ _ _ _) (run_geq_i _ _ _ Try.underlying3)) (Mod.refl _ _) ?_
                  exact congrArg Value.bool E0.out
                · intro tr act w' hm hout hsz hd hG hk hub
                  have h3 := hd ⟨3, .data⟩ (by simp) rfl _ rfl
                  exact jg_run (by rfl) rfl (wanted_none rfl) (ex_move rfl h3) (Mod.refl _ _) rfl
                · intro tr act w' hm hout hsz hd hG hk hub
                  have h4 := hd ⟨4, .guard⟩ (by simp) rfl _ rfl
                  refine jg_run (by rfl) rfl ((wanted_of rfl rfl (hsz 46 (by decide)) h4).trans rfl) (ex_field rfl Try.underlying32 rfl (by kernel_rfl) ((hout 10 (by decide)).trans oe10)) (Mod.refl _ _) ?_
                  rfl
                · intro tr act w' hm hout hsz hd hG hk hub
                  have h4 := hd ⟨4, .guard⟩ (by simp) rfl _ rfl
                  have h5 := hd ⟨5, .data⟩ (by simp) rfl _ rfl
                  refine jg_run (by rfl) rfl ((wanted_of rfl rfl (hsz 46 (by decide)) h4).trans rfl) (ex_field rfl Try.underlying26 rfl (by kernel_rfl) h5) (Mod.refl _ _) ?_
                  rfl
                · intro tr act w' hm hout hsz hd hG hk hub
                  have h4 := hd ⟨4, .guard⟩ (by simp) rfl _ rfl
                  have h6 := hd ⟨6, .data⟩ (by simp) rfl _ rfl
                  exact jg_run (by rfl) rfl ((wanted_of rfl rfl (hsz 46 (by decide)) h4).trans rfl) (ex_load1 rfl Try.underlying3 rfl h6 (KX.out.mod hm (fun h => h)).c0) (Mod.refl _ _) rfl
                · intro tr act w' hm hout hsz hd hG hk hub
                  have h4 := hd ⟨4, .guard⟩ (by simp) rfl _ rfl
                  refine jg_run (by rfl) rfl ((wanted_of rfl rfl (hsz 46 (by decide)) h4).trans rfl) (ex_field rfl Try.underlying24 rfl (by kernel_rfl) ((hout 9 (by decide)).trans oe9)) (Mod.refl _ _) ?_
                  rfl
                · intro tr act w' hm hout hsz hd hG hk hub
                  have h4 := hd ⟨4, .guard⟩ (by simp) rfl _ rfl
                  have h8 := hd ⟨8, .data⟩ (by simp) rfl _ rfl
                  exact jg_run (by rfl) rfl ((wanted_of rfl rfl (hsz 46 (by decide)) h4).trans rfl) (ex_load1 rfl Try.underlying3 rfl h8 (by rw [(KF.out.mod hm (fun h => h)).cell]; rfl)) (Mod.refl _ _) rfl
                · intro tr act w' hm hout hsz hd hG hk hub
                  have h4 := hd ⟨4, .guard⟩ (by simp) rfl _ rfl
                  have h7 := hd ⟨7, .data⟩ (by simp) rfl _ rfl
                  have h9 := hd ⟨9, .data⟩ (by simp) rfl _ rfl
                  refine jg_run (by rfl) rfl ((wanted_of rfl rfl (hsz 46 (by decide)) h4).trans rfl) (ex_bin rfl h7 h9 (guard_ints _ _ _ _ _ _) (run_lss_i _ _ _ Try.underlying3)) (Mod.refl _ _) ?_
                  exact congrArg Value.bool E1.out
                · intro tr act w' hm hout hsz hd hG hk hub
                  have h4 := hd ⟨4, .data⟩ (by simp) rfl _ rfl
                  have h10 := hd ⟨10, .data⟩ (by simp) rfl _ rfl
                  exact jg_run (by rfl) rfl (wanted_none rfl) (ex_pick rfl h4 h10 rfl) (Mod.refl _ _) rfl
                · intro tr act w' hm hout hsz hd hG hk hub
                  have h11 := hd ⟨11, .data⟩ (by simp) rfl _ rfl
                  exact jg_run (by rfl) rfl (wanted_none rfl) (ex_move rfl h11) (Mod.refl _ _) rfl
                · intro tr act w' hm hout hsz hd hG hk hub
                  have h12 := hd ⟨12, .guard⟩ (by simp) rfl _ rfl
                  refine jg_run (by rfl) rfl ((wanted_of rfl rfl (hsz 54 (by decide)) h12).trans rfl) (ex_field rfl Try.underlying32 rfl (by kernel_rfl) ((hout 10 (by decide)).trans oe10)) (Mod.refl _ _) ?_
                  rfl
                · intro tr act w' hm hout hsz hd hG hk hub
                  have h12 := hd ⟨12, .guard⟩ (by simp) rfl _ rfl
                  have h13 := hd ⟨13, .data⟩ (by simp) rfl _ rfl
                  refine jg_run (by rfl) rfl ((wanted_of rfl rfl (hsz 54 (by decide)) h12).trans rfl) (ex_field rfl Try.underlying26 rfl (by kernel_rfl) h13) (Mod.refl _ _) ?_
                  rfl
                · intro tr act w' hm hout hsz hd hG hk hub
                  have h12 := hd ⟨12, .guard⟩ (by simp) rfl _ rfl
                  have h14 := hd ⟨14, .data⟩ (by simp) rfl _ rfl
                  exact jg_run (by rfl) rfl ((wanted_of rfl rfl (hsz 54 (by decide)) h12).trans rfl) (ex_load1 rfl Try.underlying3 rfl h14 (KX.out.mod hm (fun h => h)).c1) (Mod.refl _ _) rfl
                · intro tr act w' hm hout hsz hd hG hk hub
                  have h12 := hd ⟨12, .guard⟩ (by simp) rfl _ rfl
                  have h15 := hd ⟨15, .data⟩ (by simp) rfl _ rfl
                  refine jg_run (by rfl) rfl ((wanted_of rfl rfl (hsz 54 (by decide)) h12).trans rfl) (ex_bin rfl h15 rfl (guard_ints _ _ _ _ _ _) (run_geq_i _ _ _ Try.underlying3)) (Mod.refl _ _) ?_
                  exact congrArg Value.bool E2.out
                · intro tr act w' hm hout hsz hd hG hk hub
                  have h12 := hd ⟨12, .data⟩ (by simp) rfl _ rfl
                  have h16 := hd ⟨16, .data⟩ (by simp) rfl _ rfl
                  exact jg_run (by rfl) rfl (wanted_none rfl) (ex_pick rfl h12 h16 rfl) (Mod.refl _ _) rfl
                · intro tr act w' hm hout hsz hd hG hk hub
                  have h17 := hd ⟨17, .data⟩ (by simp) rfl _ rfl
                  exact jg_run (by rfl) rfl (wanted_none rfl) (ex_move rfl h17) (Mod.refl _ _) rfl
                · intro tr act w' hm hout hsz hd hG hk hub
                  have h18 := hd ⟨18, .guard⟩ (by simp) rfl _ rfl
                  refine jg_run (by rfl) rfl ((wanted_of rfl rfl (hsz 60 (by decide)) h18).trans rfl) (ex_field rfl Try.underlying32 rfl (by kernel_rfl) ((hout 10 (by decide)).trans oe10)) (Mod.refl _ _) ?_
                  rfl
                · intro tr act w' hm hout hsz hd hG hk hub
                  have h18 := hd ⟨18, .guard⟩ (by simp) rfl _ rfl
                  have h19 := hd ⟨19, .data⟩ (by simp) rfl _ rfl
                  refine jg_run (by rfl) rfl ((wanted_of rfl rfl (hsz 60 (by decide)) h18).trans rfl) (ex_field rfl Try.underlying26 rfl (by kernel_rfl) h19) (Mod.refl _ _) ?_
                  rfl
                · intro tr act w' hm hout hsz hd hG hk hub
                  have h18 := hd ⟨18, .guard⟩ (by simp) rfl _ rfl
                  have h20 := hd ⟨20, .data⟩ (by simp) rfl _ rfl
                  exact jg_run (by rfl) rfl ((wanted_of rfl rfl (hsz 60 (by decide)) h18).trans rfl) (ex_load1 rfl Try.underlying3 rfl h20 (KX.out.mod hm (fun h => h)).c1) (Mod.refl _ _) rfl
                · intro tr act w' hm hout hsz hd hG hk hub
                  have h18 := hd ⟨18, .guard⟩ (by simp) rfl _ rfl
                  have h21 := hd ⟨21, .data⟩ (by simp) rfl _ rfl
                  refine jg_run (by rfl) rfl ((wanted_of rfl rfl (hsz 60 (by decide)) h18).trans rfl) (ex_bin rfl h21 rfl (guard_ints _ _ _ _ _ _) (run_leq_i _ _ _ Try.underlying3)) (Mod.refl _ _) ?_
                  exact congrArg Value.bool E3.out
                · intro tr act w' hm hout hsz hd hG hk hub
                  have h18 := hd ⟨18, .data⟩ (by simp) rfl _ rfl
                  have h22 := hd ⟨22, .data⟩ (by simp) rfl _ rfl
                  exact jg_run (by rfl) rfl (wanted_none rfl) (ex_pick rfl h18 h22 rfl) (Mod.refl _ _) rfl
                · intro tr act w' hm hout hsz hd hG hk hub
                  have h23 := hd ⟨23, .data⟩ (by simp) rfl _ rfl
                  exact jg_run (by rfl) rfl (wanted_none rfl) (ex_move rfl h23) (Mod.refl _ _) rfl
                · intro tr act w' hm hout hsz hd hG hk hub
                  have h24 := hd ⟨24, .guard⟩ (by simp) rfl _ rfl
                  refine jg_run (by rfl) rfl ((wanted_of rfl rfl (hsz 66 (by decide)) h24).trans rfl) (ex_field rfl Try.underlying32 rfl (by kernel_rfl) ((hout 10 (by decide)).trans oe10)) (Mod.refl _ _) ?_
                  rfl
                · intro tr act w' hm hout hsz hd hG hk hub
                  have h24 := hd ⟨24, .guard⟩ (by simp) rfl _ rfl
                  have h25 := hd ⟨25, .data⟩ (by simp) rfl _ rfl
                  exact jg_run (by rfl) rfl ((wanted_of rfl rfl (hsz 66 (by decide)) h24).trans rfl) (ex_load1 rfl Try.underlying3 rfl h25 ((KX.out.mod hm (fun h => h)).c34 HCO.out.2.1)) (Mod.refl _ _) rfl
                · intro tr act w' hm hout hsz hd hG hk hub
                  have h24 := hd ⟨24, .guard⟩ (by simp) rfl _ rfl
                  have h26 := hd ⟨26, .data⟩ (by simp) rfl _ rfl
                  refine jg_run (by rfl) rfl ((wanted_of rfl rfl (hsz 66 (by decide)) h24).trans rfl) (ex_bin rfl h26 rfl (guard_ints _ _ _ _ _ _) (run_geq_i _ _ _ Try.underlying3)) (Mod.refl _ _) ?_
                  exact congrArg Value.bool E4.out
                · intro tr act w' hm hout hsz hd hG hk hub
                  have h24 := hd ⟨24, .data⟩ (by simp) rfl _ rfl
                  have h27 := hd ⟨27, .data⟩ (by simp) rfl _ rfl
                  exact jg_run (by rfl) rfl (wanted_none rfl) (ex_pick rfl h24 h27 rfl) (Mod.refl _ _) rfl
                · intro tr act w' hm hout hsz hd hG hk hub
                  have h28 := hd ⟨28, .data⟩ (by simp) rfl _ rfl
                  exact jg_run (by rfl) rfl (wanted_none rfl) (ex_move rfl h28) (Mod.refl _ _) rfl
                · intro tr act w' hm hout hsz hd hG hk hub
                  have h29 := hd ⟨29, .guard⟩ (by simp) rfl _ rfl
                  exact jg_skip (fun _ _ _ h => h) (by rfl) rfl ((wanted_of rfl rfl (hsz 71 (by decide)) h29).trans rfl) rfl
                · intro tr act w' hm hout hsz hd hG hk hub
                  have h29 := hd ⟨29, .guard⟩ (by simp) rfl _ rfl
                  exact jg_skip (fun _ _ _ h => h) (by rfl) rfl ((wanted_of rfl rfl (hsz 71 (by decide)) h29).trans rfl) rfl
                · intro tr act w' hm hout hsz hd hG hk hub
                  have h29 := hd ⟨29, .guard⟩ (by simp) rfl _ rfl
                  exact jg_skip (fun _ _ _ h => h) (by rfl) rfl ((wanted_of rfl rfl (hsz 71 (by decide)) h29).trans rfl) rfl
                · intro tr act w' hm hout hsz hd hG hk hub
                  have h29 := hd ⟨29, .data⟩ (by simp) rfl _ rfl
                  have h32 := hd ⟨32, .data⟩ (by simp) rfl _ rfl
                  exact jg_run (by rfl) rfl (wanted_none rfl) (ex_pick rfl h29 h32 rfl) (Mod.refl _ _) rfl
                · intro tr act w' hm hout hsz hd hG hk hub
                  have h33 := hd ⟨33, .data⟩ (by simp) rfl _ rfl
                  exact jg_run (by rfl) rfl (wanted_none rfl) (ex_assign rfl h33) (Mod.refl _ _) rfl
                intro vs tr w6 hl htl hm hG hV
                obtain ⟨v0, vs0, rfl, hl0⟩ := list_cons hl
                obtain ⟨v1, vs1, rfl, hl1⟩ := list_cons hl0
                obtain ⟨v2, vs2, rfl, hl2⟩ := list_cons hl1
                obtain ⟨v3, vs3, rfl, hl3⟩ := list_cons hl2
                obtain ⟨v4, vs4, rfl, hl4⟩ := list_cons hl3
                obtain ⟨v5, vs5, rfl, hl5⟩ := list_cons hl4
                obtain ⟨v6, vs6, rfl, hl6⟩ := list_cons hl5
                obtain ⟨v7, vs7, rfl, hl7⟩ := list_cons hl6
                obtain ⟨v8, vs8, rfl, hl8⟩ := list_cons hl7
                obtain ⟨v9, vs9, rfl, hl9⟩ := list_cons hl8
                obtain ⟨v10, vs10, rfl, hl10⟩ := list_cons hl9
                obtain ⟨v11, vs11, rfl, hl11⟩ := list_cons hl10
                obtain ⟨v12, vs12, rfl, hl12⟩ := list_cons hl11
                obtain ⟨v13, vs13, rfl, hl13⟩ := list_cons hl12
                obtain ⟨v14, vs14, rfl, hl14⟩ := list_cons hl13
                obtain ⟨v15, vs15, rfl, hl15⟩ := list_cons hl14
                obtain ⟨v16, vs16, rfl, hl16⟩ := list_cons hl15
                obtain ⟨v17, vs17, rfl, hl17⟩ := list_cons hl16
                obtain ⟨v18, vs18, rfl, hl18⟩ := list_cons hl17
                obtain ⟨v19, vs19, rfl, hl19⟩ := list_cons hl18
                obtain ⟨v20, vs20, rfl, hl20⟩ := list_cons hl19
                obtain ⟨v21, vs21, rfl, hl21⟩ := list_cons hl20
                obtain ⟨v22, vs22, rfl, hl22⟩ := list_cons hl21
                obtain ⟨v23, vs23, rfl, hl23⟩ := list_cons hl22
                obtain ⟨v24, vs24, rfl, hl24⟩ := list_cons hl23
                obtain ⟨v25, vs25, rfl, hl25⟩ := list_cons hl24
                obtain ⟨v26, vs26, rfl, hl26⟩ := list_cons hl25
                obtain ⟨v27, vs27, rfl, hl27⟩ := list_cons hl26
                obtain ⟨v28, vs28, rfl, hl28⟩ := list_cons hl27
                obtain ⟨v29, vs29, rfl, hl29⟩ := list_cons hl28
                obtain ⟨v30, vs30, rfl, hl30⟩ := list_cons hl29
                obtain ⟨v31, vs31, rfl, hl31⟩ := list_cons hl30
                obtain ⟨v32, vs32, rfl, hl32⟩ := list_cons hl31
                obtain ⟨v33, vs33, rfl, hl33⟩ := list_cons hl32
                obtain ⟨v34, vs34, rfl, hl34⟩ := list_cons hl33
                obtain rfl := list_nil hl34
                clear hl hl0 hl1 hl2 hl3 hl4 hl5 hl6 hl7 hl8 hl9 hl10 hl11 hl12 hl13 hl14 hl15 hl16 hl17 hl18 hl19 hl20 hl21 hl22 hl23 hl24 hl25 hl26 hl27 hl28 hl29 hl30 hl31 hl32 hl33 hl34
                obtain rfl : v34 = .bool false := hV 34 _ rfl
                have ha0 := HA0.out
                subst ha0
                clear HA0 hV hsz0 oe9 oe10
                simp only [putAll, Act.put, List.setIfInBounds_toArray, List.set_cons_zero, List.set_cons_succ, List.set_nil]
                have KM5 := Lib.hid hm
                clear hm hG
                go_upto_region 8 with (fail)
                generalize ha0 : Act.mk _ _ = a0
                have oe9 : a0.eval (.tmp 9) = .pointer (some ⟨q0, 0, none⟩) := by rw [← ha0]; rfl
                have oe10 : a0.eval (.tmp 10) = .pointer (some ⟨q1, 0, none⟩) := by rw [← ha0]; rfl
                have oe11 : a0.eval (.tmp 11) = .bool false := by rw [← ha0]; rfl
                have hsz0 : a0.tmps.size = 84 := by rw [← ha0]; rfl
                have HA0 := Lib.hid ha0
                clear ha0
                refine wp_region_G 84 hsz0 (by kernel_rfl) (by kernel_rfl) [76, 77, 78, 79, 80, 81, 82, 83, 8] (by kernel_rfl) (by decide) (fun _ => False) (fun _ _ => False) (fun _ _ h => h) Still (fun _ _ _ h => h) (fun _ _ _ hm h => hm.trans h (fun _ _ h => h.elim)) [gi (.agg #[.int .i64 1, .int .i64 k]), gi (c.val), gi (.bool false), gi (.bool false), gi (.bool true), gi (.bool true), gi (.bool true), gi (.bool true), gi (.bool true)] ⟨gi_stable, gi_stable, gi_stable, gi_stable, gi_stable, gi_stable, gi_stable, gi_stable, gi_stable, trivial⟩ [] (by kernel_rfl) (by decide) (by kernel_rfl) (fun _ _ => True) (fun _ _ _ _ _ => trivial) trivial ⟨?_, ?_, ?_, ?_, ?_, ?_, ?_, ?_, ?_, trivial⟩ ?_
                · intro tr act w' hm hout hsz hd hG hk hub
                  exact jg_run (by rfl) rfl (wanted_none rfl) (ex_loadA rfl Try.underlying24 rfl (off := 0) (cs := [.int .i64 1, .int .i64 k]) (by kernel_rfl) ((hout 9 (by decide)).trans oe9) (Cs.whole (KF.out.mod (KM5.out.trans hm (fun _ _ h => h)) (fun h => h)))) (Mod.refl _ _) rfl
                · intro tr act w' hm hout hsz hd hG hk hub
                  exact jg_run (by rfl) rfl (wanted_none rfl) (ex_loadA rfl Try.underlying32 rfl (off := 0) (cs := c.cells) (by rw [Cm.len HCO.out.2.1]; exact size_commit) ((hout 10 (by decide)).trans oe10) (Cs.whole (KX.out.mod (KM5.out.trans hm (fun _ _ h => h)) (fun h => h)))) (Mod.refl _ _) rfl
                · intro tr act w' hm hout hsz hd hG hk hub
                  have h0 := hd ⟨0, .data⟩ (by simp) rfl _ rfl
                  have h1 := hd ⟨1, .data⟩ (by simp) rfl _ rfl
                  refine jg_call (args := #[.agg #[.int .i64 1, .int .i64 k], c.val]) (by rfl) rfl (wanted_none rfl) (by rw [ex_callF rfl Try.func15 (by kernel_rfl) (by kernel_rfl)]; exact congrArg (fun z => Result.ok (Next.enter _ z) _) (by simp only [List.map_toArray, List.map_cons, List.map_nil, show act.eval (.tmp 76) = _ from h0, show act.eval (.tmp 77) = _ from h1]; try rfl)) (Valid_any 1 k c HCO.out _) ?_
                  rintro e w2 ⟨rfl, hm2⟩
                  exact ⟨_, rfl, hm2, congrArg Value.bool EV.out⟩
                · intro tr act w' hm hout hsz hd hG hk hub
                  exact jg_run (by rfl) rfl (wanted_none rfl) (ex_move rfl ((hout 11 (by decide)).trans oe11)) (Mod.refl _ _) rfl
                · intro tr act w' hm hout hsz hd hG hk hub
                  have h2 := hd ⟨2, .data⟩ (by simp) rfl _ rfl
                  have h3 := hd ⟨3, .data⟩ (by simp) rfl _ rfl
                  exact jg_run (by rfl) rfl (wanted_none rfl) (ex_bin rfl h2 h3 (guard_bools _ _ _ _ _ _) (run_eql_bools _ _ _ Try.underlying4)) (Mod.refl _ _) rfl
                · intro tr act w' hm hout hsz hd hG hk hub
                  have h4 := hd ⟨4, .data⟩ (by simp) rfl _ rfl
                  exact jg_run (by rfl) rfl (wanted_none rfl) (ex_move rfl h4) (Mod.refl _ _) rfl
                · intro tr act w' hm hout hsz hd hG hk hub
                  have h5 := hd ⟨5, .guard⟩ (by simp) rfl _ rfl
                  refine jg_call (args := #[]) (by rfl) rfl ((wanted_of rfl rfl (hsz 81 (by decide)) h5).trans rfl) (by rw [ex_callF rfl Try.func16 (by kernel_rfl) (by kernel_rfl)]; simp) (wakes04 _) ?_
                  rintro e w2 ⟨rfl, hm2⟩
                  exact ⟨_, rfl, hm2, rfl⟩
                · intro tr act w' hm hout hsz hd hG hk hub
                  have h5 := hd ⟨5, .data⟩ (by simp) rfl _ rfl
                  have h6 := hd ⟨6, .data⟩ (by simp) rfl _ rfl
                  exact jg_run (by rfl) rfl (wanted_none rfl) (ex_pick rfl h5 h6 rfl) (Mod.refl _ _) rfl
                · intro tr act w' hm hout hsz hd hG hk hub
                  have h7 := hd ⟨7, .data⟩ (by simp) rfl _ rfl
                  exact jg_run (by rfl) rfl (wanted_none rfl) (ex_assign rfl h7) (Mod.refl _ _) rfl
                intro vs tr w7 hl htl hm hG hV
                obtain ⟨v0x, vs0, rfl, hl0⟩ := list_cons hl
                obtain ⟨v1x, vs1, rfl, hl1⟩ := list_cons hl0
                obtain ⟨v2x, vs2, rfl, hl2⟩ := list_cons hl1
                obtain ⟨v3x, vs3, rfl, hl3⟩ := list_cons hl2
                obtain ⟨v4x, vs4, rfl, hl4⟩ := list_cons hl3
                obtain ⟨v5x, vs5, rfl, hl5⟩ := list_cons hl4
                obtain ⟨v6x, vs6, rfl, hl6⟩ := list_cons hl5
                obtain ⟨v7x, vs7, rfl, hl7⟩ := list_cons hl6
                obtain ⟨v8x, vs8, rfl, hl8⟩ := list_cons hl7
                obtain rfl := list_nil hl8
                clear hl hl0 hl1 hl2 hl3 hl4 hl5 hl6 hl7 hl8
                obtain rfl : v8x = .bool true := hV 8 _ rfl
                have ha0 := HA0.out
                subst ha0
                clear HA0 hV hsz0 oe9 oe10 oe11
                simp only [putAll, Act.put, List.setIfInBounds_toArray, List.set_cons_zero, List.set_cons_succ, List.set_nil]
                have KM6 := Lib.hid ((KM.out.trans KM5.out (fun _ _ h => h)).trans hm (fun _ _ h => h))
                clear hm hG
                go_wp2
                go_ret
                exact ⟨rfl, KM6.out⟩
            · have E3 := Lib.hid (decide_eq_false c3)
              clear c3
              have EV := Lib.hid (show validF k c = false by unfold validF; simp only [E0.out, E1.out, E2.out, E3.out, Bool.false_and, Bool.true_and] <;> rfl)
              go_upto_region 7 with (fail)
              generalize ha0 : Act.mk _ _ = a0
              have oe9 : a0.eval (.tmp 9) = .pointer (some ⟨q0, 0, none⟩) := by rw [← ha0]; rfl
              have oe10 : a0.eval (.tmp 10) = .pointer (some ⟨q1, 0, none⟩) := by rw [← ha0]; rfl
              have hsz0 : a0.tmps.size = 84 := by rw [← ha0]; rfl
              have HA0 := Lib.hid ha0
              clear ha0
              refine wp_region_G 84 hsz0 (by kernel_rfl) (by kernel_rfl) [42, 43, 44, 45, 46, 47, 48, 49, 50, 51, 52, 53, 54, 55, 56, 57, 58, 59, 60, 61, 62, 63, 64, 65, 66, 67, 68, 69, 70, 71, 72, 73, 74, 75, 11] (by kernel_rfl) (by decide) (fun _ => False) (fun _ _ => False) (fun _ _ h => h) Still (fun _ _ _ h => h) (fun _ _ _ hm h => hm.trans h (fun _ _ h => h.elim)) [gi (.pointer (some ⟨q1, 0, none⟩)), gi (.pointer (some ⟨q1, 0, none⟩)), gi (.int .i64 c.cl), gi (.bool true), gi (.bool true), gi (.pointer (some ⟨q1, 0, none⟩)), gi (.pointer (some ⟨q1, 0, none⟩)), gi (.int .i64 c.cl), gi (.pointer (some ⟨q0, 1, none⟩)), gi (.int .i64 k), gi (.bool true), gi (.bool true), gi (.bool true), gi (.pointer (some ⟨q1, 0, none⟩)), gi (.pointer (some ⟨q1, 1, none⟩)), gi (.int .i64 c.sq), gi (.bool true), gi (.bool true), gi (.bool true), gi (.pointer (some ⟨q1, 0, none⟩)), gi (.pointer (some ⟨q1, 1, none⟩)), gi (.int .i64 c.sq), gi (.bool false), gi (.bool false), gi (.bool false), gi (undef), gi (undef), gi (undef), gi (.bool false), gi (.bool false), gi (undef), gi (undef), gi (undef), gi (.bool false), gi (.bool false)] ⟨gi_stable, gi_stable, gi_stable, gi_stable, gi_stable, gi_stable, gi_stable, gi_stable, gi_stable, gi_stable, gi_stable, gi_stable, gi_stable, gi_stable, gi_stable, gi_stable, gi_stable, gi_stable, gi_stable, gi_stable, gi_stable, gi_stable, gi_stable, gi_stable, gi_stable, gi_stable, gi_stable, gi_stable, gi_stable, gi_stable, gi_stable, gi_stable, gi_stable, gi_stable, gi_stable, trivial⟩ [] (by kernel_rfl) (by decide) (by kernel_rfl) (fun _ _ => True) (fun _ _ _ _ _ => trivial) trivial ⟨?_, ?_, ?_, ?_, ?_, ?_, ?_, ?_, ?_, ?_, ?_, ?_, ?_, ?_, ?_, ?_, ?_, ?_, ?_, ?_, ?_, ?_, ?_, ?_, ?_, ?_, ?_, ?_, ?_, ?_, ?_, ?_, ?_, ?_, ?_, trivial⟩ ?_
              · intro tr act w' hm hout hsz hd hG hk hub
                refine jg_run (by rfl) rfl (wanted_none rfl) (ex_field rfl Try.underlying32 rfl (by kernel_rfl) ((hout 10 (by decide)).trans oe10)) (Mod.refl _ _) ?_
                rfl
              · intro tr act w' hm hout hsz hd hG hk hub
                have h0 := hd ⟨0, .data⟩ (by simp) rfl _ rfl
                refine jg_run (by rfl) rfl (wanted_none rfl) (ex_field rfl Try.underlying26 rfl (by kernel_rfl) h0) (Mod.refl _ _) ?_
                rfl
              · intro tr act w' hm hout hsz hd hG hk hub
                have h1 := hd ⟨1, .data⟩ (by simp) rfl _ rfl
                exact jg_run (by rfl) rfl (wanted_none rfl) (ex_load1 rfl Try.underlying3 rfl h1 (KX.out.mod hm (fun h => h)).c0) (Mod.refl _ _) rfl
              · intro tr act w' hm hout hsz hd hG hk hub
                have h2 := hd ⟨2, .data⟩ (by simp) rfl _ rfl
                refine jg_run (by rfl) rfl (wanted_none rfl) (ex_bin rfl h2 rfl (guard_ints _ _ _ _ _ _) (run_geq_i _ _ _ Try.underlying3)) (Mod.refl _ _) ?_
                exact congrArg Value.bool E0.out
              · intro tr act w' hm hout hsz hd hG hk hub
                have h3 := hd ⟨3, .data⟩ (by simp) rfl _ rfl
                exact jg_run (by rfl) rfl (wanted_none rfl) (ex_move rfl h3) (Mod.refl _ _) rfl
              · intro tr act w' hm hout hsz hd hG hk hub
                have h4 := hd ⟨4, .guard⟩ (by simp) rfl _ rfl
                refine jg_run (by rfl) rfl ((wanted_of rfl rfl (hsz 46 (by decide)) h4).trans rfl) (ex_field rfl Try.underlying32 rfl (by kernel_rfl) ((hout 10 (by decide)).trans oe10)) (Mod.refl _ _) ?_
                rfl
              · intro tr act w' hm hout hsz hd hG hk hub
                have h4 := hd ⟨4, .guard⟩ (by simp) rfl _ rfl
                have h5 := hd ⟨5, .data⟩ (by simp) rfl _ rfl
                refine jg_run (by rfl) rfl ((wanted_of rfl rfl (hsz 46 (by decide)) h4).trans rfl) (ex_field rfl Try.underlying26 rfl (by kernel_rfl) h5) (Mod.refl _ _) ?_
                rfl
              · intro tr act w' hm hout hsz hd hG hk hub
                have h4 := hd ⟨4, .guard⟩ (by simp) rfl _ rfl
                have h6 := hd ⟨6, .data⟩ (by simp) rfl _ rfl
                exact jg_run (by rfl) rfl ((wanted_of rfl rfl (hsz 46 (by decide)) h4).trans rfl) (ex_load1 rfl Try.underlying3 rfl h6 (KX.out.mod hm (fun h => h)).c0) (Mod.refl _ _) rfl
              · intro tr act w' hm hout hsz hd hG hk hub
                have h4 := hd ⟨4, .guard⟩ (by simp) rfl _ rfl
                refine jg_run (by rfl) rfl ((wanted_of rfl rfl (hsz 46 (by decide)) h4).trans rfl) (ex_field rfl Try.underlying24 rfl (by kernel_rfl) ((hout 9 (by decide)).trans oe9)) (Mod.refl _ _) ?_
                rfl
              · intro tr act w' hm hout hsz hd hG hk hub
                have h4 := hd ⟨4, .guard⟩ (by simp) rfl _ rfl
                have h8 := hd ⟨8, .data⟩ (by simp) rfl _ rfl
                exact jg_run (by rfl) rfl ((wanted_of rfl rfl (hsz 46 (by decide)) h4).trans rfl) (ex_load1 rfl Try.underlying3 rfl h8 (by rw [(KF.out.mod hm (fun h => h)).cell]; rfl)) (Mod.refl _ _) rfl
              · intro tr act w' hm hout hsz hd hG hk hub
                have h4 := hd ⟨4, .guard⟩ (by simp) rfl _ rfl
                have h7 := hd ⟨7, .data⟩ (by simp) rfl _ rfl
                have h9 := hd ⟨9, .data⟩ (by simp) rfl _ rfl
                refine jg_run (by rfl) rfl ((wanted_of rfl rfl (hsz 46 (by decide)) h4).trans rfl) (ex_bin rfl h7 h9 (guard_ints _ _ _ _ _ _) (run_lss_i _ _ _ Try.underlying3)) (Mod.refl _ _) ?_
                exact congrArg Value.bool E1.out
              · intro tr act w' hm hout hsz hd hG hk hub
                have h4 := hd ⟨4, .data⟩ (by simp) rfl _ rfl
                have h10 := hd ⟨10, .data⟩ (by simp) rfl _ rfl
                exact jg_run (by rfl) rfl (wanted_none rfl) (ex_pick rfl h4 h10 rfl) (Mod.refl _ _) rfl
              · intro tr act w' hm hout hsz hd hG hk hub
                have h11 := hd ⟨11, .data⟩ (by simp) rfl _ rfl
                exact jg_run (by rfl) rfl (wanted_none rfl) (ex_move rfl h11) (Mod.refl _ _) rfl
              · intro tr act w' hm hout hsz hd hG hk hub
                have h12 := hd ⟨12, .guard⟩ (by simp) rfl _ rfl
                refine jg_run (by rfl) rfl ((wanted_of rfl rfl (hsz 54 (by decide)) h12).trans rfl) (ex_field rfl Try.underlying32 rfl (by kernel_rfl) ((hout 10 (by decide)).trans oe10)) (Mod.refl _ _) ?_
                rfl
              · intro tr act w' hm hout hsz hd hG hk hub
                have h12 := hd ⟨12, .guard⟩ (by simp) rfl _ rfl
                have h13 := hd ⟨13, .data⟩ (by simp) rfl _ rfl
                refine jg_run (by rfl) rfl ((wanted_of rfl rfl (hsz 54 (by decide)) h12).trans rfl) (ex_field rfl Try.underlying26 rfl (by kernel_rfl) h13) (Mod.refl _ _) ?_
                rfl
              · intro tr act w' hm hout hsz hd hG hk hub
                have h12 := hd ⟨12, .guard⟩ (by simp) rfl _ rfl
                have h14 := hd ⟨14, .data⟩ (by simp) rfl _ rfl
                exact jg_run (by rfl) rfl ((wanted_of rfl rfl (hsz 54 (by decide)) h12).trans rfl) (ex_load1 rfl Try.underlying3 rfl h14 (KX.out.mod hm (fun h => h)).c1) (Mod.refl _ _) rfl
              · intro tr act w' hm hout hsz hd hG hk hub
                have h12 := hd ⟨12, .guard⟩ (by simp) rfl _ rfl
                have h15 := hd ⟨15, .data⟩ (by simp) rfl _ rfl
                refine jg_run (by rfl) rfl ((wanted_of rfl rfl (hsz 54 (by decide)) h12).trans rfl) (ex_bin rfl h15 rfl (guard_ints _ _ _ _ _ _) (run_geq_i _ _ _ Try.underlying3)) (Mod.refl _ _) ?_
                exact congrArg Value.bool E2.out
              · intro tr act w' hm hout hsz hd hG hk hub
                have h12 := hd ⟨12, .data⟩ (by simp) rfl _ rfl
                have h16 := hd ⟨16, .data⟩ (by simp) rfl _ rfl
                exact jg_run (by rfl) rfl (wanted_none rfl) (ex_pick rfl h12 h16 rfl) (Mod.refl _ _) rfl
              · intro tr act w' hm hout hsz hd hG hk hub
                have h17 := hd ⟨17, .data⟩ (by simp) rfl _ rfl
                exact jg_run (by rfl) rfl (wanted_none rfl) (ex_move rfl h17) (Mod.refl _ _) rfl
              · intro tr act w' hm hout hsz hd hG hk hub
                have h18 := hd ⟨18, .guard⟩ (by simp) rfl _ rfl
                refine jg_run (by rfl) rfl ((wanted_of rfl rfl (hsz 60 (by decide)) h18).trans rfl) (ex_field rfl Try.underlying32 rfl (by kernel_rfl) ((hout 10 (by decide)).trans oe10)) (Mod.refl _ _) ?_
                rfl
              · intro tr act w' hm hout hsz hd hG hk hub
                have h18 := hd ⟨18, .guard⟩ (by simp) rfl _ rfl
                have h19 := hd ⟨19, .data⟩ (by simp) rfl _ rfl
                refine jg_run (by rfl) rfl ((wanted_of rfl rfl (hsz 60 (by decide)) h18).trans rfl) (ex_field rfl Try.underlying26 rfl (by kernel_rfl) h19) (Mod.refl _ _) ?_
                rfl
              · intro tr act w' hm hout hsz hd hG hk hub
                have h18 := hd ⟨18, .guard⟩ (by simp) rfl _ rfl
                have h20 := hd ⟨20, .data⟩ (by simp) rfl _ rfl
                exact jg_run (by rfl) rfl ((wanted_of rfl rfl (hsz 60 (by decide)) h18).trans rfl) (ex_load1 rfl Try.underlying3 rfl h20 (KX.out.mod hm (fun h => h)).c1) (Mod.refl _ _) rfl
              · intro tr act w' hm hout hsz hd hG hk hub
                have h18 := hd ⟨18, .guard⟩ (by simp) rfl _ rfl
                have h21 := hd ⟨21, .data⟩ (by simp) rfl _ rfl
                refine jg_run (by rfl) rfl ((wanted_of rfl rfl (hsz 60 (by decide)) h18).trans rfl) (ex_bin rfl h21 rfl (guard_ints _ _ _ _ _ _) (run_leq_i _ _ _ Try.underlying3)) (Mod.refl _ _) ?_
                exact congrArg Value.bool E3.out
              · intro tr act w' hm hout hsz hd hG hk hub
                have h18 := hd ⟨18, .data⟩ (by simp) rfl _ rfl
                have h22 := hd ⟨22, .data⟩ (by simp) rfl _ rfl
                exact jg_run (by rfl) rfl (wanted_none rfl) (ex_pick rfl h18 h22 rfl) (Mod.refl _ _) rfl
              · intro tr act w' hm hout hsz hd hG hk hub
                have h23 := hd ⟨23, .data⟩ (by simp) rfl _ rfl
                exact jg_run (by rfl) rfl (wanted_none rfl) (ex_move rfl h23) (Mod.refl _ _) rfl
              · intro tr act w' hm hout hsz hd hG hk hub
                have h24 := hd ⟨24, .guard⟩ (by simp) rfl _ rfl
                exact jg_skip (fun _ _ _ h => h) (by rfl) rfl ((wanted_of rfl rfl (hsz 66 (by decide)) h24).trans rfl) rfl
              · intro tr act w' hm hout hsz hd hG hk hub
                have h24 := hd ⟨24, .guard⟩ (by simp) rfl _ rfl
                exact jg_skip (fun _ _ _ h => h) (by rfl) rfl ((wanted_of rfl rfl (hsz 66 (by decide)) h24).trans rfl) rfl
              · intro tr act w' hm hout hsz hd hG hk hub
                have h24 := hd ⟨24, .guard⟩ (by simp) rfl _ rfl
                exact jg_skip (fun _ _ _ h => h) (by rfl) rfl ((wanted_of rfl rfl (hsz 66 (by decide)) h24).trans rfl) rfl
              · intro tr act w' hm hout hsz hd hG hk hub
                have h24 := hd ⟨24, .data⟩ (by simp) rfl _ rfl
                have h27 := hd ⟨27, .data⟩ (by simp) rfl _ rfl
                exact jg_run (by rfl) rfl (wanted_none rfl) (ex_pick rfl h24 h27 rfl) (Mod.refl _ _) rfl
              · intro tr act w' hm hout hsz hd hG hk hub
                have h28 := hd ⟨28, .data⟩ (by simp) rfl _ rfl
                exact jg_run (by rfl) rfl (wanted_none rfl) (ex_move rfl h28) (Mod.refl _ _) rfl
              · intro tr act w' hm hout hsz hd hG hk hub
                have h29 := hd ⟨29, .guard⟩ (by simp) rfl _ rfl
                exact jg_skip (fun _ _ _ h => h) (by rfl) rfl ((wanted_of rfl rfl (hsz 71 (by decide)) h29).trans rfl) rfl
              · intro tr act w' hm hout hsz hd hG hk hub
                have h29 := hd ⟨29, .guard⟩ (by simp) rfl _ rfl
                exact jg_skip (fun _ _ _ h => h) (by rfl) rfl ((wanted_of rfl rfl (hsz 71 (by decide)) h29).trans rfl) rfl
              · intro tr act w' hm hout hsz hd hG hk hub
                have h29 := hd ⟨29, .guard⟩ (by simp) rfl _ rfl
                exact jg_skip (fun _ _ _ h => h) (by rfl) rfl ((wanted_of rfl rfl (hsz 71 (by decide)) h29).trans rfl) rfl
              · intro tr act w' hm hout hsz hd hG hk hub
                have h29 := hd ⟨29, .data⟩ (by simp) rfl _ rfl
                have h32 := hd ⟨32, .data⟩ (by simp) rfl _ rfl
                exact jg_run (by rfl) rfl (wanted_none rfl) (ex_pick rfl h29 h32 rfl) (Mod.refl _ _) rfl
              · intro tr act w' hm hout hsz hd hG hk hub
                have h33 := hd ⟨33, .data⟩ (by simp) rfl _ rfl
                exact jg_run (by rfl) rfl (wanted_none rfl) (ex_assign rfl h33) (Mod.refl _ _) rfl
              intro vs tr w6 hl htl hm hG hV
              obtain ⟨v0, vs0, rfl, hl0⟩ := list_cons hl
              obtain ⟨v1, vs1, rfl, hl1⟩ := list_cons hl0
              obtain ⟨v2, vs2, rfl, hl2⟩ := list_cons hl1
              obtain ⟨v3, vs3, rfl, hl3⟩ := list_cons hl2
              obtain ⟨v4, vs4, rfl, hl4⟩ := list_cons hl3
              obtain ⟨v5, vs5, rfl, hl5⟩ := list_cons hl4
              obtain ⟨v6, vs6, rfl, hl6⟩ := list_cons hl5
              obtain ⟨v7, vs7, rfl, hl7⟩ := list_cons hl6
              obtain ⟨v8, vs8, rfl, hl8⟩ := list_cons hl7
              obtain ⟨v9, vs9, rfl, hl9⟩ := list_cons hl8
              obtain ⟨v10, vs10, rfl, hl10⟩ := list_cons hl9
              obtain ⟨v11, vs11, rfl, hl11⟩ := list_cons hl10
              obtain ⟨v12, vs12, rfl, hl12⟩ := list_cons hl11
              obtain ⟨v13, vs13, rfl, hl13⟩ := list_cons hl12
              obtain ⟨v14, vs14, rfl, hl14⟩ := list_cons hl13
              obtain ⟨v15, vs15, rfl, hl15⟩ := list_cons hl14
              obtain ⟨v16, vs16, rfl, hl16⟩ := list_cons hl15
              obtain ⟨v17, vs17, rfl, hl17⟩ := list_cons hl16
              obtain ⟨v18, vs18, rfl, hl18⟩ := list_cons hl17
              obtain ⟨v19, vs19, rfl, hl19⟩ := list_cons hl18
              obtain ⟨v20, vs20, rfl, hl20⟩ := list_cons hl19
              obtain ⟨v21, vs21, rfl, hl21⟩ := list_cons hl20
              obtain ⟨v22, vs22, rfl, hl22⟩ := list_cons hl21
              obtain ⟨v23, vs23, rfl, hl23⟩ := list_cons hl22
              obtain ⟨v24, vs24, rfl, hl24⟩ := list_cons hl23
              obtain ⟨v25, vs25, rfl, hl25⟩ := list_cons hl24
              obtain ⟨v26, vs26, rfl, hl26⟩ := list_cons hl25
              obtain ⟨v27, vs27, rfl, hl27⟩ := list_cons hl26
              obtain ⟨v28, vs28, rfl, hl28⟩ := list_cons hl27
              obtain ⟨v29, vs29, rfl, hl29⟩ := list_cons hl28
              obtain ⟨v30, vs30, rfl, hl30⟩ := list_cons hl29
              obtain ⟨v31, vs31, rfl, hl31⟩ := list_cons hl30
              obtain ⟨v32, vs32, rfl, hl32⟩ := list_cons hl31
              obtain ⟨v33, vs33, rfl, hl33⟩ := list_cons hl32
              obtain ⟨v34, vs34, rfl, hl34⟩ := list_cons hl33
              obtain rfl := list_nil hl34
              clear hl hl0 hl1 hl2 hl3 hl4 hl5 hl6 hl7 hl8 hl9 hl10 hl11 hl12 hl13 hl14 hl15 hl16 hl17 hl18 hl19 hl20 hl21 hl22 hl23 hl24 hl25 hl26 hl27 hl28 hl29 hl30 hl31 hl32 hl33 hl34
              obtain rfl : v34 = .bool false := hV 34 _ rfl
              have ha0 := HA0.out
              subst ha0
              clear HA0 hV hsz0 oe9 oe10
              simp only [putAll, Act.put, List.setIfInBounds_toArray, List.set_cons_zero, List.set_cons_succ, List.set_nil]
              have KM5 := Lib.hid hm
              clear hm hG
              go_upto_region 8 with (fail)
              generalize ha0 : Act.mk _ _ = a0
              have oe9 : a0.eval (.tmp 9) = .pointer (some ⟨q0, 0, none⟩) := by rw [← ha0]; rfl
              have oe10 : a0.eval (.tmp 10) = .pointer (some ⟨q1, 0, none⟩) := by rw [← ha0]; rfl
              have oe11 : a0.eval (.tmp 11) = .bool false := by rw [← ha0]; rfl
              have hsz0 : a0.tmps.size = 84 := by rw [← ha0]; rfl
              have HA0 := Lib.hid ha0
              clear ha0
              refine wp_region_G 84 hsz0 (by kernel_rfl) (by kernel_rfl) [76, 77, 78, 79, 80, 81, 82, 83, 8] (by kernel_rfl) (by decide) (fun _ => False) (fun _ _ => False) (fun _ _ h => h) Still (fun _ _ _ h => h) (fun _ _ _ hm h => hm.trans h (fun _ _ h => h.elim)) [gi (.agg #[.int .i64 1, .int .i64 k]), gi (c.val), gi (.bool false), gi (.bool false), gi (.bool true), gi (.bool true), gi (.bool true), gi (.bool true), gi (.bool true)] ⟨gi_stable, gi_stable, gi_stable, gi_stable, gi_stable, gi_stable, gi_stable, gi_stable, gi_stable, trivial⟩ [] (by kernel_rfl) (by decide) (by kernel_rfl) (fun _ _ => True) (fun _ _ _ _ _ => trivial) trivial ⟨?_, ?_, ?_, ?_, ?_, ?_, ?_, ?_, ?_, trivial⟩ ?_
              · intro tr act w' hm hout hsz hd hG hk hub
                exact jg_run (by rfl) rfl (wanted_none rfl) (ex_loadA rfl Try.underlying24 rfl (off := 0) (cs := [.int .i64 1, .int .i64 k]) (by kernel_rfl) ((hout 9 (by decide)).trans oe9) (Cs.whole (KF.out.mod (KM5.out.trans hm (fun _ _ h => h)) (fun h => h)))) (Mod.refl _ _) rfl
              · intro tr act w' hm hout hsz hd hG hk hub
                exact jg_run (by rfl) rfl (wanted_none rfl) (ex_loadA rfl Try.underlying32 rfl (off := 0) (cs := c.cells) (by rw [Cm.len HCO.out.2.1]; exact size_commit) ((hout 10 (by decide)).trans oe10) (Cs.whole (KX.out.mod (KM5.out.trans hm (fun _ _ h => h)) (fun h => h)))) (Mod.refl _ _) rfl
              · intro tr act w' hm hout hsz hd hG hk hub
                have h0 := hd ⟨0, .data⟩ (by simp) rfl _ rfl
                have h1 := hd ⟨1, .data⟩ (by simp) rfl _ rfl
                refine jg_call (args := #[.agg #[.int .i64 1, .int .i64 k], c.val]) (by rfl) rfl (wanted_none rfl) (by rw [ex_callF rfl Try.func15 (by kernel_rfl) (by kernel_rfl)]; exact congrArg (fun z => Result.ok (Next.enter _ z) _) (by simp only [List.map_toArray, List.map_cons, List.map_nil, show act.eval (.tmp 76) = _ from h0, show act.eval (.tmp 77) = _ from h1]; try rfl)) (Valid_any 1 k c HCO.out _) ?_
                rintro e w2 ⟨rfl, hm2⟩
                exact ⟨_, rfl, hm2, congrArg Value.bool EV.out⟩
              · intro tr act w' hm hout hsz hd hG hk hub
                exact jg_run (by rfl) rfl (wanted_none rfl) (ex_move rfl ((hout 11 (by decide)).trans oe11)) (Mod.refl _ _) rfl
              · intro tr act w' hm hout hsz hd hG hk hub
                have h2 := hd ⟨2, .data⟩ (by simp) rfl _ rfl
                have h3 := hd ⟨3, .data⟩ (by simp) rfl _ rfl
                exact jg_run (by rfl) rfl (wanted_none rfl) (ex_bin rfl h2 h3 (guard_bools _ _ _ _ _ _) (run_eql_bools _ _ _ Try.underlying4)) (Mod.refl _ _) rfl
              · intro tr act w' hm hout hsz hd hG hk hub
                have h4 := hd ⟨4, .data⟩ (by simp) rfl _ rfl
                exact jg_run (by rfl) rfl (wanted_none rfl) (ex_move rfl h4) (Mod.refl _ _) rfl
              · intro tr act w' hm hout hsz hd hG hk hub
                have h5 := hd ⟨5, .guard⟩ (by simp) rfl _ rfl
                refine jg_call (args := #[]) (by rfl) rfl ((wanted_of rfl rfl (hsz 81 (by decide)) h5).trans rfl) (by rw [ex_callF rfl Try.func16 (by kernel_rfl) (by kernel_rfl)]; simp) (wakes04 _) ?_
                rintro e w2 ⟨rfl, hm2⟩
                exact ⟨_, rfl, hm2, rfl⟩
              · intro tr act w' hm hout hsz hd hG hk hub
                have h5 := hd ⟨5, .data⟩ (by simp) rfl _ rfl
                have h6 := hd ⟨6, .data⟩ (by simp) rfl _ rfl
                exact jg_run (by rfl) rfl (wanted_none rfl) (ex_pick rfl h5 h6 rfl) (Mod.refl _ _) rfl
              · intro tr act w' hm hout hsz hd hG hk hub
                have h7 := hd ⟨7, .data⟩ (by simp) rfl _ rfl
                exact jg_run (by rfl) rfl (wanted_none rfl) (ex_assign rfl h7) (Mod.refl _ _) rfl
              intro vs tr w7 hl htl hm hG hV
              obtain ⟨v0x, vs0, rfl, hl0⟩ := list_cons hl
              obtain ⟨v1x, vs1, rfl, hl1⟩ := list_cons hl0
              obtain ⟨v2x, vs2, rfl, hl2⟩ := list_cons hl1
              obtain ⟨v3x, vs3, rfl, hl3⟩ := list_cons hl2
              obtain ⟨v4x, vs4, rfl, hl4⟩ := list_cons hl3
              obtain ⟨v5x, vs5, rfl, hl5⟩ := list_cons hl4
              obtain ⟨v6x, vs6, rfl, hl6⟩ := list_cons hl5
              obtain ⟨v7x, vs7, rfl, hl7⟩ := list_cons hl6
              obtain ⟨v8x, vs8, rfl, hl8⟩ := list_cons hl7
              obtain rfl := list_nil hl8
              clear hl hl0 hl1 hl2 hl3 hl4 hl5 hl6 hl7 hl8
              obtain rfl : v8x = .bool true := hV 8 _ rfl
              have ha0 := HA0.out
              subst ha0
              clear HA0 hV hsz0 oe9 oe10 oe11
              simp only [putAll, Act.put, List.setIfInBounds_toArray, List.set_cons_zero, List.set_cons_succ, List.set_nil]
              have KM6 := Lib.hid ((KM.out.trans KM5.out (fun _ _ h => h)).trans hm (fun _ _ h => h))
              clear hm hG
              go_wp2
              go_ret
              exact ⟨rfl, KM6.out⟩
          · have E2 := Lib.hid (decide_eq_false c2)
            clear c2
            have EV := Lib.hid (show validF k c = false by unfold validF; simp only [E0.out, E1.out, E2.out, Bool.false_and, Bool.true_and] <;> rfl)
            go_upto_region 7 with (fail)
            generalize ha0 : Act.mk _ _ = a0
            have oe9 : a0.eval (.tmp 9) = .pointer (some ⟨q0, 0, none⟩) := by rw [← ha0]; rfl
            have oe10 : a0.eval (.tmp 10) = .pointer (some ⟨q1, 0, none⟩) := by rw [← ha0]; rfl
            have hsz0 : a0.tmps.size = 84 := by rw [← ha0]; rfl
            have HA0 := Lib.hid ha0
            clear ha0
            refine wp_region_G 84 hsz0 (by kernel_rfl) (by kernel_rfl) [42, 43, 44, 45, 46, 47, 48, 49, 50, 51, 52, 53, 54, 55, 56, 57, 58, 59, 60, 61, 62, 63, 64, 65, 66, 67, 68, 69, 70, 71, 72, 73, 74, 75, 11] (by kernel_rfl) (by decide) (fun _ => False) (fun _ _ => False) (fun _ _ h => h) Still (fun _ _ _ h => h) (fun _ _ _ hm h => hm.trans h (fun _ _ h => h.elim)) [gi (.pointer (some ⟨q1, 0, none⟩)), gi (.pointer (some ⟨q1, 0, none⟩)), gi (.int .i64 c.cl), gi (.bool true), gi (.bool true), gi (.pointer (some ⟨q1, 0, none⟩)), gi (.pointer (some ⟨q1, 0, none⟩)), gi (.int .i64 c.cl), gi (.pointer (some ⟨q0, 1, none⟩)), gi (.int .i64 k), gi (.bool true), gi (.bool true), gi (.bool true), gi (.pointer (some ⟨q1, 0, none⟩)), gi (.pointer (some ⟨q1, 1, none⟩)), gi (.int .i64 c.sq), gi (.bool false), gi (.bool false), gi (.bool false), gi (undef), gi (undef), gi (undef), gi (undef), gi (.bool false), gi (.bool false), gi (undef), gi (undef), gi (undef), gi (.bool false), gi (.bool false), gi (undef), gi (undef), gi (undef), gi (.bool false), gi (.bool false)] ⟨gi_stable, gi_stable, gi_stable, gi_stable, gi_stable, gi_stable, gi_stable, gi_stable, gi_stable, gi_stable, gi_stable, gi_stable, gi_stable, gi_stable, gi_stable, gi_stable, gi_stable, gi_stable, gi_stable, gi_stable, gi_stable, gi_stable, gi_stable, gi_stable, gi_stable, gi_stable, gi_stable, gi_stable, gi_stable, gi_stable, gi_stable, gi_stable, gi_stable, gi_stable, gi_stable, trivial⟩ [] (by kernel_rfl) (by decide) (by kernel_rfl) (fun _ _ => True) (fun _ _ _ _ _ => trivial) trivial ⟨?_, ?_, ?_, ?_, ?_, ?_, ?_, ?_, ?_, ?_, ?_, ?_, ?_, ?_, ?_, ?_, ?_, ?_, ?_, ?_, ?_, ?_, ?_, ?_, ?_, ?_, ?_, ?_, ?_, ?_, ?_, ?_, ?_, ?_, ?_, trivial⟩ ?_
            · intro tr act w' hm hout hsz hd hG hk hub
              refine jg_run (by rfl) rfl (wanted_none rfl) (ex_field rfl Try.underlying32 rfl (by kernel_rfl) ((hout 10 (by decide)).trans oe10)) (Mod.refl _ _) ?_
              rfl
            · intro tr act w' hm hout hsz hd hG hk hub
              have h0 := hd ⟨0, .data⟩ (by simp) rfl _ rfl
              refine jg_run (by rfl) rfl (wanted_none rfl) (ex_field rfl Try.underlying26 rfl (by kernel_rfl) h0) (Mod.refl _ _) ?_
              rfl
            · intro tr act w' hm hout hsz hd hG hk hub
              have h1 := hd ⟨1, .data⟩ (by simp) rfl _ rfl
              exact jg_run (by rfl) rfl (wanted_none rfl) (ex_load1 rfl Try.underlying3 rfl h1 (KX.out.mod hm (fun h => h)).c0) (Mod.refl _ _) rfl
            · intro tr act w' hm hout hsz hd hG hk hub
              have h2 := hd ⟨2, .data⟩ (by simp) rfl _ rfl
              refine jg_run (by rfl) rfl (wanted_none rfl) (ex_bin rfl h2 rfl (guard_ints _ _ _ _ _ _) (run_geq_i _ _ _ Try.underlying3)) (Mod.refl _ _) ?_
              exact congrArg Value.bool E0.out
            · intro tr act w' hm hout hsz hd hG hk hub
              have h3 := hd ⟨3, .data⟩ (by simp) rfl _ rfl
              exact jg_run (by rfl) rfl (wanted_none rfl) (ex_move rfl h3) (Mod.refl _ _) rfl
            · intro tr act w' hm hout hsz hd hG hk hub
              have h4 := hd ⟨4, .guard⟩ (by simp) rfl _ rfl
              refine jg_run (by rfl) rfl ((wanted_of rfl rfl (hsz 46 (by decide)) h4).trans rfl) (ex_field rfl Try.underlying32 rfl (by kernel_rfl) ((hout 10 (by decide)).trans oe10)) (Mod.refl _ _) ?_
              rfl
            · intro tr act w' hm hout hsz hd hG hk hub
              have h4 := hd ⟨4, .guard⟩ (by simp) rfl _ rfl
              have h5 := hd ⟨5, .data⟩ (by simp) rfl _ rfl
              refine jg_run (by rfl) rfl ((wanted_of rfl rfl (hsz 46 (by decide)) h4).trans rfl) (ex_field rfl Try.underlying26 rfl (by kernel_rfl) h5) (Mod.refl _ _) ?_
              rfl
            · intro tr act w' hm hout hsz hd hG hk hub
              have h4 := hd ⟨4, .guard⟩ (by simp) rfl _ rfl
              have h6 := hd ⟨6, .data⟩ (by simp) rfl _ rfl
              exact jg_run (by rfl) rfl ((wanted_of rfl rfl (hsz 46 (by decide)) h4).trans rfl) (ex_load1 rfl Try.underlying3 rfl h6 (KX.out.mod hm (fun h => h)).c0) (Mod.refl _ _) rfl
            · intro tr act w' hm hout hsz hd hG hk hub
              have h4 := hd ⟨4, .guard⟩ (by simp) rfl _ rfl
              refine jg_run (by rfl) rfl ((wanted_of rfl rfl (hsz 46 (by decide)) h4).trans rfl) (ex_field rfl Try.underlying24 rfl (by kernel_rfl) ((hout 9 (by decide)).trans oe9)) (Mod.refl _ _) ?_
              rfl
            · intro tr act w' hm hout hsz hd hG hk hub
              have h4 := hd ⟨4, .guard⟩ (by simp) rfl _ rfl
              have h8 := hd ⟨8, .data⟩ (by simp) rfl _ rfl
              exact jg_run (by rfl) rfl ((wanted_of rfl rfl (hsz 46 (by decide)) h4).trans rfl) (ex_load1 rfl Try.underlying3 rfl h8 (by rw [(KF.out.mod hm (fun h => h)).cell]; rfl)) (Mod.refl _ _) rfl
            · intro tr act w' hm hout hsz hd hG hk hub
              have h4 := hd ⟨4, .guard⟩ (by simp) rfl _ rfl
              have h7 := hd ⟨7, .data⟩ (by simp) rfl _ rfl
              have h9 := hd ⟨9, .data⟩ (by simp) rfl _ rfl
              refine jg_run (by rfl) rfl ((wanted_of rfl rfl (hsz 46 (by decide)) h4).trans rfl) (ex_bin rfl h7 h9 (guard_ints _ _ _ _ _ _) (run_lss_i _ _ _ Try.underlying3)) (Mod.refl _ _) ?_
              exact congrArg Value.bool E1.out
            · intro tr act w' hm hout hsz hd hG hk hub
              have h4 := hd ⟨4, .data⟩ (by simp) rfl _ rfl
              have h10 := hd ⟨10, .data⟩ (by simp) rfl _ rfl
              exact jg_run (by rfl) rfl (wanted_none rfl) (ex_pick rfl h4 h10 rfl) (Mod.refl _ _) rfl
            · intro tr act w' hm hout hsz hd hG hk hub
              have h11 := hd ⟨11, .data⟩ (by simp) rfl _ rfl
              exact jg_run (by rfl) rfl (wanted_none rfl) (ex_move rfl h11) (Mod.refl _ _) rfl
            · intro tr act w' hm hout hsz hd hG hk hub
              have h12 := hd ⟨12, .guard⟩ (by simp) rfl _ rfl
              refine jg_run (by rfl) rfl ((wanted_of rfl rfl (hsz 54 (by decide)) h12).trans rfl) (ex_field rfl Try.underlying32 rfl (by kernel_rfl) ((hout 10 (by decide)).trans oe10)) (Mod.refl _ _) ?_
              rfl
            · intro tr act w' hm hout hsz hd hG hk hub
              have h12 := hd ⟨12, .guard⟩ (by simp) rfl _ rfl
              have h13 := hd ⟨13, .data⟩ (by simp) rfl _ rfl
              refine jg_run (by rfl) rfl ((wanted_of rfl rfl (hsz 54 (by decide)) h12).trans rfl) (ex_field rfl Try.underlying26 rfl (by kernel_rfl) h13) (Mod.refl _ _) ?_
              rfl
            · intro tr act w' hm hout hsz hd hG hk hub
              have h12 := hd ⟨12, .guard⟩ (by simp) rfl _ rfl
              have h14 := hd ⟨14, .data⟩ (by simp) rfl _ rfl
              exact jg_run (by rfl) rfl ((wanted_of rfl rfl (hsz 54 (by decide)) h12).trans rfl) (ex_load1 rfl Try.underlying3 rfl h14 (KX.out.mod hm (fun h => h)).c1) (Mod.refl _ _) rfl
            · intro tr act w' hm hout hsz hd hG hk hub
              have h12 := hd ⟨12, .guard⟩ (by simp) rfl _ rfl
              have h15 := hd ⟨15, .data⟩ (by simp) rfl _ rfl
              refine jg_run (by rfl) rfl ((wanted_of rfl rfl (hsz 54 (by decide)) h12).trans rfl) (ex_bin rfl h15 rfl (guard_ints _ _ _ _ _ _) (run_geq_i _ _ _ Try.underlying3)) (Mod.refl _ _) ?_
              exact congrArg Value.bool E2.out
            · intro tr act w' hm hout hsz hd hG hk hub
              have h12 := hd ⟨12, .data⟩ (by simp) rfl _ rfl
              have h16 := hd ⟨16, .data⟩ (by simp) rfl _ rfl
              exact jg_run (by rfl) rfl (wanted_none rfl) (ex_pick rfl h12 h16 rfl) (Mod.refl _ _) rfl
            · intro tr act w' hm hout hsz hd hG hk hub
              have h17 := hd ⟨17, .data⟩ (by simp) rfl _ rfl
              exact jg_run (by rfl) rfl (wanted_none rfl) (ex_move rfl h17) (Mod.refl _ _) rfl
            · intro tr act w' hm hout hsz hd hG hk hub
              have h18 := hd ⟨18, .guard⟩ (by simp) rfl _ rfl
              exact jg_skip (fun _ _ _ h => h) (by rfl) rfl ((wanted_of rfl rfl (hsz 60 (by decide)) h18).trans rfl) rfl
            · intro tr act w' hm hout hsz hd hG hk hub
              have h18 := hd ⟨18, .guard⟩ (by simp) rfl _ rfl
              exact jg_skip (fun _ _ _ h => h) (by rfl) rfl ((wanted_of rfl rfl (hsz 60 (by decide)) h18).trans rfl) rfl
            · intro tr act w' hm hout hsz hd hG hk hub
              have h18 := hd ⟨18, .guard⟩ (by simp) rfl _ rfl
              exact jg_skip (fun _ _ _ h => h) (by rfl) rfl ((wanted_of rfl rfl (hsz 60 (by decide)) h18).trans rfl) rfl
            · intro tr act w' hm hout hsz hd hG hk hub
              have h18 := hd ⟨18, .guard⟩ (by simp) rfl _ rfl
              exact jg_skip (fun _ _ _ h => h) (by rfl) rfl ((wanted_of rfl rfl (hsz 60 (by decide)) h18).trans rfl) rfl
            · intro tr act w' hm hout hsz hd hG hk hub
              have h18 := hd ⟨18, .data⟩ (by simp) rfl _ rfl
              have h22 := hd ⟨22, .data⟩ (by simp) rfl _ rfl
              exact jg_run (by rfl) rfl (wanted_none rfl) (ex_pick rfl h18 h22 rfl) (Mod.refl _ _) rfl
            · intro tr act w' hm hout hsz hd hG hk hub
              have h23 := hd ⟨23, .data⟩ (by simp) rfl _ rfl
              exact jg_run (by rfl) rfl (wanted_none rfl) (ex_move rfl h23) (Mod.refl _ _) rfl
            · intro tr act w' hm hout hsz hd hG hk hub
              have h24 := hd ⟨24, .guard⟩ (by simp) rfl _ rfl
              exact jg_skip (fun _ _ _ h => h) (by rfl) rfl ((wanted_of rfl rfl (hsz 66 (by decide)) h24).trans rfl) rfl
            · intro tr act w' hm hout hsz hd hG hk hub
              have h24 := hd ⟨24, .guard⟩ (by simp) rfl _ rfl
              exact jg_skip (fun _ _ _ h => h) (by rfl) rfl ((wanted_of rfl rfl (hsz 66 (by decide)) h24).trans rfl) rfl
            · intro tr act w' hm hout hsz hd hG hk hub
              have h24 := hd ⟨24, .guard⟩ (by simp) rfl _ rfl
              exact jg_skip (fun _ _ _ h => h) (by rfl) rfl ((wanted_of rfl rfl (hsz 66 (by decide)) h24).trans rfl) rfl
            · intro tr act w' hm hout hsz hd hG hk hub
              have h24 := hd ⟨24, .data⟩ (by simp) rfl _ rfl
              have h27 := hd ⟨27, .data⟩ (by simp) rfl _ rfl
              exact jg_run (by rfl) rfl (wanted_none rfl) (ex_pick rfl h24 h27 rfl) (Mod.refl _ _) rfl
            · intro tr act w' hm hout hsz hd hG hk hub
              have h28 := hd ⟨28, .data⟩ (by simp) rfl _ rfl
              exact jg_run (by rfl) rfl (wanted_none rfl) (ex_move rfl h28) (Mod.refl _ _) rfl
            · intro tr act w' hm hout hsz hd hG hk hub
              have h29 := hd ⟨29, .guard⟩ (by simp) rfl _ rfl
              exact jg_skip (fun _ _ _ h => h) (by rfl) rfl ((wanted_of rfl rfl (hsz 71 (by decide)) h29).trans rfl) rfl
            · intro tr act w' hm hout hsz hd hG hk hub
              have h29 := hd ⟨29, .guard⟩ (by simp) rfl _ rfl
              exact jg_skip (fun _ _ _ h => h) (by rfl) rfl ((wanted_of rfl rfl (hsz 71 (by decide)) h29).trans rfl) rfl
            · intro tr act w' hm hout hsz hd hG hk hub
              have h29 := hd ⟨29, .guard⟩ (by simp) rfl _ rfl
              exact jg_skip (fun _ _ _ h => h) (by rfl) rfl ((wanted_of rfl rfl (hsz 71 (by decide)) h29).trans rfl) rfl
            · intro tr act w' hm hout hsz hd hG hk hub
              have h29 := hd ⟨29, .data⟩ (by simp) rfl _ rfl
              have h32 := hd ⟨32, .data⟩ (by simp) rfl _ rfl
              exact jg_run (by rfl) rfl (wanted_none rfl) (ex_pick rfl h29 h32 rfl) (Mod.refl _ _) rfl
            · intro tr act w' hm hout hsz hd hG hk hub
              have h33 := hd ⟨33, .data⟩ (by simp) rfl _ rfl
              exact jg_run (by rfl) rfl (wanted_none rfl) (ex_assign rfl h33) (Mod.refl _ _) rfl
            intro vs tr w6 hl htl hm hG hV
            obtain ⟨v0, vs0, rfl, hl0⟩ := list_cons hl
            obtain ⟨v1, vs1, rfl, hl1⟩ := list_cons hl0
            obtain ⟨v2, vs2, rfl, hl2⟩ := list_cons hl1
            obtain ⟨v3, vs3, rfl, hl3⟩ := list_cons hl2
            obtain ⟨v4, vs4, rfl, hl4⟩ := list_cons hl3
            obtain ⟨v5, vs5, rfl, hl5⟩ := list_cons hl4
            obtain ⟨v6, vs6, rfl, hl6⟩ := list_cons hl5
            obtain ⟨v7, vs7, rfl, hl7⟩ := list_cons hl6
            obtain ⟨v8, vs8, rfl, hl8⟩ := list_cons hl7
            obtain ⟨v9, vs9, rfl, hl9⟩ := list_cons hl8
            obtain ⟨v10, vs10, rfl, hl10⟩ := list_cons hl9
            obtain ⟨v11, vs11, rfl, hl11⟩ := list_cons hl10
            obtain ⟨v12, vs12, rfl, hl12⟩ := list_cons hl11
            obtain ⟨v13, vs13, rfl, hl13⟩ := list_cons hl12
            obtain ⟨v14, vs14, rfl, hl14⟩ := list_cons hl13
            obtain ⟨v15, vs15, rfl, hl15⟩ := list_cons hl14
            obtain ⟨v16, vs16, rfl, hl16⟩ := list_cons hl15
            obtain ⟨v17, vs17, rfl, hl17⟩ := list_cons hl16
            obtain ⟨v18, vs18, rfl, hl18⟩ := list_cons hl17
            obtain ⟨v19, vs19, rfl, hl19⟩ := list_cons hl18
            obtain ⟨v20, vs20, rfl, hl20⟩ := list_cons hl19
            obtain ⟨v21, vs21, rfl, hl21⟩ := list_cons hl20
            obtain ⟨v22, vs22, rfl, hl22⟩ := list_cons hl21
            obtain ⟨v23, vs23, rfl, hl23⟩ := list_cons hl22
            obtain ⟨v24, vs24, rfl, hl24⟩ := list_cons hl23
            obtain ⟨v25, vs25, rfl, hl25⟩ := list_cons hl24
            obtain ⟨v26, vs26, rfl, hl26⟩ := list_cons hl25
            obtain ⟨v27, vs27, rfl, hl27⟩ := list_cons hl26
            obtain ⟨v28, vs28, rfl, hl28⟩ := list_cons hl27
            obtain ⟨v29, vs29, rfl, hl29⟩ := list_cons hl28
            obtain ⟨v30, vs30, rfl, hl30⟩ := list_cons hl29
            obtain ⟨v31, vs31, rfl, hl31⟩ := list_cons hl30
            obtain ⟨v32, vs32, rfl, hl32⟩ := list_cons hl31
            obtain ⟨v33, vs33, rfl, hl33⟩ := list_cons hl32
            obtain ⟨v34, vs34, rfl, hl34⟩ := list_cons hl33
            obtain rfl := list_nil hl34
            clear hl hl0 hl1 hl2 hl3 hl4 hl5 hl6 hl7 hl8 hl9 hl10 hl11 hl12 hl13 hl14 hl15 hl16 hl17 hl18 hl19 hl20 hl21 hl22 hl23 hl24 hl25 hl26 hl27 hl28 hl29 hl30 hl31 hl32 hl33 hl34
            obtain rfl : v34 = .bool false := hV 34 _ rfl
            have ha0 := HA0.out
            subst ha0
            clear HA0 hV hsz0 oe9 oe10
            simp only [putAll, Act.put, List.setIfInBounds_toArray, List.set_cons_zero, List.set_cons_succ, List.set_nil]
            have KM5 := Lib.hid hm
            clear hm hG
            go_upto_region 8 with (fail)
            generalize ha0 : Act.mk _ _ = a0
            have oe9 : a0.eval (.tmp 9) = .pointer (some ⟨q0, 0, none⟩) := by rw [← ha0]; rfl
            have oe10 : a0.eval (.tmp 10) = .pointer (some ⟨q1, 0, none⟩) := by rw [← ha0]; rfl
            have oe11 : a0.eval (.tmp 11) = .bool false := by rw [← ha0]; rfl
            have hsz0 : a0.tmps.size = 84 := by rw [← ha0]; rfl
            have HA0 := Lib.hid ha0
            clear ha0
            refine wp_region_G 84 hsz0 (by kernel_rfl) (by kernel_rfl) [76, 77, 78, 79, 80, 81, 82, 83, 8] (by kernel_rfl) (by decide) (fun _ => False) (fun _ _ => False) (fun _ _ h => h) Still (fun _ _ _ h => h) (fun _ _ _ hm h => hm.trans h (fun _ _ h => h.elim)) [gi (.agg #[.int .i64 1, .int .i64 k]), gi (c.val), gi (.bool false), gi (.bool false), gi (.bool true), gi (.bool true), gi (.bool true), gi (.bool true), gi (.bool true)] ⟨gi_stable, gi_stable, gi_stable, gi_stable, gi_stable, gi_stable, gi_stable, gi_stable, gi_stable, trivial⟩ [] (by kernel_rfl) (by decide) (by kernel_rfl) (fun _ _ => True) (fun _ _ _ _ _ => trivial) trivial ⟨?_, ?_, ?_, ?_, ?_, ?_, ?_, ?_, ?_, trivial⟩ ?_
            · intro tr act w' hm hout hsz hd hG hk hub
              exact jg_run (by rfl) rfl (wanted_none rfl) (ex_loadA rfl Try.underlying24 rfl (off := 0) (cs := [.int .i64 1, .int .i64 k]) (by kernel_rfl) ((hout 9 (by decide)).trans oe9) (Cs.whole (KF.out.mod (KM5.out.trans hm (fun _ _ h => h)) (fun h => h)))) (Mod.refl _ _) rfl
            · intro tr act w' hm hout hsz hd hG hk hub
              exact jg_run (by rfl) rfl (wanted_none rfl) (ex_loadA rfl Try.underlying32 rfl (off := 0) (cs := c.cells) (by rw [Cm.len HCO.out.2.1]; exact size_commit) ((hout 10 (by decide)).trans oe10) (Cs.whole (KX.out.mod (KM5.out.trans hm (fun _ _ h => h)) (fun h => h)))) (Mod.refl _ _) rfl
            · intro tr act w' hm hout hsz hd hG hk hub
              have h0 := hd ⟨0, .data⟩ (by simp) rfl _ rfl
              have h1 := hd ⟨1, .data⟩ (by simp) rfl _ rfl
              refine jg_call (args := #[.agg #[.int .i64 1, .int .i64 k], c.val]) (by rfl) rfl (wanted_none rfl) (by rw [ex_callF rfl Try.func15 (by kernel_rfl) (by kernel_rfl)]; exact congrArg (fun z => Result.ok (Next.enter _ z) _) (by simp only [List.map_toArray, List.map_cons, List.map_nil, show act.eval (.tmp 76) = _ from h0, show act.eval (.tmp 77) = _ from h1]; try rfl)) (Valid_any 1 k c HCO.out _) ?_
              rintro e w2 ⟨rfl, hm2⟩
              exact ⟨_, rfl, hm2, congrArg Value.bool EV.out⟩
            · intro tr act w' hm hout hsz hd hG hk hub
              exact jg_run (by rfl) rfl (wanted_none rfl) (ex_move rfl ((hout 11 (by decide)).trans oe11)) (Mod.refl _ _) rfl
            · intro tr act w' hm hout hsz hd hG hk hub
              have h2 := hd ⟨2, .data⟩ (by simp) rfl _ rfl
              have h3 := hd ⟨3, .data⟩ (by simp) rfl _ rfl
              exact jg_run (by rfl) rfl (wanted_none rfl) (ex_bin rfl h2 h3 (guard_bools _ _ _ _ _ _) (run_eql_bools _ _ _ Try.underlying4)) (Mod.refl _ _) rfl
            · intro tr act w' hm hout hsz hd hG hk hub
              have h4 := hd ⟨4, .data⟩ (by simp) rfl _ rfl
              exact jg_run (by rfl) rfl (wanted_none rfl) (ex_move rfl h4) (Mod.refl _ _) rfl
            · intro tr act w' hm hout hsz hd hG hk hub
              have h5 := hd ⟨5, .guard⟩ (by simp) rfl _ rfl
              refine jg_call (args := #[]) (by rfl) rfl ((wanted_of rfl rfl (hsz 81 (by decide)) h5).trans rfl) (by rw [ex_callF rfl Try.func16 (by kernel_rfl) (by kernel_rfl)]; simp) (wakes04 _) ?_
              rintro e w2 ⟨rfl, hm2⟩
              exact ⟨_, rfl, hm2, rfl⟩
            · intro tr act w' hm hout hsz hd hG hk hub
              have h5 := hd ⟨5, .data⟩ (by simp) rfl _ rfl
              have h6 := hd ⟨6, .data⟩ (by simp) rfl _ rfl
              exact jg_run (by rfl) rfl (wanted_none rfl) (ex_pick rfl h5 h6 rfl) (Mod.refl _ _) rfl
            · intro tr act w' hm hout hsz hd hG hk hub
              have h7 := hd ⟨7, .data⟩ (by simp) rfl _ rfl
              exact jg_run (by rfl) rfl (wanted_none rfl) (ex_assign rfl h7) (Mod.refl _ _) rfl
            intro vs tr w7 hl htl hm hG hV
            obtain ⟨v0x, vs0, rfl, hl0⟩ := list_cons hl
            obtain ⟨v1x, vs1, rfl, hl1⟩ := list_cons hl0
            obtain ⟨v2x, vs2, rfl, hl2⟩ := list_cons hl1
            obtain ⟨v3x, vs3, rfl, hl3⟩ := list_cons hl2
            obtain ⟨v4x, vs4, rfl, hl4⟩ := list_cons hl3
            obtain ⟨v5x, vs5, rfl, hl5⟩ := list_cons hl4
            obtain ⟨v6x, vs6, rfl, hl6⟩ := list_cons hl5
            obtain ⟨v7x, vs7, rfl, hl7⟩ := list_cons hl6
            obtain ⟨v8x, vs8, rfl, hl8⟩ := list_cons hl7
            obtain rfl := list_nil hl8
            clear hl hl0 hl1 hl2 hl3 hl4 hl5 hl6 hl7 hl8
            obtain rfl : v8x = .bool true := hV 8 _ rfl
            have ha0 := HA0.out
            subst ha0
            clear HA0 hV hsz0 oe9 oe10 oe11
            simp only [putAll, Act.put, List.setIfInBounds_toArray, List.set_cons_zero, List.set_cons_succ, List.set_nil]
            have KM6 := Lib.hid ((KM.out.trans KM5.out (fun _ _ h => h)).trans hm (fun _ _ h => h))
            clear hm hG
            go_wp2
            go_ret
            exact ⟨rfl, KM6.out⟩
        · have E1 := Lib.hid (decide_eq_false c1)
          clear c1
          have EV := Lib.hid (show validF k c = false by unfold validF; simp only [E0.out, E1.out, Bool.false_and, Bool.true_and] <;> rfl)
          go_upto_region 7 with (fail)
          generalize ha0 : Act.mk _ _ = a0
          have oe9 : a0.eval (.tmp 9) = .pointer (some ⟨q0, 0, none⟩) := by rw [← ha0]; rfl
          have oe10 : a0.eval (.tmp 10) = .pointer (some ⟨q1, 0, none⟩) := by rw [← ha0]; rfl
          have hsz0 : a0.tmps.size = 84 := by rw [← ha0]; rfl
          have HA0 := Lib.hid ha0
          clear ha0
          refine wp_region_G 84 hsz0 (by kernel_rfl) (by kernel_rfl) [42, 43, 44, 45, 46, 47, 48, 49, 50, 51, 52, 53, 54, 55, 56, 57, 58, 59, 60, 61, 62, 63, 64, 65, 66, 67, 68, 69, 70, 71, 72, 73, 74, 75, 11] (by kernel_rfl) (by decide) (fun _ => False) (fun _ _ => False) (fun _ _ h => h) Still (fun _ _ _ h => h) (fun _ _ _ hm h => hm.trans h (fun _ _ h => h.elim)) [gi (.pointer (some ⟨q1, 0, none⟩)), gi (.pointer (some ⟨q1, 0, none⟩)), gi (.int .i64 c.cl), gi (.bool true), gi (.bool true), gi (.pointer (some ⟨q1, 0, none⟩)), gi (.pointer (some ⟨q1, 0, none⟩)), gi (.int .i64 c.cl), gi (.pointer (some ⟨q0, 1, none⟩)), gi (.int .i64 k), gi (.bool false), gi (.bool false), gi (.bool false), gi (undef), gi (undef), gi (undef), gi (undef), gi (.bool false), gi (.bool false), gi (undef), gi (undef), gi (undef), gi (undef), gi (.bool false), gi (.bool false), gi (undef), gi (undef), gi (undef), gi (.bool false), gi (.bool false), gi (undef), gi (undef), gi (undef), gi (.bool false), gi (.bool false)] ⟨gi_stable, gi_stable, gi_stable, gi_stable, gi_stable, gi_stable, gi_stable, gi_stable, gi_stable, gi_stable, gi_stable, gi_stable, gi_stable, gi_stable, gi_stable, gi_stable, gi_stable, gi_stable, gi_stable, gi_stable, gi_stable, gi_stable, gi_stable, gi_stable, gi_stable, gi_stable, gi_stable, gi_stable, gi_stable, gi_stable, gi_stable, gi_stable, gi_stable, gi_stable, gi_stable, trivial⟩ [] (by kernel_rfl) (by decide) (by kernel_rfl) (fun _ _ => True) (fun _ _ _ _ _ => trivial) trivial ⟨?_, ?_, ?_, ?_, ?_, ?_, ?_, ?_, ?_, ?_, ?_, ?_, ?_, ?_, ?_, ?_, ?_, ?_, ?_, ?_, ?_, ?_, ?_, ?_, ?_, ?_, ?_, ?_, ?_, ?_, ?_, ?_, ?_, ?_, ?_, trivial⟩ ?_
          · intro tr act w' hm hout hsz hd hG hk hub
            refine jg_run (by rfl) rfl (wanted_none rfl) (ex_field rfl Try.underlying32 rfl (by kernel_rfl) ((hout 10 (by decide)).trans oe10)) (Mod.refl _ _) ?_
            rfl
          · intro tr act w' hm hout hsz hd hG hk hub
            have h0 := hd ⟨0, .data⟩ (by simp) rfl _ rfl
            refine jg_run (by rfl) rfl (wanted_none rfl) (ex_field rfl Try.underlying26 rfl (by kernel_rfl) h0) (Mod.refl _ _) ?_
            rfl
          · intro tr act w' hm hout hsz hd hG hk hub
            have h1 := hd ⟨1, .data⟩ (by simp) rfl _ rfl
            exact jg_run (by rfl) rfl (wanted_none rfl) (ex_load1 rfl Try.underlying3 rfl h1 (KX.out.mod hm (fun h => h)).c0) (Mod.refl _ _) rfl
          · intro tr act w' hm hout hsz hd hG hk hub
            have h2 := hd ⟨2, .data⟩ (by simp) rfl _ rfl
            refine jg_run (by rfl) rfl (wanted_none rfl) (ex_bin rfl h2 rfl (guard_ints _ _ _ _ _ _) (run_geq_i _ _ _ Try.underlying3)) (Mod.refl _ _) ?_
            exact congrArg Value.bool E0.out
          · intro tr act w' hm hout hsz hd hG hk hub
            have h3 := hd ⟨3, .data⟩ (by simp) rfl _ rfl
            exact jg_run (by rfl) rfl (wanted_none rfl) (ex_move rfl h3) (Mod.refl _ _) rfl
          · intro tr act w' hm hout hsz hd hG hk hub
            have h4 := hd ⟨4, .guard⟩ (by simp) rfl _ rfl
            refine jg_run (by rfl) rfl ((wanted_of rfl rfl (hsz 46 (by decide)) h4).trans rfl) (ex_field rfl Try.underlying32 rfl (by kernel_rfl) ((hout 10 (by decide)).trans oe10)) (Mod.refl _ _) ?_
            rfl
          · intro tr act w' hm hout hsz hd hG hk hub
            have h4 := hd ⟨4, .guard⟩ (by simp) rfl _ rfl
            have h5 := hd ⟨5, .data⟩ (by simp) rfl _ rfl
            refine jg_run (by rfl) rfl ((wanted_of rfl rfl (hsz 46 (by decide)) h4).trans rfl) (ex_field rfl Try.underlying26 rfl (by kernel_rfl) h5) (Mod.refl _ _) ?_
            rfl
          · intro tr act w' hm hout hsz hd hG hk hub
            have h4 := hd ⟨4, .guard⟩ (by simp) rfl _ rfl
            have h6 := hd ⟨6, .data⟩ (by simp) rfl _ rfl
            exact jg_run (by rfl) rfl ((wanted_of rfl rfl (hsz 46 (by decide)) h4).trans rfl) (ex_load1 rfl Try.underlying3 rfl h6 (KX.out.mod hm (fun h => h)).c0) (Mod.refl _ _) rfl
          · intro tr act w' hm hout hsz hd hG hk hub
            have h4 := hd ⟨4, .guard⟩ (by simp) rfl _ rfl
            refine jg_run (by rfl) rfl ((wanted_of rfl rfl (hsz 46 (by decide)) h4).trans rfl) (ex_field rfl Try.underlying24 rfl (by kernel_rfl) ((hout 9 (by decide)).trans oe9)) (Mod.refl _ _) ?_
            rfl
          · intro tr act w' hm hout hsz hd hG hk hub
            have h4 := hd ⟨4, .guard⟩ (by simp) rfl _ rfl
            have h8 := hd ⟨8, .data⟩ (by simp) rfl _ rfl
            exact jg_run (by rfl) rfl ((wanted_of rfl rfl (hsz 46 (by decide)) h4).trans rfl) (ex_load1 rfl Try.underlying3 rfl h8 (by rw [(KF.out.mod hm (fun h => h)).cell]; rfl)) (Mod.refl _ _) rfl
          · intro tr act w' hm hout hsz hd hG hk hub
            have h4 := hd ⟨4, .guard⟩ (by simp) rfl _ rfl
            have h7 := hd ⟨7, .data⟩ (by simp) rfl _ rfl
            have h9 := hd ⟨9, .data⟩ (by simp) rfl _ rfl
            refine jg_run (by rfl) rfl ((wanted_of rfl rfl (hsz 46 (by decide)) h4).trans rfl) (ex_bin rfl h7 h9 (guard_ints _ _ _ _ _ _) (run_lss_i _ _ _ Try.underlying3)) (Mod.refl _ _) ?_
            exact congrArg Value.bool E1.out
          · intro tr act w' hm hout hsz hd hG hk hub
            have h4 := hd ⟨4, .data⟩ (by simp) rfl _ rfl
            have h10 := hd ⟨10, .data⟩ (by simp) rfl _ rfl
            exact jg_run (by rfl) rfl (wanted_none rfl) (ex_pick rfl h4 h10 rfl) (Mod.refl _ _) rfl
          · intro tr act w' hm hout hsz hd hG hk hub
            have h11 := hd ⟨11, .data⟩ (by simp) rfl _ rfl
            exact jg_run (by rfl) rfl (wanted_none rfl) (ex_move rfl h11) (Mod.refl _ _) rfl
          · intro tr act w' hm hout hsz hd hG hk hub
            have h12 := hd ⟨12, .guard⟩ (by simp) rfl _ rfl
            exact jg_skip (fun _ _ _ h => h) (by rfl) rfl ((wanted_of rfl rfl (hsz 54 (by decide)) h12).trans rfl) rfl
          · intro tr act w' hm hout hsz hd hG hk hub
            have h12 := hd ⟨12, .guard⟩ (by simp) rfl _ rfl
            exact jg_skip (fun _ _ _ h => h) (by rfl) rfl ((wanted_of rfl rfl (hsz 54 (by decide)) h12).trans rfl) rfl
          · intro tr act w' hm hout hsz hd hG hk hub
            have h12 := hd ⟨12, .guard⟩ (by simp) rfl _ rfl
            exact jg_skip (fun _ _ _ h => h) (by rfl) rfl ((wanted_of rfl rfl (hsz 54 (by decide)) h12).trans rfl) rfl
          · intro tr act w' hm hout hsz hd hG hk hub
            have h12 := hd ⟨12, .guard⟩ (by simp) rfl _ rfl
            exact jg_skip (fun _ _ _ h => h) (by rfl) rfl ((wanted_of rfl rfl (hsz 54 (by decide)) h12).trans rfl) rfl
          · intro tr act w' hm hout hsz hd hG hk hub
            have h12 := hd ⟨12, .data⟩ (by simp) rfl _ rfl
            have h16 := hd ⟨16, .data⟩ (by simp) rfl _ rfl
            exact jg_run (by rfl) rfl (wanted_none rfl) (ex_pick rfl h12 h16 rfl) (Mod.refl _ _) rfl
          · intro tr act w' hm hout hsz hd hG hk hub
            have h17 := hd ⟨17, .data⟩ (by simp) rfl _ rfl
            exact jg_run (by rfl) rfl (wanted_none rfl) (ex_move rfl h17) (Mod.refl _ _) rfl
          · intro tr act w' hm hout hsz hd hG hk hub
            have h18 := hd ⟨18, .guard⟩ (by simp) rfl _ rfl
            exact jg_skip (fun _ _ _ h => h) (by rfl) rfl ((wanted_of rfl rfl (hsz 60 (by decide)) h18).trans rfl) rfl
          · intro tr act w' hm hout hsz hd hG hk hub
            have h18 := hd ⟨18, .guard⟩ (by simp) rfl _ rfl
            exact jg_skip (fun _ _ _ h => h) (by rfl) rfl ((wanted_of rfl rfl (hsz 60 (by decide)) h18).trans rfl) rfl
          · intro tr act w' hm hout hsz hd hG hk hub
            have h18 := hd ⟨18, .guard⟩ (by simp) rfl _ rfl
            exact jg_skip (fun _ _ _ h => h) (by rfl) rfl ((wanted_of rfl rfl (hsz 60 (by decide)) h18).trans rfl) rfl
          · intro tr act w' hm hout hsz hd hG hk hub
            have h18 := hd ⟨18, .guard⟩ (by simp) rfl _ rfl
            exact jg_skip (fun _ _ _ h => h) (by rfl) rfl ((wanted_of rfl rfl (hsz 60 (by decide)) h18).trans rfl) rfl
          · intro tr act w' hm hout hsz hd hG hk hub
            have h18 := hd ⟨18, .data⟩ (by simp) rfl _ rfl
            have h22 := hd ⟨22, .data⟩ (by simp) rfl _ rfl
            exact jg_run (by rfl) rfl (wanted_none rfl) (ex_pick rfl h18 h22 rfl) (Mod.refl _ _) rfl
          · intro tr act w' hm hout hsz hd hG hk hub
            have h23 := hd ⟨23, .data⟩ (by simp) rfl _ rfl
            exact jg_run (by rfl) rfl (wanted_none rfl) (ex_move rfl h23) (Mod.refl _ _) rfl
          · intro tr act w' hm hout hsz hd hG hk hub
            have h24 := hd ⟨24, .guard⟩ (by simp) rfl _ rfl
            exact jg_skip (fun _ _ _ h => h) (by rfl) rfl ((wanted_of rfl rfl (hsz 66 (by decide)) h24).trans rfl) rfl
          · intro tr act w' hm hout hsz hd hG hk hub
            have h24 := hd ⟨24, .guard⟩ (by simp) rfl _ rfl
            exact jg_skip (fun _ _ _ h => h) (by rfl) rfl ((wanted_of rfl rfl (hsz 66 (by decide)) h24).trans rfl) rfl
          · intro tr act w' hm hout hsz hd hG hk hub
            have h24 := hd ⟨24, .guard⟩ (by simp) rfl _ rfl
            exact jg_skip (fun _ _ _ h => h) (by rfl) rfl ((wanted_of rfl rfl (hsz 66 (by decide)) h24).trans rfl) rfl
          · intro tr act w' hm hout hsz hd hG hk hub
            have h24 := hd ⟨24, .data⟩ (by simp) rfl _ rfl
            have h27 := hd ⟨27, .data⟩ (by simp) rfl _ rfl
            exact jg_run (by rfl) rfl (wanted_none rfl) (ex_pick rfl h24 h27 rfl) (Mod.refl _ _) rfl
          · intro tr act w' hm hout hsz hd hG hk hub
            have h28 := hd ⟨28, .data⟩ (by simp) rfl _ rfl
            exact jg_run (by rfl) rfl (wanted_none rfl) (ex_move rfl h28) (Mod.refl _ _) rfl
          · intro tr act w' hm hout hsz hd hG hk hub
            have h29 := hd ⟨29, .guard⟩ (by simp) rfl _ rfl
            exact jg_skip (fun _ _ _ h => h) (by rfl) rfl ((wanted_of rfl rfl (hsz 71 (by decide)) h29).trans rfl) rfl
          · intro tr act w' hm hout hsz hd hG hk hub
            have h29 := hd ⟨29, .guard⟩ (by simp) rfl _ rfl
            exact jg_skip (fun _ _ _ h => h) (by rfl) rfl ((wanted_of rfl rfl (hsz 71 (by decide)) h29).trans rfl) rfl
          · intro tr act w' hm hout hsz hd hG hk hub
            have h29 := hd ⟨29, .guard⟩ (by simp) rfl _ rfl
            exact jg_skip (fun _ _ _ h => h) (by rfl) rfl ((wanted_of rfl rfl (hsz 71 (by decide)) h29).trans rfl) rfl
          · intro tr act w' hm hout hsz hd hG hk hub
            have h29 := hd ⟨29, .data⟩ (by simp) rfl _ rfl
            have h32 := hd ⟨32, .data⟩ (by simp) rfl _ rfl
            exact jg_run (by rfl) rfl (wanted_none rfl) (ex_pick rfl h29 h32 rfl) (Mod.refl _ _) rfl
          · intro tr act w' hm hout hsz hd hG hk hub
            have h33 := hd ⟨33, .data⟩ (by simp) rfl _ rfl
            exact jg_run (by rfl) rfl (wanted_none rfl) (ex_assign rfl h33) (Mod.refl _ _) rfl
          intro vs tr w6 hl htl hm hG hV
          obtain ⟨v0, vs0, rfl, hl0⟩ := list_cons hl
          obtain ⟨v1, vs1, rfl, hl1⟩ := list_cons hl0
          obtain ⟨v2, vs2, rfl, hl2⟩ := list_cons hl1
          obtain ⟨v3, vs3, rfl, hl3⟩ := list_cons hl2
          obtain ⟨v4, vs4, rfl, hl4⟩ := list_cons hl3
          obtain ⟨v5, vs5, rfl, hl5⟩ := list_cons hl4
          obtain ⟨v6, vs6, rfl, hl6⟩ := list_cons hl5
          obtain ⟨v7, vs7, rfl, hl7⟩ := list_cons hl6
          obtain ⟨v8, vs8, rfl, hl8⟩ := list_cons hl7
          obtain ⟨v9, vs9, rfl, hl9⟩ := list_cons hl8
          obtain ⟨v10, vs10, rfl, hl10⟩ := list_cons hl9
          obtain ⟨v11, vs11, rfl, hl11⟩ := list_cons hl10
          obtain ⟨v12, vs12, rfl, hl12⟩ := list_cons hl11
          obtain ⟨v13, vs13, rfl, hl13⟩ := list_cons hl12
          obtain ⟨v14, vs14, rfl, hl14⟩ := list_cons hl13
          obtain ⟨v15, vs15, rfl, hl15⟩ := list_cons hl14
          obtain ⟨v16, vs16, rfl, hl16⟩ := list_cons hl15
          obtain ⟨v17, vs17, rfl, hl17⟩ := list_cons hl16
          obtain ⟨v18, vs18, rfl, hl18⟩ := list_cons hl17
          obtain ⟨v19, vs19, rfl, hl19⟩ := list_cons hl18
          obtain ⟨v20, vs20, rfl, hl20⟩ := list_cons hl19
          obtain ⟨v21, vs21, rfl, hl21⟩ := list_cons hl20
          obtain ⟨v22, vs22, rfl, hl22⟩ := list_cons hl21
          obtain ⟨v23, vs23, rfl, hl23⟩ := list_cons hl22
          obtain ⟨v24, vs24, rfl, hl24⟩ := list_cons hl23
          obtain ⟨v25, vs25, rfl, hl25⟩ := list_cons hl24
          obtain ⟨v26, vs26, rfl, hl26⟩ := list_cons hl25
          obtain ⟨v27, vs27, rfl, hl27⟩ := list_cons hl26
          obtain ⟨v28, vs28, rfl, hl28⟩ := list_cons hl27
          obtain ⟨v29, vs29, rfl, hl29⟩ := list_cons hl28
          obtain ⟨v30, vs30, rfl, hl30⟩ := list_cons hl29
          obtain ⟨v31, vs31, rfl, hl31⟩ := list_cons hl30
          obtain ⟨v32, vs32, rfl, hl32⟩ := list_cons hl31
          obtain ⟨v33, vs33, rfl, hl33⟩ := list_cons hl32
          obtain ⟨v34, vs34, rfl, hl34⟩ := list_cons hl33
          obtain rfl := list_nil hl34
          clear hl hl0 hl1 hl2 hl3 hl4 hl5 hl6 hl7 hl8 hl9 hl10 hl11 hl12 hl13 hl14 hl15 hl16 hl17 hl18 hl19 hl20 hl21 hl22 hl23 hl24 hl25 hl26 hl27 hl28 hl29 hl30 hl31 hl32 hl33 hl34
          obtain rfl : v34 = .bool false := hV 34 _ rfl
          have ha0 := HA0.out
          subst ha0
          clear HA0 hV hsz0 oe9 oe10
          simp only [putAll, Act.put, List.setIfInBounds_toArray, List.set_cons_zero, List.set_cons_succ, List.set_nil]
          have KM5 := Lib.hid hm
          clear hm hG
          go_upto_region 8 with (fail)
          generalize ha0 : Act.mk _ _ = a0
          have oe9 : a0.eval (.tmp 9) = .pointer (some ⟨q0, 0, none⟩) := by rw [← ha0]; rfl
          have oe10 : a0.eval (.tmp 10) = .pointer (some ⟨q1, 0, none⟩) := by rw [← ha0]; rfl
          have oe11 : a0.eval (.tmp 11) = .bool false := by rw [← ha0]; rfl
          have hsz0 : a0.tmps.size = 84 := by rw [← ha0]; rfl
          have HA0 := Lib.hid ha0
          clear ha0
          refine wp_region_G 84 hsz0 (by kernel_rfl) (by kernel_rfl) [76, 77, 78, 79, 80, 81, 82, 83, 8] (by kernel_rfl) (by decide) (fun _ => False) (fun _ _ => False) (fun _ _ h => h) Still (fun _ _ _ h => h) (fun _ _ _ hm h => hm.trans h (fun _ _ h => h.elim)) [gi (.agg #[.int .i64 1, .int .i64 k]), gi (c.val), gi (.bool false), gi (.bool false), gi (.bool true), gi (.bool true), gi (.bool true), gi (.bool true), gi (.bool true)] ⟨gi_stable, gi_stable, gi_stable, gi_stable, gi_stable, gi_stable, gi_stable, gi_stable, gi_stable, trivial⟩ [] (by kernel_rfl) (by decide) (by kernel_rfl) (fun _ _ => True) (fun _ _ _ _ _ => trivial) trivial ⟨?_, ?_, ?_, ?_, ?_, ?_, ?_, ?_, ?_, trivial⟩ ?_
          · intro tr act w' hm hout hsz hd hG hk hub
            exact jg_run (by rfl) rfl (wanted_none rfl) (ex_loadA rfl Try.underlying24 rfl (off := 0) (cs := [.int .i64 1, .int .i64 k]) (by kernel_rfl) ((hout 9 (by decide)).trans oe9) (Cs.whole (KF.out.mod (KM5.out.trans hm (fun _ _ h => h)) (fun h => h)))) (Mod.refl _ _) rfl
          · intro tr act w' hm hout hsz hd hG hk hub
            exact jg_run (by rfl) rfl (wanted_none rfl) (ex_loadA rfl Try.underlying32 rfl (off := 0) (cs := c.cells) (by rw [Cm.len HCO.out.2.1]; exact size_commit) ((hout 10 (by decide)).trans oe10) (Cs.whole (KX.out.mod (KM5.out.trans hm (fun _ _ h => h)) (fun h => h)))) (Mod.refl _ _) rfl
          · intro tr act w' hm hout hsz hd hG hk hub
            have h0 := hd ⟨0, .data⟩ (by simp) rfl _ rfl
            have h1 := hd ⟨1, .data⟩ (by simp) rfl _ rfl
            refine jg_call (args := #[.agg #[.int .i64 1, .int .i64 k], c.val]) (by rfl) rfl (wanted_none rfl) (by rw [ex_callF rfl Try.func15 (by kernel_rfl) (by kernel_rfl)]; exact congrArg (fun z => Result.ok (Next.enter _ z) _) (by simp only [List.map_toArray, List.map_cons, List.map_nil, show act.eval (.tmp 76) = _ from h0, show act.eval (.tmp 77) = _ from h1]; try rfl)) (Valid_any 1 k c HCO.out _) ?_
            rintro e w2 ⟨rfl, hm2⟩
            exact ⟨_, rfl, hm2, congrArg Value.bool EV.out⟩
          · intro tr act w' hm hout hsz hd hG hk hub
            exact jg_run (by rfl) rfl (wanted_none rfl) (ex_move rfl ((hout 11 (by decide)).trans oe11)) (Mod.refl _ _) rfl
          · intro tr act w' hm hout hsz hd hG hk hub
            have h2 := hd ⟨2, .data⟩ (by simp) rfl _ rfl
            have h3 := hd ⟨3, .data⟩ (by simp) rfl _ rfl
            exact jg_run (by rfl) rfl (wanted_none rfl) (ex_bin rfl h2 h3 (guard_bools _ _ _ _ _ _) (run_eql_bools _ _ _ Try.underlying4)) (Mod.refl _ _) rfl
          · intro tr act w' hm hout hsz hd hG hk hub
            have h4 := hd ⟨4, .data⟩ (by simp) rfl _ rfl
            exact jg_run (by rfl) rfl (wanted_none rfl) (ex_move rfl h4) (Mod.refl _ _) rfl
          · intro tr act w' hm hout hsz hd hG hk hub
            have h5 := hd ⟨5, .guard⟩ (by simp) rfl _ rfl
            refine jg_call (args := #[]) (by rfl) rfl ((wanted_of rfl rfl (hsz 81 (by decide)) h5).trans rfl) (by rw [ex_callF rfl Try.func16 (by kernel_rfl) (by kernel_rfl)]; simp) (wakes04 _) ?_
            rintro e w2 ⟨rfl, hm2⟩
            exact ⟨_, rfl, hm2, rfl⟩
          · intro tr act w' hm hout hsz hd hG hk hub
            have h5 := hd ⟨5, .data⟩ (by simp) rfl _ rfl
            have h6 := hd ⟨6, .data⟩ (by simp) rfl _ rfl
            exact jg_run (by rfl) rfl (wanted_none rfl) (ex_pick rfl h5 h6 rfl) (Mod.refl _ _) rfl
          · intro tr act w' hm hout hsz hd hG hk hub
            have h7 := hd ⟨7, .data⟩ (by simp) rfl _ rfl
            exact jg_run (by rfl) rfl (wanted_none rfl) (ex_assign rfl h7) (Mod.refl _ _) rfl
          intro vs tr w7 hl htl hm hG hV
          obtain ⟨v0x, vs0, rfl, hl0⟩ := list_cons hl
          obtain ⟨v1x, vs1, rfl, hl1⟩ := list_cons hl0
          obtain ⟨v2x, vs2, rfl, hl2⟩ := list_cons hl1
          obtain ⟨v3x, vs3, rfl, hl3⟩ := list_cons hl2
          obtain ⟨v4x, vs4, rfl, hl4⟩ := list_cons hl3
          obtain ⟨v5x, vs5, rfl, hl5⟩ := list_cons hl4
          obtain ⟨v6x, vs6, rfl, hl6⟩ := list_cons hl5
          obtain ⟨v7x, vs7, rfl, hl7⟩ := list_cons hl6
          obtain ⟨v8x, vs8, rfl, hl8⟩ := list_cons hl7
          obtain rfl := list_nil hl8
          clear hl hl0 hl1 hl2 hl3 hl4 hl5 hl6 hl7 hl8
          obtain rfl : v8x = .bool true := hV 8 _ rfl
          have ha0 := HA0.out
          subst ha0
          clear HA0 hV hsz0 oe9 oe10 oe11
          simp only [putAll, Act.put, List.setIfInBounds_toArray, List.set_cons_zero, List.set_cons_succ, List.set_nil]
          have KM6 := Lib.hid ((KM.out.trans KM5.out (fun _ _ h => h)).trans hm (fun _ _ h => h))
          clear hm hG
          go_wp2
          go_ret
          exact ⟨rfl, KM6.out⟩
      · have E0 := Lib.hid (decide_eq_false c0)
        clear c0
        have EV := Lib.hid (show validF k c = false by unfold validF; simp only [E0.out, Bool.false_and, Bool.true_and] <;> rfl)
        go_upto_region 7 with (fail)
        generalize ha0 : Act.mk _ _ = a0
        have oe9 : a0.eval (.tmp 9) = .pointer (some ⟨q0, 0, none⟩) := by rw [← ha0]; rfl
        have oe10 : a0.eval (.tmp 10) = .pointer (some ⟨q1, 0, none⟩) := by rw [← ha0]; rfl
        have hsz0 : a0.tmps.size = 84 := by rw [← ha0]; rfl
        have HA0 := Lib.hid ha0
        clear ha0
        refine wp_region_G 84 hsz0 (by kernel_rfl) (by kernel_rfl) [42, 43, 44, 45, 46, 47, 48, 49, 50, 51, 52, 53, 54, 55, 56, 57, 58, 59, 60, 61, 62, 63, 64, 65, 66, 67, 68, 69, 70, 71, 72, 73, 74, 75, 11] (by kernel_rfl) (by decide) (fun _ => False) (fun _ _ => False) (fun _ _ h => h) Still (fun _ _ _ h => h) (fun _ _ _ hm h => hm.trans h (fun _ _ h => h.elim)) [gi (.pointer (some ⟨q1, 0, none⟩)), gi (.pointer (some ⟨q1, 0, none⟩)), gi (.int .i64 c.cl), gi (.bool false), gi (.bool false), gi (undef), gi (undef), gi (undef), gi (undef), gi (undef), gi (undef), gi (.bool false), gi (.bool false), gi (undef), gi (undef), gi (undef), gi (undef), gi (.bool false), gi (.bool false), gi (undef), gi (undef), gi (undef), gi (undef), gi (.bool false), gi (.bool false), gi (undef), gi (undef), gi (undef), gi (.bool false), gi (.bool false), gi (undef), gi (undef), gi (undef), gi (.bool false), gi (.bool false)] ⟨gi_stable, gi_stable, gi_stable, gi_stable, gi_stable, gi_stable, gi_stable, gi_stable, gi_stable, gi_stable, gi_stable, gi_stable, gi_stable, gi_stable, gi_stable, gi_stable, gi_stable, gi_stable, gi_stable, gi_stable, gi_stable, gi_stable, gi_stable, gi_stable, gi_stable, gi_stable, gi_stable, gi_stable, gi_stable, gi_stable, gi_stable, gi_stable, gi_stable, gi_stable, gi_stable, trivial⟩ [] (by kernel_rfl) (by decide) (by kernel_rfl) (fun _ _ => True) (fun _ _ _ _ _ => trivial) trivial ⟨?_, ?_, ?_, ?_, ?_, ?_, ?_, ?_, ?_, ?_, ?_, ?_, ?_, ?_, ?_, ?_, ?_, ?_, ?_, ?_, ?_, ?_, ?_, ?_, ?_, ?_, ?_, ?_, ?_, ?_, ?_, ?_, ?_, ?_, ?_, trivial⟩ ?_
        · intro tr act w' hm hout hsz hd hG hk hub
          refine jg_run (by rfl) rfl (wanted_none rfl) (ex_field rfl Try.underlying32 rfl (by kernel_rfl) ((hout 10 (by decide)).trans oe10)) (Mod.refl _ _) ?_
          rfl
        · intro tr act w' hm hout hsz hd hG hk hub
          have h0 := hd ⟨0, .data⟩ (by simp) rfl _ rfl
          refine jg_run (by rfl) rfl (wanted_none rfl) (ex_field rfl Try.underlying26 rfl (by kernel_rfl) h0) (Mod.refl _ _) ?_
          rfl
        · intro tr act w' hm hout hsz hd hG hk hub
          have h1 := hd ⟨1, .data⟩ (by simp) rfl _ rfl
          exact jg_run (by rfl) rfl (wanted_none rfl) (ex_load1 rfl Try.underlying3 rfl h1 (KX.out.mod hm (fun h => h)).c0) (Mod.refl _ _) rfl
        · intro tr act w' hm hout hsz hd hG hk hub
          have h2 := hd ⟨2, .data⟩ (by simp) rfl _ rfl
          refine jg_run (by rfl) rfl (wanted_none rfl) (ex_bin rfl h2 rfl (guard_ints _ _ _ _ _ _) (run_geq_i _ _ _ Try.underlying3)) (Mod.refl _ _) ?_
          exact congrArg Value.bool E0.out
        · intro tr act w' hm hout hsz hd hG hk hub
          have h3 := hd ⟨3, .data⟩ (by simp) rfl _ rfl
          exact jg_run (by rfl) rfl (wanted_none rfl) (ex_move rfl h3) (Mod.refl _ _) rfl
        · intro tr act w' hm hout hsz hd hG hk hub
          have h4 := hd ⟨4, .guard⟩ (by simp) rfl _ rfl
          exact jg_skip (fun _ _ _ h => h) (by rfl) rfl ((wanted_of rfl rfl (hsz 46 (by decide)) h4).trans rfl) rfl
        · intro tr act w' hm hout hsz hd hG hk hub
          have h4 := hd ⟨4, .guard⟩ (by simp) rfl _ rfl
          exact jg_skip (fun _ _ _ h => h) (by rfl) rfl ((wanted_of rfl rfl (hsz 46 (by decide)) h4).trans rfl) rfl
        · intro tr act w' hm hout hsz hd hG hk hub
          have h4 := hd ⟨4, .guard⟩ (by simp) rfl _ rfl
          exact jg_skip (fun _ _ _ h => h) (by rfl) rfl ((wanted_of rfl rfl (hsz 46 (by decide)) h4).trans rfl) rfl
        · intro tr act w' hm hout hsz hd hG hk hub
          have h4 := hd ⟨4, .guard⟩ (by simp) rfl _ rfl
          exact jg_skip (fun _ _ _ h => h) (by rfl) rfl ((wanted_of rfl rfl (hsz 46 (by decide)) h4).trans rfl) rfl
        · intro tr act w' hm hout hsz hd hG hk hub
          have h4 := hd ⟨4, .guard⟩ (by simp) rfl _ rfl
          exact jg_skip (fun _ _ _ h => h) (by rfl) rfl ((wanted_of rfl rfl (hsz 46 (by decide)) h4).trans rfl) rfl
        · intro tr act w' hm hout hsz hd hG hk hub
          have h4 := hd ⟨4, .guard⟩ (by simp) rfl _ rfl
          exact jg_skip (fun _ _ _ h => h) (by rfl) rfl ((wanted_of rfl rfl (hsz 46 (by decide)) h4).trans rfl) rfl
        · intro tr act w' hm hout hsz hd hG hk hub
          have h4 := hd ⟨4, .data⟩ (by simp) rfl _ rfl
          have h10 := hd ⟨10, .data⟩ (by simp) rfl _ rfl
          exact jg_run (by rfl) rfl (wanted_none rfl) (ex_pick rfl h4 h10 rfl) (Mod.refl _ _) rfl
        · intro tr act w' hm hout hsz hd hG hk hub
          have h11 := hd ⟨11, .data⟩ (by simp) rfl _ rfl
          exact jg_run (by rfl) rfl (wanted_none rfl) (ex_move rfl h11) (Mod.refl _ _) rfl
        · intro tr act w' hm hout hsz hd hG hk hub
          have h12 := hd ⟨12, .guard⟩ (by simp) rfl _ rfl
          exact jg_skip (fun _ _ _ h => h) (by rfl) rfl ((wanted_of rfl rfl (hsz 54 (by decide)) h12).trans rfl) rfl
        · intro tr act w' hm hout hsz hd hG hk hub
          have h12 := hd ⟨12, .guard⟩ (by simp) rfl _ rfl
          exact jg_skip (fun _ _ _ h => h) (by rfl) rfl ((wanted_of rfl rfl (hsz 54 (by decide)) h12).trans rfl) rfl
        · intro tr act w' hm hout hsz hd hG hk hub
          have h12 := hd ⟨12, .guard⟩ (by simp) rfl _ rfl
          exact jg_skip (fun _ _ _ h => h) (by rfl) rfl ((wanted_of rfl rfl (hsz 54 (by decide)) h12).trans rfl) rfl
        · intro tr act w' hm hout hsz hd hG hk hub
          have h12 := hd ⟨12, .guard⟩ (by simp) rfl _ rfl
          exact jg_skip (fun _ _ _ h => h) (by rfl) rfl ((wanted_of rfl rfl (hsz 54 (by decide)) h12).trans rfl) rfl
        · intro tr act w' hm hout hsz hd hG hk hub
          have h12 := hd ⟨12, .data⟩ (by simp) rfl _ rfl
          have h16 := hd ⟨16, .data⟩ (by simp) rfl _ rfl
          exact jg_run (by rfl) rfl (wanted_none rfl) (ex_pick rfl h12 h16 rfl) (Mod.refl _ _) rfl
        · intro tr act w' hm hout hsz hd hG hk hub
          have h17 := hd ⟨17, .data⟩ (by simp) rfl _ rfl
          exact jg_run (by rfl) rfl (wanted_none rfl) (ex_move rfl h17) (Mod.refl _ _) rfl
        · intro tr act w' hm hout hsz hd hG hk hub
          have h18 := hd ⟨18, .guard⟩ (by simp) rfl _ rfl
          exact jg_skip (fun _ _ _ h => h) (by rfl) rfl ((wanted_of rfl rfl (hsz 60 (by decide)) h18).trans rfl) rfl
        · intro tr act w' hm hout hsz hd hG hk hub
          have h18 := hd ⟨18, .guard⟩ (by simp) rfl _ rfl
          exact jg_skip (fun _ _ _ h => h) (by rfl) rfl ((wanted_of rfl rfl (hsz 60 (by decide)) h18).trans rfl) rfl
        · intro tr act w' hm hout hsz hd hG hk hub
          have h18 := hd ⟨18, .guard⟩ (by simp) rfl _ rfl
          exact jg_skip (fun _ _ _ h => h) (by rfl) rfl ((wanted_of rfl rfl (hsz 60 (by decide)) h18).trans rfl) rfl
        · intro tr act w' hm hout hsz hd hG hk hub
          have h18 := hd ⟨18, .guard⟩ (by simp) rfl _ rfl
          exact jg_skip (fun _ _ _ h => h) (by rfl) rfl ((wanted_of rfl rfl (hsz 60 (by decide)) h18).trans rfl) rfl
        · intro tr act w' hm hout hsz hd hG hk hub
          have h18 := hd ⟨18, .data⟩ (by simp) rfl _ rfl
          have h22 := hd ⟨22, .data⟩ (by simp) rfl _ rfl
          exact jg_run (by rfl) rfl (wanted_none rfl) (ex_pick rfl h18 h22 rfl) (Mod.refl _ _) rfl
        · intro tr act w' hm hout hsz hd hG hk hub
          have h23 := hd ⟨23, .data⟩ (by simp) rfl _ rfl
          exact jg_run (by rfl) rfl (wanted_none rfl) (ex_move rfl h23) (Mod.refl _ _) rfl
        · intro tr act w' hm hout hsz hd hG hk hub
          have h24 := hd ⟨24, .guard⟩ (by simp) rfl _ rfl
          exact jg_skip (fun _ _ _ h => h) (by rfl) rfl ((wanted_of rfl rfl (hsz 66 (by decide)) h24).trans rfl) rfl
        · intro tr act w' hm hout hsz hd hG hk hub
          have h24 := hd ⟨24, .guard⟩ (by simp) rfl _ rfl
          exact jg_skip (fun _ _ _ h => h) (by rfl) rfl ((wanted_of rfl rfl (hsz 66 (by decide)) h24).trans rfl) rfl
        · intro tr act w' hm hout hsz hd hG hk hub
          have h24 := hd ⟨24, .guard⟩ (by simp) rfl _ rfl
          exact jg_skip (fun _ _ _ h => h) (by rfl) rfl ((wanted_of rfl rfl (hsz 66 (by decide)) h24).trans rfl) rfl
        · intro tr act w' hm hout hsz hd hG hk hub
          have h24 := hd ⟨24, .data⟩ (by simp) rfl _ rfl
          have h27 := hd ⟨27, .data⟩ (by simp) rfl _ rfl
          exact jg_run (by rfl) rfl (wanted_none rfl) (ex_pick rfl h24 h27 rfl) (Mod.refl _ _) rfl
        · intro tr act w' hm hout hsz hd hG hk hub
          have h28 := hd ⟨28, .data⟩ (by simp) rfl _ rfl
          exact jg_run (by rfl) rfl (wanted_none rfl) (ex_move rfl h28) (Mod.refl _ _) rfl
        · intro tr act w' hm hout hsz hd hG hk hub
          have h29 := hd ⟨29, .guard⟩ (by simp) rfl _ rfl
          exact jg_skip (fun _ _ _ h => h) (by rfl) rfl ((wanted_of rfl rfl (hsz 71 (by decide)) h29).trans rfl) rfl
        · intro tr act w' hm hout hsz hd hG hk hub
          have h29 := hd ⟨29, .guard⟩ (by simp) rfl _ rfl
          exact jg_skip (fun _ _ _ h => h) (by rfl) rfl ((wanted_of rfl rfl (hsz 71 (by decide)) h29).trans rfl) rfl
        · intro tr act w' hm hout hsz hd hG hk hub
          have h29 := hd ⟨29, .guard⟩ (by simp) rfl _ rfl
          exact jg_skip (fun _ _ _ h => h) (by rfl) rfl ((wanted_of rfl rfl (hsz 71 (by decide)) h29).trans rfl) rfl
        · intro tr act w' hm hout hsz hd hG hk hub
          have h29 := hd ⟨29, .data⟩ (by simp) rfl _ rfl
          have h32 := hd ⟨32, .data⟩ (by simp) rfl _ rfl
          exact jg_run (by rfl) rfl (wanted_none rfl) (ex_pick rfl h29 h32 rfl) (Mod.refl _ _) rfl
        · intro tr act w' hm hout hsz hd hG hk hub
          have h33 := hd ⟨33, .data⟩ (by simp) rfl _ rfl
          exact jg_run (by rfl) rfl (wanted_none rfl) (ex_assign rfl h33) (Mod.refl _ _) rfl
        intro vs tr w6 hl htl hm hG hV
        obtain ⟨v0, vs0, rfl, hl0⟩ := list_cons hl
        obtain ⟨v1, vs1, rfl, hl1⟩ := list_cons hl0
        obtain ⟨v2, vs2, rfl, hl2⟩ := list_cons hl1
        obtain ⟨v3, vs3, rfl, hl3⟩ := list_cons hl2
        obtain ⟨v4, vs4, rfl, hl4⟩ := list_cons hl3
        obtain ⟨v5, vs5, rfl, hl5⟩ := list_cons hl4
        obtain ⟨v6, vs6, rfl, hl6⟩ := list_cons hl5
        obtain ⟨v7, vs7, rfl, hl7⟩ := list_cons hl6
        obtain ⟨v8, vs8, rfl, hl8⟩ := list_cons hl7
        obtain ⟨v9, vs9, rfl, hl9⟩ := list_cons hl8
        obtain ⟨v10, vs10, rfl, hl10⟩ := list_cons hl9
        obtain ⟨v11, vs11, rfl, hl11⟩ := list_cons hl10
        obtain ⟨v12, vs12, rfl, hl12⟩ := list_cons hl11
        obtain ⟨v13, vs13, rfl, hl13⟩ := list_cons hl12
        obtain ⟨v14, vs14, rfl, hl14⟩ := list_cons hl13
        obtain ⟨v15, vs15, rfl, hl15⟩ := list_cons hl14
        obtain ⟨v16, vs16, rfl, hl16⟩ := list_cons hl15
        obtain ⟨v17, vs17, rfl, hl17⟩ := list_cons hl16
        obtain ⟨v18, vs18, rfl, hl18⟩ := list_cons hl17
        obtain ⟨v19, vs19, rfl, hl19⟩ := list_cons hl18
        obtain ⟨v20, vs20, rfl, hl20⟩ := list_cons hl19
        obtain ⟨v21, vs21, rfl, hl21⟩ := list_cons hl20
        obtain ⟨v22, vs22, rfl, hl22⟩ := list_cons hl21
        obtain ⟨v23, vs23, rfl, hl23⟩ := list_cons hl22
        obtain ⟨v24, vs24, rfl, hl24⟩ := list_cons hl23
        obtain ⟨v25, vs25, rfl, hl25⟩ := list_cons hl24
        obtain ⟨v26, vs26, rfl, hl26⟩ := list_cons hl25
        obtain ⟨v27, vs27, rfl, hl27⟩ := list_cons hl26
        obtain ⟨v28, vs28, rfl, hl28⟩ := list_cons hl27
        obtain ⟨v29, vs29, rfl, hl29⟩ := list_cons hl28
        obtain ⟨v30, vs30, rfl, hl30⟩ := list_cons hl29
        obtain ⟨v31, vs31, rfl, hl31⟩ := list_cons hl30
        obtain ⟨v32, vs32, rfl, hl32⟩ := list_cons hl31
        obtain ⟨v33, vs33, rfl, hl33⟩ := list_cons hl32
        obtain ⟨v34, vs34, rfl, hl34⟩ := list_cons hl33
        obtain rfl := list_nil hl34
        clear hl hl0 hl1 hl2 hl3 hl4 hl5 hl6 hl7 hl8 hl9 hl10 hl11 hl12 hl13 hl14 hl15 hl16 hl17 hl18 hl19 hl20 hl21 hl22 hl23 hl24 hl25 hl26 hl27 hl28 hl29 hl30 hl31 hl32 hl33 hl34
        obtain rfl : v34 = .bool false := hV 34 _ rfl
        have ha0 := HA0.out
        subst ha0
        clear HA0 hV hsz0 oe9 oe10
        simp only [putAll, Act.put, List.setIfInBounds_toArray, List.set_cons_zero, List.set_cons_succ, List.set_nil]
        have KM5 := Lib.hid hm
        clear hm hG
        go_upto_region 8 with (fail)
        generalize ha0 : Act.mk _ _ = a0
        have oe9 : a0.eval (.tmp 9) = .pointer (some ⟨q0, 0, none⟩) := by rw [← ha0]; rfl
        have oe10 : a0.eval (.tmp 10) = .pointer (some ⟨q1, 0, none⟩) := by rw [← ha0]; rfl
        have oe11 : a0.eval (.tmp 11) = .bool false := by rw [← ha0]; rfl
        have hsz0 : a0.tmps.size = 84 := by rw [← ha0]; rfl
        have HA0 := Lib.hid ha0
        clear ha0
        refine wp_region_G 84 hsz0 (by kernel_rfl) (by kernel_rfl) [76, 77, 78, 79, 80, 81, 82, 83, 8] (by kernel_rfl) (by decide) (fun _ => False) (fun _ _ => False) (fun _ _ h => h) Still (fun _ _ _ h => h) (fun _ _ _ hm h => hm.trans h (fun _ _ h => h.elim)) [gi (.agg #[.int .i64 1, .int .i64 k]), gi (c.val), gi (.bool false), gi (.bool false), gi (.bool true), gi (.bool true), gi (.bool true), gi (.bool true), gi (.bool true)] ⟨gi_stable, gi_stable, gi_stable, gi_stable, gi_stable, gi_stable, gi_stable, gi_stable, gi_stable, trivial⟩ [] (by kernel_rfl) (by decide) (by kernel_rfl) (fun _ _ => True) (fun _ _ _ _ _ => trivial) trivial ⟨?_, ?_, ?_, ?_, ?_, ?_, ?_, ?_, ?_, trivial⟩ ?_
        · intro tr act w' hm hout hsz hd hG hk hub
          exact jg_run (by rfl) rfl (wanted_none rfl) (ex_loadA rfl Try.underlying24 rfl (off := 0) (cs := [.int .i64 1, .int .i64 k]) (by kernel_rfl) ((hout 9 (by decide)).trans oe9) (Cs.whole (KF.out.mod (KM5.out.trans hm (fun _ _ h => h)) (fun h => h)))) (Mod.refl _ _) rfl
        · intro tr act w' hm hout hsz hd hG hk hub
          exact jg_run (by rfl) rfl (wanted_none rfl) (ex_loadA rfl Try.underlying32 rfl (off := 0) (cs := c.cells) (by rw [Cm.len HCO.out.2.1]; exact size_commit) ((hout 10 (by decide)).trans oe10) (Cs.whole (KX.out.mod (KM5.out.trans hm (fun _ _ h => h)) (fun h => h)))) (Mod.refl _ _) rfl
        · intro tr act w' hm hout hsz hd hG hk hub
          have h0 := hd ⟨0, .data⟩ (by simp) rfl _ rfl
          have h1 := hd ⟨1, .data⟩ (by simp) rfl _ rfl
          refine jg_call (args := #[.agg #[.int .i64 1, .int .i64 k], c.val]) (by rfl) rfl (wanted_none rfl) (by rw [ex_callF rfl Try.func15 (by kernel_rfl) (by kernel_rfl)]; exact congrArg (fun z => Result.ok (Next.enter _ z) _) (by simp only [List.map_toArray, List.map_cons, List.map_nil, show act.eval (.tmp 76) = _ from h0, show act.eval (.tmp 77) = _ from h1]; try rfl)) (Valid_any 1 k c HCO.out _) ?_
          rintro e w2 ⟨rfl, hm2⟩
          exact ⟨_, rfl, hm2, congrArg Value.bool EV.out⟩
        · intro tr act w' hm hout hsz hd hG hk hub
          exact jg_run (by rfl) rfl (wanted_none rfl) (ex_move rfl ((hout 11 (by decide)).trans oe11)) (Mod.refl _ _) rfl
        · intro tr act w' hm hout hsz hd hG hk hub
          have h2 := hd ⟨2, .data⟩ (by simp) rfl _ rfl
          have h3 := hd ⟨3, .data⟩ (by simp) rfl _ rfl
          exact jg_run (by rfl) rfl (wanted_none rfl) (ex_bin rfl h2 h3 (guard_bools _ _ _ _ _ _) (run_eql_bools _ _ _ Try.underlying4)) (Mod.refl _ _) rfl
        · intro tr act w' hm hout hsz hd hG hk hub
          have h4 := hd ⟨4, .data⟩ (by simp) rfl _ rfl
          exact jg_run (by rfl) rfl (wanted_none rfl) (ex_move rfl h4) (Mod.refl _ _) rfl
        · intro tr act w' hm hout hsz hd hG hk hub
          have h5 := hd ⟨5, .guard⟩ (by simp) rfl _ rfl
          refine jg_call (args := #[]) (by rfl) rfl ((wanted_of rfl rfl (hsz 81 (by decide)) h5).trans rfl) (by rw [ex_callF rfl Try.func16 (by kernel_rfl) (by kernel_rfl)]; simp) (wakes04 _) ?_
          rintro e w2 ⟨rfl, hm2⟩
          exact ⟨_, rfl, hm2, rfl⟩
        · intro tr act w' hm hout hsz hd hG hk hub
          have h5 := hd ⟨5, .data⟩ (by simp) rfl _ rfl
          have h6 := hd ⟨6, .data⟩ (by simp) rfl _ rfl
          exact jg_run (by rfl) rfl (wanted_none rfl) (ex_pick rfl h5 h6 rfl) (Mod.refl _ _) rfl
        · intro tr act w' hm hout hsz hd hG hk hub
          have h7 := hd ⟨7, .data⟩ (by simp) rfl _ rfl
          exact jg_run (by rfl) rfl (wanted_none rfl) (ex_assign rfl h7) (Mod.refl _ _) rfl
        intro vs tr w7 hl htl hm hG hV
        obtain ⟨v0x, vs0, rfl, hl0⟩ := list_cons hl
        obtain ⟨v1x, vs1, rfl, hl1⟩ := list_cons hl0
        obtain ⟨v2x, vs2, rfl, hl2⟩ := list_cons hl1
        obtain ⟨v3x, vs3, rfl, hl3⟩ := list_cons hl2
        obtain ⟨v4x, vs4, rfl, hl4⟩ := list_cons hl3
        obtain ⟨v5x, vs5, rfl, hl5⟩ := list_cons hl4
        obtain ⟨v6x, vs6, rfl, hl6⟩ := list_cons hl5
        obtain ⟨v7x, vs7, rfl, hl7⟩ := list_cons hl6
        obtain ⟨v8x, vs8, rfl, hl8⟩ := list_cons hl7
        obtain rfl := list_nil hl8
        clear hl hl0 hl1 hl2 hl3 hl4 hl5 hl6 hl7 hl8
        obtain rfl : v8x = .bool true := hV 8 _ rfl
        have ha0 := HA0.out
        subst ha0
        clear HA0 hV hsz0 oe9 oe10 oe11
        simp only [putAll, Act.put, List.setIfInBounds_toArray, List.set_cons_zero, List.set_cons_succ, List.set_nil]
        have KM6 := Lib.hid ((KM.out.trans KM5.out (fun _ _ h => h)).trans hm (fun _ _ h => h))
        clear hm hG
        go_wp2
        go_ret
        exact ⟨rfl, KM6.out⟩
end Go.Proofs.Ytgnmdnmmemdemaa
