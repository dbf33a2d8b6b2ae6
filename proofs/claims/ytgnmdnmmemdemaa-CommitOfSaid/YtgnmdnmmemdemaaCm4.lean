/- commit.signer, Valid, Matches. -/
import Derived.Test.YtgnmdnmmemdemaaCm3
import Derived.Test.YtgnmdnmmemdemaaVal4
set_option maxRecDepth 100000
set_option linter.unusedVariables false
namespace Go.Proofs.Ytgnmdnmmemdemaa
open Go Go.RowKit Go.Gv

theorem signer_any (n : Int) (w : World) (h : I64 (1000 + n)) : Calls Try.prog 54 #[.int .i64 n] w fun e w' => e = .returned (.int .i64 (1000 + n)) ∧ Mod (fun _ => False) w w' := by
  go_enter Try.func54, Try.ntmps54
  go_wp2
  go_ret
  exact ⟨congrArg (fun z => Ending.returned (Value.int .i64 z)) (by have h' := h; unfold I64 at h'; unfold wrap64; omega), by first | exact Mod.refl _ _ | exact (Mod.refl _ _).drew⟩
def validF (k : Int) (c : Cm) : Bool := decide (0 ≤ c.cl) && decide (c.cl < k) && decide (1 ≤ c.sq) && decide (c.sq ≤ 1048576) && decide (0 ≤ c.ln) && decide (c.ln ≤ 256)
set_option maxHeartbeats 4000000 in
theorem Valid_any (f k : Int) (c : Cm) (hc : c.OK) (w : World) : Calls Try.prog 15 #[.agg #[.int .i64 f, .int .i64 k], c.val] w fun e w' => e = .returned (.bool (validF k c)) ∧ Mod (fun _ => False) w w' := by
  have HL := Lib.hid hc.2.1
  clear hc
  change Calls _ _ #[.agg #[.int .i64 f, .int .i64 k], .agg c.cells.toArray] _ _
  go_enter Try.func15, Try.ntmps15
  go_upto_region 1 with (fail)
  obtain ⟨w1, hw1⟩ : ∃ x, x = (w.alloc (.cells #[.int .i64 f, .int .i64 k] 24)).alloc (.cells c.cells.toArray 32) := ⟨_, rfl⟩
  change Code.wp _ _ _ _ ((w.alloc (.cells #[.int .i64 f, .int .i64 k] 24)).alloc (.cells c.cells.toArray 32))
  rw [← hw1]
  have KF := Lib.hid (show Cs w1 w.heap.size #[.int .i64 f, .int .i64 k] 24 by rw [hw1]; exact (Cs.new _ _ _).alloc _)
  have KX := Lib.hid (show Cs w1 (w.heap.size + 1) c.cells.toArray 32 by rw [hw1]; exact Cs_new1 _ _ _ _)
  have KM := Lib.hid (show Mod (fun _ => False) w w1 by rw [hw1]; exact ((Mod.refl _ _).alloc _).alloc _)
  have hs1 : w1.heap.size = w.heap.size + 2 := by rw [hw1]; simp
  clear hw1
  generalize ha0 : Act.mk _ _ = a0
  have oe3 : a0.eval (.tmp 3) = .pointer (some ⟨w.heap.size + 1, 0, none⟩) := by rw [← ha0]; rfl
  have hsz0 : a0.tmps.size = 38 := by rw [← ha0]; rfl
  have HA0 := Lib.hid ha0
  clear ha0
  refine wp_region_A 38 hsz0 (by kernel_rfl) (by kernel_rfl) [6, 7, 5, 41] (by kernel_rfl) (by decide) (fun j => w1.heap.size ≤ j) (fun _ _ => False) (fun _ _ h => h.elim) Still (fun _ _ _ h => h) (fun _ _ _ hm h => hm.trans h (fun _ _ h => h.elim)) [gi (.pointer (some ⟨w.heap.size + 1, 0, none⟩)), gi (.agg #[.int .i64 c.cl, .int .i64 c.sq]), ga, ga] ⟨gi_stable, gi_stable, ga_stable, ga_stable, trivial⟩ [] (by kernel_rfl) (by decide) (by kernel_rfl) (fun _ _ => True) (fun _ _ _ _ _ => trivial) trivial [⟨2, 3, 26, [.int .i64 0, .int .i64 0], [.int .i64 c.cl, .int .i64 c.sq]⟩] (by kernel_rfl) (by intro r hr; simp only [List.mem_cons, List.not_mem_nil, or_false] at hr; rcases hr with rfl <;> exact ⟨rfl, rfl⟩) (fun _ _ h => h.elim) (fun _ h => h) stillA (fun _ _ _ _ _ _ => trivial) (AllEnd.get _ ⟨gi_end, gi_end, ga_end, ga_end, trivial⟩) (by intro r hr; simp only [List.mem_cons, List.not_mem_nil, or_false] at hr; rcases hr with rfl <;> exact ⟨of_decide_eq_true (by kernel_rfl), of_decide_eq_true (by kernel_rfl)⟩) (by intro r hr; simp only [List.mem_cons, List.not_mem_nil, or_false] at hr; rcases hr with rfl <;> exact fun _ _ _ => ⟨trivial, trivial⟩) ⟨?_, ?_, ?_, ?_, trivial⟩ ?_
  · refine ⟨fun r hr e => ?_, fun r hr e => ?_, fun hno => ?_⟩
    · simp only [List.mem_cons, List.not_mem_nil, or_false] at hr
      rcases hr with rfl
      · simp at e
    · simp only [List.mem_cons, List.not_mem_nil, or_false] at hr
      rcases hr with rfl
      · simp at e
    · intro tr act w' hm hout hsz hd hG hk hub
      refine jg_run (by rfl) rfl (wanted_none rfl) (ex_field rfl Try.underlying32 rfl (by kernel_rfl) ((hout 3 (by decide)).trans oe3)) (Mod.refl _ _) ?_
      rfl
  · refine ⟨fun r hr e => ?_, fun r hr e => ?_, fun hno => ?_⟩
    · simp only [List.mem_cons, List.not_mem_nil, or_false] at hr
      rcases hr with rfl
      · simp at e
    · simp only [List.mem_cons, List.not_mem_nil, or_false] at hr
      rcases hr with rfl
      · simp at e
    · intro tr act w' hm hout hsz hd hG hk hub
      have h0 := hd ⟨0, .data⟩ (by simp) rfl _ rfl
      exact jg_run (by rfl) rfl (wanted_none rfl) (ex_loadA rfl Try.underlying26 rfl (off := 0) (cs := [.int .i64 c.cl, .int .i64 c.sq]) (by kernel_rfl) h0 (Cs.name (KX.out.mod hm (by omega)))) (Mod.refl _ _) rfl
  · refine ⟨fun r hr e => ?_, fun r hr e => ?_, fun hno => ?_⟩
    · simp only [List.mem_cons, List.not_mem_nil, or_false] at hr
      rcases hr with rfl
      · exact ⟨rfl, rfl, by kernel_rfl, rfl, (by intro u hu; simp at hu; rcases hu with rfl | rfl <;> rfl), (by kernel_rfl)⟩
    · simp only [List.mem_cons, List.not_mem_nil, or_false] at hr
      rcases hr with rfl
      · simp at e
    · exact absurd rfl (hno ⟨2, 3, 26, [.int .i64 0, .int .i64 0], [.int .i64 c.cl, .int .i64 c.sq]⟩ (by simp)).1
  · refine ⟨fun r hr e => ?_, fun r hr e => ?_, fun hno => ?_⟩
    · simp only [List.mem_cons, List.not_mem_nil, or_false] at hr
      rcases hr with rfl
      · simp at e
    · simp only [List.mem_cons, List.not_mem_nil, or_false] at hr
      rcases hr with rfl
      · refine ⟨rfl, _, (.tmp 7), rfl, by decide, rfl, by kernel_rfl, by kernel_rfl, fun tr act w' hm hout hd hG => ?_⟩
        have h1 := hd ⟨1, .data⟩ (by simp) rfl _ rfl
        rw [show act.eval ((.tmp 7)) = _ from h1]
        rfl
    · exact absurd rfl (hno ⟨2, 3, 26, [.int .i64 0, .int .i64 0], [.int .i64 c.cl, .int .i64 c.sq]⟩ (by simp)).2
  intro vs tr w2 hl htl hm hG hV hAL hNE
  obtain ⟨v0, vs0, rfl, hl0⟩ := list_cons hl
  obtain ⟨v1, vs1, rfl, hl1⟩ := list_cons hl0
  obtain ⟨v2, vs2, rfl, hl2⟩ := list_cons hl1
  obtain ⟨v3, vs3, rfl, hl3⟩ := list_cons hl2
  obtain rfl := list_nil hl3
  obtain ⟨q0, fq0, hqB0, hqC0⟩ := hAL _ (by simp only [List.mem_cons, List.not_mem_nil, or_false]; trivial)
  obtain rfl : v2 = _ := Option.some.inj fq0
  clear hl hl0 hl1 hl2 hl3
  have ha0 := HA0.out
  subst ha0
  clear HA0 hV hsz0 oe3
  simp only [putAll, Act.put, List.setIfInBounds_toArray, List.set_cons_zero, List.set_cons_succ, List.set_nil]
  have KQ := Lib.hid (show Cs w2 q0 #[.int .i64 c.cl, .int .i64 c.sq] 26 from hqC0)
  have KF2 := Lib.hid (KF.out.mod hm (by omega))
  have KX2 := Lib.hid (KX.out.mod hm (by omega))
  have KM2 := Lib.hid (KM.out.trans hm (fun k h1 h2 => by omega))
  clear hm hG hAL hNE hqC0 fq0 KF KX KM
  by_cases c0 : 0 ≤ c.cl
  · have E0 := Lib.hid (decide_eq_true c0)
    clear c0
    by_cases c1 : c.cl < k
    · have E1 := Lib.hid (decide_eq_true c1)
      clear c1
      by_cases c2 : 1 ≤ c.sq
      · have E2 := Lib.hid (decide_eq_true c2)
        clear c2
        by_cases c3 : c.sq ≤ 1048576
        · have E3 := Lib.hid (decide_eq_true c3)
          clear c3
          by_cases c4 : 0 ≤ c.ln
          · have E4 := Lib.hid (decide_eq_true c4)
            clear c4
            by_cases c5 : c.ln ≤ 256
            · have E5 := Lib.hid (decide_eq_true c5)
              clear c5
              go_upto_region 2 with (fail)
              generalize ha0 : Act.mk _ _ = a0
              have oe2 : a0.eval (.tmp 2) = .pointer (some ⟨w.heap.size, 0, none⟩) := by rw [← ha0]; rfl
              have oe3 : a0.eval (.tmp 3) = .pointer (some ⟨w.heap.size + 1, 0, none⟩) := by rw [← ha0]; rfl
              have oe5 : a0.eval (.tmp 5) = .pointer (some ⟨q0, 0, none⟩) := by rw [← ha0]; rfl
              have hsz0 : a0.tmps.size = 38 := by rw [← ha0]; rfl
              have HA0 := Lib.hid ha0
              clear ha0
              refine wp_region_G 38 hsz0 (by kernel_rfl) (by kernel_rfl) [8, 9, 10, 11, 12, 13, 14, 15, 16, 17, 18, 19, 20, 21, 22, 23, 24, 25, 26, 27, 28, 29, 30, 31, 32, 33, 34, 35, 36, 37, 4] (by kernel_rfl) (by decide) (fun _ => False) (fun _ _ => False) (fun _ _ h => h) Still (fun _ _ _ h => h) (fun _ _ _ hm h => hm.trans h (fun _ _ h => h.elim)) [gi (.pointer (some ⟨q0, 0, none⟩)), gi (.int .i64 c.cl), gi (.bool true), gi (.bool true), gi (.pointer (some ⟨q0, 0, none⟩)), gi (.int .i64 c.cl), gi (.pointer (some ⟨w.heap.size, 1, none⟩)), gi (.int .i64 k), gi (.bool true), gi (.bool true), gi (.bool true), gi (.pointer (some ⟨q0, 1, none⟩)), gi (.int .i64 c.sq), gi (.bool true), gi (.bool true), gi (.bool true), gi (.pointer (some ⟨q0, 1, none⟩)), gi (.int .i64 c.sq), gi (.bool true), gi (.bool true), gi (.bool true), gi (.pointer (some ⟨w.heap.size + 1, 34, none⟩)), gi (.int .i64 c.ln), gi (.bool true), gi (.bool true), gi (.bool true), gi (.pointer (some ⟨w.heap.size + 1, 34, none⟩)), gi (.int .i64 c.ln), gi (.bool true), gi (.bool true), gi (.bool true)] ⟨gi_stable, gi_stable, gi_stable, gi_stable, gi_stable, gi_stable, gi_stable, gi_stable, gi_stable, gi_stable, gi_stable, gi_stable, gi_stable, gi_stable, gi_stable, gi_stable, gi_stable, gi_stable, gi_stable, gi_stable, gi_stable, gi_stable, gi_stable, gi_stable, gi_stable, gi_stable, gi_stable, gi_stable, gi_stable, gi_stable, gi_stable, trivial⟩ [] (by kernel_rfl) (by decide) (by kernel_rfl) (fun _ _ => True) (fun _ _ _ _ _ => trivial) trivial ⟨?_, ?_, ?_, ?_, ?_, ?_, ?_, ?_, ?_, ?_, ?_, ?_, ?_, ?_, ?_, ?_, ?_, ?_, ?_, ?_, ?_, ?_, ?_, ?_, ?_, ?_, ?_, ?_, ?_, ?_, ?_, trivial⟩ ?_
              · intro tr act w' hm hout hsz hd hG hk hub
                refine jg_run (by rfl) rfl (wanted_none rfl) (ex_field rfl Try.underlying26 rfl (by kernel_rfl) ((hout 5 (by decide)).trans oe5)) (Mod.refl _ _) ?_
                rfl
              · intro tr act w' hm hout hsz hd hG hk hub
                have h0 := hd ⟨0, .data⟩ (by simp) rfl _ rfl
                exact jg_run (by rfl) rfl (wanted_none rfl) (ex_load1 rfl Try.underlying3 rfl h0 (by rw [(KQ.out.mod hm (fun h => h)).cell]; rfl)) (Mod.refl _ _) rfl
              · intro tr act w' hm hout hsz hd hG hk hub
                have h1 := hd ⟨1, .data⟩ (by simp) rfl _ rfl
                refine jg_run (by rfl) rfl (wanted_none rfl) (ex_bin rfl h1 rfl (guard_ints _ _ _ _ _ _) (run_geq_i _ _ _ Try.underlying3)) (Mod.refl _ _) ?_
                exact congrArg Value.bool E0.out
              · intro tr act w' hm hout hsz hd hG hk hub
                have h2 := hd ⟨2, .data⟩ (by simp) rfl _ rfl
                exact jg_run (by rfl) rfl (wanted_none rfl) (ex_move rfl h2) (Mod.refl _ _) rfl
              · intro tr act w' hm hout hsz hd hG hk hub
                have h3 := hd ⟨3, .guard⟩ (by simp) rfl _ rfl
                refine jg_run (by rfl) rfl ((wanted_of rfl rfl (hsz 11 (by decide)) h3).trans rfl) (ex_field rfl Try.underlying26 rfl (by kernel_rfl) ((hout 5 (by decide)).trans oe5)) (Mod.refl _ _) ?_
                rfl
              · intro tr act w' hm hout hsz hd hG hk hub
                have h3 := hd ⟨3, .guard⟩ (by simp) rfl _ rfl
                have h4 := hd ⟨4, .data⟩ (by simp) rfl _ rfl
                exact jg_run (by rfl) rfl ((wanted_of rfl rfl (hsz 11 (by decide)) h3).trans rfl) (ex_load1 rfl Try.underlying3 rfl h4 (by rw [(KQ.out.mod hm (fun h => h)).cell]; rfl)) (Mod.refl _ _) rfl
              · intro tr act w' hm hout hsz hd hG hk hub
                have h3 := hd ⟨3, .guard⟩ (by simp) rfl _ rfl
                refine jg_run (by rfl) rfl ((wanted_of rfl rfl (hsz 11 (by decide)) h3).trans rfl) (ex_field rfl Try.underlying24 rfl (by kernel_rfl) ((hout 2 (by decide)).trans oe2)) (Mod.refl _ _) ?_
                rfl
              · intro tr act w' hm hout hsz hd hG hk hub
                have h3 := hd ⟨3, .guard⟩ (by simp) rfl _ rfl
                have h6 := hd ⟨6, .data⟩ (by simp) rfl _ rfl
                exact jg_run (by rfl) rfl ((wanted_of rfl rfl (hsz 11 (by decide)) h3).trans rfl) (ex_load1 rfl Try.underlying3 rfl h6 (by rw [(KF2.out.mod hm (fun h => h)).cell]; rfl)) (Mod.refl _ _) rfl
              · intro tr act w' hm hout hsz hd hG hk hub
                have h3 := hd ⟨3, .guard⟩ (by simp) rfl _ rfl
                have h5 := hd ⟨5, .data⟩ (by simp) rfl _ rfl
                have h7 := hd ⟨7, .data⟩ (by simp) rfl _ rfl
                refine jg_run (by rfl) rfl ((wanted_of rfl rfl (hsz 11 (by decide)) h3).trans rfl) (ex_bin rfl h5 h7 (guard_ints _ _ _ _ _ _) (run_lss_i _ _ _ Try.underlying3)) (Mod.refl _ _) ?_
                exact congrArg Value.bool E1.out
              · intro tr act w' hm hout hsz hd hG hk hub
                have h3 := hd ⟨3, .data⟩ (by simp) rfl _ rfl
                have h8 := hd ⟨8, .data⟩ (by simp) rfl _ rfl
                exact jg_run (by rfl) rfl (wanted_none rfl) (ex_pick rfl h3 h8 rfl) (Mod.refl _ _) rfl
              · intro tr act w' hm hout hsz hd hG hk hub
                have h9 := hd ⟨9, .data⟩ (by simp) rfl _ rfl
                exact jg_run (by rfl) rfl (wanted_none rfl) (ex_move rfl h9) (Mod.refl _ _) rfl
              · intro tr act w' hm hout hsz hd hG hk hub
                have h10 := hd ⟨10, .guard⟩ (by simp) rfl _ rfl
                refine jg_run (by rfl) rfl ((wanted_of rfl rfl (hsz 18 (by decide)) h10).trans rfl) (ex_field rfl Try.underlying26 rfl (by kernel_rfl) ((hout 5 (by decide)).trans oe5)) (Mod.refl _ _) ?_
                rfl
              · intro tr act w' hm hout hsz hd hG hk hub
                have h10 := hd ⟨10, .guard⟩ (by simp) rfl _ rfl
                have h11 := hd ⟨11, .data⟩ (by simp) rfl _ rfl
                exact jg_run (by rfl) rfl ((wanted_of rfl rfl (hsz 18 (by decide)) h10).trans rfl) (ex_load1 rfl Try.underlying3 rfl h11 (by rw [(KQ.out.mod hm (fun h => h)).cell]; rfl)) (Mod.refl _ _) rfl
              · intro tr act w' hm hout hsz hd hG hk hub
                have h10 := hd ⟨10, .guard⟩ (by simp) rfl _ rfl
                have h12 := hd ⟨12, .data⟩ (by simp) rfl _ rfl
                refine jg_run (by rfl) rfl ((wanted_of rfl rfl (hsz 18 (by decide)) h10).trans rfl) (ex_bin rfl h12 rfl (guard_ints _ _ _ _ _ _) (run_geq_i _ _ _ Try.underlying3)) (Mod.refl _ _) ?_
                exact congrArg Value.bool E2.out
              · intro tr act w' hm hout hsz hd hG hk hub
                have h10 := hd ⟨10, .data⟩ (by simp) rfl _ rfl
                have h13 := hd ⟨13, .data⟩ (by simp) rfl _ rfl
                exact jg_run (by rfl) rfl (wanted_none rfl) (ex_pick rfl h10 h13 rfl) (Mod.refl _ _) rfl
              · intro tr act w' hm hout hsz hd hG hk hub
                have h14 := hd ⟨14, .data⟩ (by simp) rfl _ rfl
                exact jg_run (by rfl) rfl (wanted_none rfl) (ex_move rfl h14) (Mod.refl _ _) rfl
              · intro tr act w' hm hout hsz hd hG hk hub
                have h15 := hd ⟨15, .guard⟩ (by simp) rfl _ rfl
                refine jg_run (by rfl) rfl ((wanted_of rfl rfl (hsz 23 (by decide)) h15).trans rfl) (ex_field rfl Try.underlying26 rfl (by kernel_rfl) ((hout 5 (by decide)).trans oe5)) (Mod.refl _ _) ?_
                rfl
              · intro tr act w' hm hout hsz hd hG hk hub
                have h15 := hd ⟨15, .guard⟩ (by simp) rfl _ rfl
                have h16 := hd ⟨16, .data⟩ (by simp) rfl _ rfl
                exact jg_run (by rfl) rfl ((wanted_of rfl rfl (hsz 23 (by decide)) h15).trans rfl) (ex_load1 rfl Try.underlying3 rfl h16 (by rw [(KQ.out.mod hm (fun h => h)).cell]; rfl)) (Mod.refl _ _) rfl
              · intro tr act w' hm hout hsz hd hG hk hub
                have h15 := hd ⟨15, .guard⟩ (by simp) rfl _ rfl
                have h17 := hd ⟨17, .data⟩ (by simp) rfl _ rfl
                refine jg_run (by rfl) rfl ((wanted_of rfl rfl (hsz 23 (by decide)) h15).trans rfl) (ex_bin rfl h17 rfl (guard_ints _ _ _ _ _ _) (run_leq_i _ _ _ Try.underlying3)) (Mod.refl _ _) ?_
                exact congrArg Value.bool E3.out
              · intro tr act w' hm hout hsz hd hG hk hub
                have h15 := hd ⟨15, .data⟩ (by simp) rfl _ rfl
                have h18 := hd ⟨18, .data⟩ (by simp) rfl _ rfl
                exact jg_run (by rfl) rfl (wanted_none rfl) (ex_pick rfl h15 h18 rfl) (Mod.refl _ _) rfl
              · intro tr act w' hm hout hsz hd hG hk hub
                have h19 := hd ⟨19, .data⟩ (by simp) rfl _ rfl
                exact jg_run (by rfl) rfl (wanted_none rfl) (ex_move rfl h19) (Mod.refl _ _) rfl
              · intro tr act w' hm hout hsz hd hG hk hub
                have h20 := hd ⟨20, .guard⟩ (by simp) rfl _ rfl
                refine jg_run (by rfl) rfl ((wanted_of rfl rfl (hsz 28 (by decide)) h20).trans rfl) (ex_field rfl Try.underlying32 rfl (by kernel_rfl) ((hout 3 (by decide)).trans oe3)) (Mod.refl _ _) ?_
                rfl
              · intro tr act w' hm hout hsz hd hG hk hub
                have h20 := hd ⟨20, .guard⟩ (by simp) rfl _ rfl
                have h21 := hd ⟨21, .data⟩ (by simp) rfl _ rfl
                exact jg_run (by rfl) rfl ((wanted_of rfl rfl (hsz 28 (by decide)) h20).trans rfl) (ex_load1 rfl Try.underlying3 rfl h21 ((KX2.out.mod hm (fun h => h)).c34 HL.out)) (Mod.refl _ _) rfl
              · intro tr act w' hm hout hsz hd hG hk hub
                have h20 := hd ⟨20, .guard⟩ (by simp) rfl _ rfl
                have h22 := hd ⟨22, .data⟩ (by simp) rfl _ rfl
                refine jg_run (by rfl) rfl ((wanted_of rfl rfl (hsz 28 (by decide)) h20).trans rfl) (ex_bin rfl h22 rfl (guard_ints _ _ _ _ _ _) (run_geq_i _ _ _ Try.underlying3)) (Mod.refl _ _) ?_
                exact congrArg Value.bool E4.out
              · intro tr act w' hm hout hsz hd hG hk hub
                have h20 := hd ⟨20, .data⟩ (by simp) rfl _ rfl
                have h23 := hd ⟨23, .data⟩ (by simp) rfl _ rfl
                exact jg_run (by rfl) rfl (wanted_none rfl) (ex_pick rfl h20 h23 rfl) (Mod.refl _ _) rfl
              · intro tr act w' hm hout hsz hd hG hk hub
                have h24 := hd ⟨24, .data⟩ (by simp) rfl _ rfl
                exact jg_run (by rfl) rfl (wanted_none rfl) (ex_move rfl h24) (Mod.refl _ _) rfl
              · intro tr act w' hm hout hsz hd hG hk hub
                have h25 := hd ⟨25, .guard⟩ (by simp) rfl _ rfl
                refine jg_run (by rfl) rfl ((wanted_of rfl rfl (hsz 33 (by decide)) h25).trans rfl) (ex_field rfl Try.underlying32 rfl (by kernel_rfl) ((hout 3 (by decide)).trans oe3)) (Mod.refl _ _) ?_
                rfl
              · intro tr act w' hm hout hsz hd hG hk hub
                have h25 := hd ⟨25, .guard⟩ (by simp) rfl _ rfl
                have h26 := hd ⟨26, .data⟩ (by simp) rfl _ rfl
                exact jg_run (by rfl) rfl ((wanted_of rfl rfl (hsz 33 (by decide)) h25).trans rfl) (ex_load1 rfl Try.underlying3 rfl h26 ((KX2.out.mod hm (fun h => h)).c34 HL.out)) (Mod.refl _ _) rfl
              · intro tr act w' hm hout hsz hd hG hk hub
                have h25 := hd ⟨25, .guard⟩ (by simp) rfl _ rfl
                have h27 := hd ⟨27, .data⟩ (by simp) rfl _ rfl
                refine jg_run (by rfl) rfl ((wanted_of rfl rfl (hsz 33 (by decide)) h25).trans rfl) (ex_bin rfl h27 rfl (guard_ints _ _ _ _ _ _) (run_leq_i _ _ _ Try.underlying3)) (Mod.refl _ _) ?_
                exact congrArg Value.bool E5.out
              · intro tr act w' hm hout hsz hd hG hk hub
                have h25 := hd ⟨25, .data⟩ (by simp) rfl _ rfl
                have h28 := hd ⟨28, .data⟩ (by simp) rfl _ rfl
                exact jg_run (by rfl) rfl (wanted_none rfl) (ex_pick rfl h25 h28 rfl) (Mod.refl _ _) rfl
              · intro tr act w' hm hout hsz hd hG hk hub
                have h29 := hd ⟨29, .data⟩ (by simp) rfl _ rfl
                exact jg_run (by rfl) rfl (wanted_none rfl) (ex_assign rfl h29) (Mod.refl _ _) rfl
              intro vs tr w3 hl htl hm hG hV
              obtain ⟨v0, vs0, rfl, hl0⟩ := list_cons hl
              obtain ⟨v1, vs1, rfl, hl1⟩ := list_cons hl0
              obtain ⟨v2, vs2, rfl, hl2⟩ := list_cons hl1
              obtain ⟨v3, vs3, rfl, hl3⟩ := list_cons hl2
              obtain ⟨v4, vs4, rfl, hl4⟩ := list_cons hl3
              obtain ⟨v5, vs5, rfl, hl5⟩ := list_cons hl4
              obtain ⟨v6, vs6, rfl, hl6⟩ := list_cons hl5
              obtain ⟨v7, vs7, rfl, hl7⟩ := list_cons hl6
              obtain ⟨v8, vs8, rfl, hl8⟩ := list_cons hl7
              obtain ⟨v9, vs9, rfl, hl9⟩ := list_cons hl8
              obtain ⟨v10, vs10, rfl, hl10⟩ := list_cons hl9
              obtain ⟨v11, vs11, rfl, hl11⟩ := list_cons hl10
              obtain ⟨v12, vs12, rfl, hl12⟩ := list_cons hl11
              obtain ⟨v13, vs13, rfl, hl13⟩ := list_cons hl12
              obtain ⟨v14, vs14, rfl, hl14⟩ := list_cons hl13
              obtain ⟨v15, vs15, rfl, hl15⟩ := list_cons hl14
              obtain ⟨v16, vs16, rfl, hl16⟩ := list_cons hl15
              obtain ⟨v17, vs17, rfl, hl17⟩ := list_cons hl16
              obtain ⟨v18, vs18, rfl, hl18⟩ := list_cons hl17
              obtain ⟨v19, vs19, rfl, hl19⟩ := list_cons hl18
              obtain ⟨v20, vs20, rfl, hl20⟩ := list_cons hl19
              obtain ⟨v21, vs21, rfl, hl21⟩ := list_cons hl20
              obtain ⟨v22, vs22, rfl, hl22⟩ := list_cons hl21
              obtain ⟨v23, vs23, rfl, hl23⟩ := list_cons hl22
              obtain ⟨v24, vs24, rfl, hl24⟩ := list_cons hl23
              obtain ⟨v25, vs25, rfl, hl25⟩ := list_cons hl24
              obtain ⟨v26, vs26, rfl, hl26⟩ := list_cons hl25
              obtain ⟨v27, vs27, rfl, hl27⟩ := list_cons hl26
              obtain ⟨v28, vs28, rfl, hl28⟩ := list_cons hl27
              obtain ⟨v29, vs29, rfl, hl29⟩ := list_cons hl28
              obtain ⟨v30, vs30, rfl, hl30⟩ := list_cons hl29
              obtain rfl := list_nil hl30
              clear hl hl0 hl1 hl2 hl3 hl4 hl5 hl6 hl7 hl8 hl9 hl10 hl11 hl12 hl13 hl14 hl15 hl16 hl17 hl18 hl19 hl20 hl21 hl22 hl23 hl24 hl25 hl26 hl27 hl28 hl29 hl30
              obtain rfl : v30 = .bool true := hV 30 _ rfl
              have ha0 := HA0.out
              subst ha0
              clear HA0 hV hsz0 oe2 oe3 oe5
              simp only [putAll, Act.put, List.setIfInBounds_toArray, List.set_cons_zero, List.set_cons_succ]
              have KM3 := Lib.hid (KM2.out.trans hm (fun _ _ h => h))
              clear hm hG
              go_wp2
              go_ret
              exact ⟨congrArg (fun z => Ending.returned (Value.bool z)) (show true = validF k c by unfold validF; (simp only [E0.out, E1.out, E2.out, E3.out, E4.out, E5.out, Bool.true_and] <;> rfl)), KM3.out⟩
            · have E5 := Lib.hid (decide_eq_false c5)
              clear c5
              go_upto_region 2 with (fail)
              generalize ha0 : Act.mk _ _ = a0
              have oe2 : a0.eval (.tmp 2) = .pointer (some ⟨w.heap.size, 0, none⟩) := by rw [← ha0]; rfl
              have oe3 : a0.eval (.tmp 3) = .pointer (some ⟨w.heap.size + 1, 0, none⟩) := by rw [← ha0]; rfl
              have oe5 : a0.eval (.tmp 5) = .pointer (some ⟨q0, 0, none⟩) := by rw [← ha0]; rfl
              have hsz0 : a0.tmps.size = 38 := by rw [← ha0]; rfl
              have HA0 := Lib.hid ha0
              clear ha0
              refine wp_region_G 38 hsz0 (by kernel_rfl) (by kernel_rfl) [8, 9, 10, 11, 12, 13, 14, 15, 16, 17, 18, 19, 20, 21, 22, 23, 24, 25, 26, 27, 28, 29, 30, 31, 32, 33, 34, 35, 36, 37, 4] (by kernel_rfl) (by decide) (fun _ => False) (fun _ _ => False) (fun _ _ h => h) Still (fun _ _ _ h => h) (fun _ _ _ hm h => hm.trans h (fun _ _ h => h.elim)) [gi (.pointer (some ⟨q0, 0, none⟩)), gi (.int .i64 c.cl), gi (.bool true), gi (.bool true), gi (.pointer (some ⟨q0, 0, none⟩)), gi (.int .i64 c.cl), gi (.pointer (some ⟨w.heap.size, 1, none⟩)), gi (.int .i64 k), gi (.bool true), gi (.bool true), gi (.bool true), gi (.pointer (some ⟨q0, 1, none⟩)), gi (.int .i64 c.sq), gi (.bool true), gi (.bool true), gi (.bool true), gi (.pointer (some ⟨q0, 1, none⟩)), gi (.int .i64 c.sq), gi (.bool true), gi (.bool true), gi (.bool true), gi (.pointer (some ⟨w.heap.size + 1, 34, none⟩)), gi (.int .i64 c.ln), gi (.bool true), gi (.bool true), gi (.bool true), gi (.pointer (some ⟨w.heap.size + 1, 34, none⟩)), gi (.int .i64 c.ln), gi (.bool false), gi (.bool false), gi (.bool false)] ⟨gi_stable, gi_stable, gi_stable, gi_stable, gi_stable, gi_stable, gi_stable, gi_stable, gi_stable, gi_stable, gi_stable, gi_stable, gi_stable, gi_stable, gi_stable, gi_stable, gi_stable, gi_stable, gi_stable, gi_stable, gi_stable, gi_stable, gi_stable, gi_stable, gi_stable, gi_stable, gi_stable, gi_stable, gi_stable, gi_stable, gi_stable, trivial⟩ [] (by kernel_rfl) (by decide) (by kernel_rfl) (fun _ _ => True) (fun _ _ _ _ _ => trivial) trivial ⟨?_, ?_, ?_, ?_, ?_, ?_, ?_, ?_, ?_, ?_, ?_, ?_, ?_, ?_, ?_, ?_, ?_, ?_, ?_, ?_, ?_, ?_, ?_, ?_, ?_, ?_, ?_, ?_, ?_, ?_, ?_, trivial⟩ ?_
              · intro tr act w' hm hout hsz hd hG hk hub
                refine jg_run (by rfl) rfl (wanted_none rfl) (ex_field rfl Try.underlying26 rfl (by kernel_rfl) ((hout 5 (by decide)).trans oe5)) (Mod.refl _ _) ?_
                rfl
              · intro tr act w' hm hout hsz hd hG hk hub
                have h0 := hd ⟨0, .data⟩ (by simp) rfl _ rfl
                exact jg_run (by rfl) rfl (wanted_none rfl) (ex_load1 rfl Try.underlying3 rfl h0 (by rw [(KQ.out.mod hm (fun h => h)).cell]; rfl)) (Mod.refl _ _) rfl
              · intro tr act w' hm hout hsz hd hG hk hub
                have h1 := hd ⟨1, .data⟩ (by simp) rfl _ rfl
                refine jg_run (by rfl) rfl (wanted_none rfl) (ex_bin rfl h1 rfl (guard_ints _ _ _ _ _ _) (run_geq_i _ _ _ Try.underlying3)) (Mod.refl _ _) ?_
                exact congrArg Value.bool E0.out
              · intro tr act w' hm hout hsz hd hG hk hub
                have h2 := hd ⟨2, .data⟩ (by simp) rfl _ rfl
                exact jg_run (by rfl) rfl (wanted_none rfl) (ex_move rfl h2) (Mod.refl _ _) rfl
              · intro tr act w' hm hout hsz hd hG hk hub
                have h3 := hd ⟨3, .guard⟩ (by simp) rfl _ rfl
                refine jg_run (by rfl) rfl ((wanted_of rfl rfl (hsz 11 (by decide)) h3).trans rfl) (ex_field rfl Try.underlying26 rfl (by kernel_rfl) ((hout 5 (by decide)).trans oe5)) (Mod.refl _ _) ?_
                rfl
              · intro tr act w' hm hout hsz hd hG hk hub
                have h3 := hd ⟨3, .guard⟩ (by simp) rfl _ rfl
                have h4 := hd ⟨4, .data⟩ (by simp) rfl _ rfl
                exact jg_run (by rfl) rfl ((wanted_of rfl rfl (hsz 11 (by decide)) h3).trans rfl) (ex_load1 rfl Try.underlying3 rfl h4 (by rw [(KQ.out.mod hm (fun h => h)).cell]; rfl)) (Mod.refl _ _) rfl
              · intro tr act w' hm hout hsz hd hG hk hub
                have h3 := hd ⟨3, .guard⟩ (by simp) rfl _ rfl
                refine jg_run (by rfl) rfl ((wanted_of rfl rfl (hsz 11 (by decide)) h3).trans rfl) (ex_field rfl Try.underlying24 rfl (by kernel_rfl) ((hout 2 (by decide)).trans oe2)) (Mod.refl _ _) ?_
                rfl
              · intro tr act w' hm hout hsz hd hG hk hub
                have h3 := hd ⟨3, .guard⟩ (by simp) rfl _ rfl
                have h6 := hd ⟨6, .data⟩ (by simp) rfl _ rfl
                exact jg_run (by rfl) rfl ((wanted_of rfl rfl (hsz 11 (by decide)) h3).trans rfl) (ex_load1 rfl Try.underlying3 rfl h6 (by rw [(KF2.out.mod hm (fun h => h)).cell]; rfl)) (Mod.refl _ _) rfl
              · intro tr act w' hm hout hsz hd hG hk hub
                have h3 := hd ⟨3, .guard⟩ (by simp) rfl _ rfl
                have h5 := hd ⟨5, .data⟩ (by simp) rfl _ rfl
                have h7 := hd ⟨7, .data⟩ (by simp) rfl _ rfl
                refine jg_run (by rfl) rfl ((wanted_of rfl rfl (hsz 11 (by decide)) h3).trans rfl) (ex_bin rfl h5 h7 (guard_ints _ _ _ _ _ _) (run_lss_i _ _ _ Try.underlying3)) (Mod.refl _ _) ?_
                exact congrArg Value.bool E1.out
              · intro tr act w' hm hout hsz hd hG hk hub
                have h3 := hd ⟨3, .data⟩ (by simp) rfl _ rfl
                have h8 := hd ⟨8, .data⟩ (by simp) rfl _ rfl
                exact jg_run (by rfl) rfl (wanted_none rfl) (ex_pick rfl h3 h8 rfl) (Mod.refl _ _) rfl
              · intro tr act w' hm hout hsz hd hG hk hub
                have h9 := hd ⟨9, .data⟩ (by simp) rfl _ rfl
                exact jg_run (by rfl) rfl (wanted_none rfl) (ex_move rfl h9) (Mod.refl _ _) rfl
              · intro tr act w' hm hout hsz hd hG hk hub
                have h10 := hd ⟨10, .guard⟩ (by simp) rfl _ rfl
                refine jg_run (by rfl) rfl ((wanted_of rfl rfl (hsz 18 (by decide)) h10).trans rfl) (ex_field rfl Try.underlying26 rfl (by kernel_rfl) ((hout 5 (by decide)).trans oe5)) (Mod.refl _ _) ?_
                rfl
              · intro tr act w' hm hout hsz hd hG hk hub
                have h10 := hd ⟨10, .guard⟩ (by simp) rfl _ rfl
                have h11 := hd ⟨11, .data⟩ (by simp) rfl _ rfl
                exact jg_run (by rfl) rfl ((wanted_of rfl rfl (hsz 18 (by decide)) h10).trans rfl) (ex_load1 rfl Try.underlying3 rfl h11 (by rw [(KQ.out.mod hm (fun h => h)).cell]; rfl)) (Mod.refl _ _) rfl
              · intro tr act w' hm hout hsz hd hG hk hub
                have h10 := hd ⟨10, .guard⟩ (by simp) rfl _ rfl
                have h12 := hd ⟨12, .data⟩ (by simp) rfl _ rfl
                refine jg_run (by rfl) rfl ((wanted_of rfl rfl (hsz 18 (by decide)) h10).trans rfl) (ex_bin rfl h12 rfl (guard_ints _ _ _ _ _ _) (run_geq_i _ _ _ Try.underlying3)) (Mod.refl _ _) ?_
                exact congrArg Value.bool E2.out
              · intro tr act w' hm hout hsz hd hG hk hub
                have h10 := hd ⟨10, .data⟩ (by simp) rfl _ rfl
                have h13 := hd ⟨13, .data⟩ (by simp) rfl _ rfl
                exact jg_run (by rfl) rfl (wanted_none rfl) (ex_pick rfl h10 h13 rfl) (Mod.refl _ _) rfl
              · intro tr act w' hm hout hsz hd hG hk hub
                have h14 := hd ⟨14, .data⟩ (by simp) rfl _ rfl
                exact jg_run (by rfl) rfl (wanted_none rfl) (ex_move rfl h14) (Mod.refl _ _) rfl
              · intro tr act w' hm hout hsz hd hG hk hub
                have h15 := hd ⟨15, .guard⟩ (by simp) rfl _ rfl
                refine jg_run (by rfl) rfl ((wanted_of rfl rfl (hsz 23 (by decide)) h15).trans rfl) (ex_field rfl Try.underlying26 rfl (by kernel_rfl) ((hout 5 (by decide)).trans oe5)) (Mod.refl _ _) ?_
                rfl
              · intro tr act w' hm hout hsz hd hG hk hub
                have h15 := hd ⟨15, .guard⟩ (by simp) rfl _ rfl
                have h16 := hd ⟨16, .data⟩ (by simp) rfl _ rfl
                exact jg_run (by rfl) rfl ((wanted_of rfl rfl (hsz 23 (by decide)) h15).trans rfl) (ex_load1 rfl Try.underlying3 rfl h16 (by rw [(KQ.out.mod hm (fun h => h)).cell]; rfl)) (Mod.refl _ _) rfl
              · intro tr act w' hm hout hsz hd hG hk hub
                have h15 := hd ⟨15, .guard⟩ (by simp) rfl _ rfl
                have h17 := hd ⟨17, .data⟩ (by simp) rfl _ rfl
                refine jg_run (by rfl) rfl ((wanted_of rfl rfl (hsz 23 (by decide)) h15).trans rfl) (ex_bin rfl h17 rfl (guard_ints _ _ _ _ _ _) (run_leq_i _ _ _ Try.underlying3)) (Mod.refl _ _) ?_
                exact congrArg Value.bool E3.out
              · intro tr act w' hm hout hsz hd hG hk hub
                have h15 := hd ⟨15, .data⟩ (by simp) rfl _ rfl
                have h18 := hd ⟨18, .data⟩ (by simp) rfl _ rfl
                exact jg_run (by rfl) rfl (wanted_none rfl) (ex_pick rfl h15 h18 rfl) (Mod.refl _ _) rfl
              · intro tr act w' hm hout hsz hd hG hk hub
                have h19 := hd ⟨19, .data⟩ (by simp) rfl _ rfl
                exact jg_run (by rfl) rfl (wanted_none rfl) (ex_move rfl h19) (Mod.refl _ _) rfl
              · intro tr act w' hm hout hsz hd hG hk hub
                have h20 := hd ⟨20, .guard⟩ (by simp) rfl _ rfl
                refine jg_run (by rfl) rfl ((wanted_of rfl rfl (hsz 28 (by decide)) h20).trans rfl) (ex_field rfl Try.underlying32 rfl (by kernel_rfl) ((hout 3 (by decide)).trans oe3)) (Mod.refl _ _) ?_
                rfl
              · intro tr act w' hm hout hsz hd hG hk hub
                have h20 := hd ⟨20, .guard⟩ (by simp) rfl _ rfl
                have h21 := hd ⟨21, .data⟩ (by simp) rfl _ rfl
                exact jg_run (by rfl) rfl ((wanted_of rfl rfl (hsz 28 (by decide)) h20).trans rfl) (ex_load1 rfl Try.underlying3 rfl h21 ((KX2.out.mod hm (fun h => h)).c34 HL.out)) (Mod.refl _ _) rfl
              · intro tr act w' hm hout hsz hd hG hk hub
                have h20 := hd ⟨20, .guard⟩ (by simp) rfl _ rfl
                have h22 := hd ⟨22, .data⟩ (by simp) rfl _ rfl
                refine jg_run (by rfl) rfl ((wanted_of rfl rfl (hsz 28 (by decide)) h20).trans rfl) (ex_bin rfl h22 rfl (guard_ints _ _ _ _ _ _) (run_geq_i _ _ _ Try.underlying3)) (Mod.refl _ _) ?_
                exact congrArg Value.bool E4.out
              · intro tr act w' hm hout hsz hd hG hk hub
                have h20 := hd ⟨20, .data⟩ (by simp) rfl _ rfl
                have h23 := hd ⟨23, .data⟩ (by simp) rfl _ rfl
                exact jg_run (by rfl) rfl (wanted_none rfl) (ex_pick rfl h20 h23 rfl) (Mod.refl _ _) rfl
              · intro tr act w' hm hout hsz hd hG hk hub
                have h24 := hd ⟨24, .data⟩ (by simp) rfl _ rfl
                exact jg_run (by rfl) rfl (wanted_none rfl) (ex_move rfl h24) (Mod.refl _ _) rfl
              · intro tr act w' hm hout hsz hd hG hk hub
                have h25 := hd ⟨25, .guard⟩ (by simp) rfl _ rfl
                refine jg_run (by rfl) rfl ((wanted_of rfl rfl (hsz 33 (by decide)) h25).trans rfl) (ex_field rfl Try.underlying32 rfl (by kernel_rfl) ((hout 3 (by decide)).trans oe3)) (Mod.refl _ _) ?_
                rfl
              · intro tr act w' hm hout hsz hd hG hk hub
                have h25 := hd ⟨25, .guard⟩ (by simp) rfl _ rfl
                have h26 := hd ⟨26, .data⟩ (by simp) rfl _ rfl
                exact jg_run (by rfl) rfl ((wanted_of rfl rfl (hsz 33 (by decide)) h25).trans rfl) (ex_load1 rfl Try.underlying3 rfl h26 ((KX2.out.mod hm (fun h => h)).c34 HL.out)) (Mod.refl _ _) rfl
              · intro tr act w' hm hout hsz hd hG hk hub
                have h25 := hd ⟨25, .guard⟩ (by simp) rfl _ rfl
                have h27 := hd ⟨27, .data⟩ (by simp) rfl _ rfl
                refine jg_run (by rfl) rfl ((wanted_of rfl rfl (hsz 33 (by decide)) h25).trans rfl) (ex_bin rfl h27 rfl (guard_ints _ _ _ _ _ _) (run_leq_i _ _ _ Try.underlying3)) (Mod.refl _ _) ?_
                exact congrArg Value.bool E5.out
              · intro tr act w' hm hout hsz hd hG hk hub
                have h25 := hd ⟨25, .data⟩ (by simp) rfl _ rfl
                have h28 := hd ⟨28, .data⟩ (by simp) rfl _ rfl
                exact jg_run (by rfl) rfl (wanted_none rfl) (ex_pick rfl h25 h28 rfl) (Mod.refl _ _) rfl
              · intro tr act w' hm hout hsz hd hG hk hub
                have h29 := hd ⟨29, .data⟩ (by simp) rfl _ rfl
                exact jg_run (by rfl) rfl (wanted_none rfl) (ex_assign rfl h29) (Mod.refl _ _) rfl
              intro vs tr w3 hl htl hm hG hV
              obtain ⟨v0, vs0, rfl, hl0⟩ := list_cons hl
              obtain ⟨v1, vs1, rfl, hl1⟩ := list_cons hl0
              obtain ⟨v2, vs2, rfl, hl2⟩ := list_cons hl1
              obtain ⟨v3, vs3, rfl, hl3⟩ := list_cons hl2
              obtain ⟨v4, vs4, rfl, hl4⟩ := list_cons hl3
              obtain ⟨v5, vs5, rfl, hl5⟩ := list_cons hl4
              obtain ⟨v6, vs6, rfl, hl6⟩ := list_cons hl5
              obtain ⟨v7, vs7, rfl, hl7⟩ := list_cons hl6
              obtain ⟨v8, vs8, rfl, hl8⟩ := list_cons hl7
              obtain ⟨v9, vs9, rfl, hl9⟩ := list_cons hl8
              obtain ⟨v10, vs10, rfl, hl10⟩ := list_cons hl9
              obtain ⟨v11, vs11, rfl, hl11⟩ := list_cons hl10
              obtain ⟨v12, vs12, rfl, hl12⟩ := list_cons hl11
              obtain ⟨v13, vs13, rfl, hl13⟩ := list_cons hl12
              obtain ⟨v14, vs14, rfl, hl14⟩ := list_cons hl13
              obtain ⟨v15, vs15, rfl, hl15⟩ := list_cons hl14
              obtain ⟨v16, vs16, rfl, hl16⟩ := list_cons hl15
              obtain ⟨v17, vs17, rfl, hl17⟩ := list_cons hl16
              obtain ⟨v18, vs18, rfl, hl18⟩ := list_cons hl17
              obtain ⟨v19, vs19, rfl, hl19⟩ := list_cons hl18
              obtain ⟨v20, vs20, rfl, hl20⟩ := list_cons hl19
              obtain ⟨v21, vs21, rfl, hl21⟩ := list_cons hl20
              obtain ⟨v22, vs22, rfl, hl22⟩ := list_cons hl21
              obtain ⟨v23, vs23, rfl, hl23⟩ := list_cons hl22
              obtain ⟨v24, vs24, rfl, hl24⟩ := list_cons hl23
              obtain ⟨v25, vs25, rfl, hl25⟩ := list_cons hl24
              obtain ⟨v26, vs26, rfl, hl26⟩ := list_cons hl25
              obtain ⟨v27, vs27, rfl, hl27⟩ := list_cons hl26
              obtain ⟨v28, vs28, rfl, hl28⟩ := list_cons hl27
              obtain ⟨v29, vs29, rfl, hl29⟩ := list_cons hl28
              obtain ⟨v30, vs30, rfl, hl30⟩ := list_cons hl29
              obtain rfl := list_nil hl30
              clear hl hl0 hl1 hl2 hl3 hl4 hl5 hl6 hl7 hl8 hl9 hl10 hl11 hl12 hl13 hl14 hl15 hl16 hl17 hl18 hl19 hl20 hl21 hl22 hl23 hl24 hl25 hl26 hl27 hl28 hl29 hl30
              obtain rfl : v30 = .bool false := hV 30 _ rfl
              have ha0 := HA0.out
              subst ha0
              clear HA0 hV hsz0 oe2 oe3 oe5
              simp only [putAll, Act.put, List.setIfInBounds_toArray, List.set_cons_zero, List.set_cons_succ]
              have KM3 := Lib.hid (KM2.out.trans hm (fun _ _ h => h))
              clear hm hG
              go_wp2
              go_ret
              exact ⟨congrArg (fun z => Ending.returned (Value.bool z)) (show false = validF k c by unfold validF; (simp only [E0.out, E1.out, E2.out, E3.out, E4.out, E5.out, Bool.true_and] <;> rfl)), KM3.out⟩
          · have E4 := Lib.hid (decide_eq_false c4)
            clear c4
            go_upto_region 2 with (fail)
            generalize ha0 : Act.mk _ _ = a0
            have oe2 : a0.eval (.tmp 2) = .pointer (some ⟨w.heap.size, 0, none⟩) := by rw [← ha0]; rfl
            have oe3 : a0.eval (.tmp 3) = .pointer (some ⟨w.heap.size + 1, 0, none⟩) := by rw [← ha0]; rfl
            have oe5 : a0.eval (.tmp 5) = .pointer (some ⟨q0, 0, none⟩) := by rw [← ha0]; rfl
            have hsz0 : a0.tmps.size = 38 := by rw [← ha0]; rfl
            have HA0 := Lib.hid ha0
            clear ha0
            refine wp_region_G 38 hsz0 (by kernel_rfl) (by kernel_rfl) [8, 9, 10, 11, 12, 13, 14, 15, 16, 17, 18, 19, 20, 21, 22, 23, 24, 25, 26, 27, 28, 29, 30, 31, 32, 33, 34, 35, 36, 37, 4] (by kernel_rfl) (by decide) (fun _ => False) (fun _ _ => False) (fun _ _ h => h) Still (fun _ _ _ h => h) (fun _ _ _ hm h => hm.trans h (fun _ _ h => h.elim)) [gi (.pointer (some ⟨q0, 0, none⟩)), gi (.int .i64 c.cl), gi (.bool true), gi (.bool true), gi (.pointer (some ⟨q0, 0, none⟩)), gi (.int .i64 c.cl), gi (.pointer (some ⟨w.heap.size, 1, none⟩)), gi (.int .i64 k), gi (.bool true), gi (.bool true), gi (.bool true), gi (.pointer (some ⟨q0, 1, none⟩)), gi (.int .i64 c.sq), gi (.bool true), gi (.bool true), gi (.bool true), gi (.pointer (some ⟨q0, 1, none⟩)), gi (.int .i64 c.sq), gi (.bool true), gi (.bool true), gi (.bool true), gi (.pointer (some ⟨w.heap.size + 1, 34, none⟩)), gi (.int .i64 c.ln), gi (.bool false), gi (.bool false), gi (.bool false), gi (undef), gi (undef), gi (undef), gi (.bool false), gi (.bool false)] ⟨gi_stable, gi_stable, gi_stable, gi_stable, gi_stable, gi_stable, gi_stable, gi_stable, gi_stable, gi_stable, gi_stable, gi_stable, gi_stable, gi_stable, gi_stable, gi_stable, gi_stable, gi_stable, gi_stable, gi_stable, gi_stable, gi_stable, gi_stable, gi_stable, gi_stable, gi_stable, gi_stable, gi_stable, gi_stable, gi_stable, gi_stable, trivial⟩ [] (by kernel_rfl) (by decide) (by kernel_rfl) (fun _ _ => True) (fun _ _ _ _ _ => trivial) trivial ⟨?_, ?_, ?_, ?_, ?_, ?_, ?_, ?_, ?_, ?_, ?_, ?_, ?_, ?_, ?_, ?_, ?_, ?_, ?_, ?_, ?_, ?_, ?_, ?_, ?_, ?_, ?_, ?_, ?_, ?_, ?_, trivial⟩ ?_
            · intro tr act w' hm hout hsz hd hG hk hub
              refine jg_run (by rfl) rfl (wanted_none rfl) (ex_field rfl Try.underlying26 rfl (by kernel_rfl) ((hout 5 (by decide)).trans oe5)) (Mod.refl _ _) ?_
              rfl
            · intro tr act w' hm hout hsz hd hG hk hub
              have h0 := hd ⟨0, .data⟩ (by simp) rfl _ rfl
              exact jg_run (by rfl) rfl (wanted_none rfl) (ex_load1 rfl Try.underlying3 rfl h0 (by rw [(KQ.out.mod hm (fun h => h)).cell]; rfl)) (Mod.refl _ _) rfl
            · intro tr act w' hm hout hsz hd hG hk hub
              have h1 := hd ⟨1, .data⟩ (by simp) rfl _ rfl
              refine jg_run (by rfl) rfl (wanted_none rfl) (ex_bin rfl h1 rfl (guard_ints _ _ _ _ _ _) (run_geq_i _ _ _ Try.underlying3)) (Mod.refl _ _) ?_
              exact congrArg Value.bool E0.out
            · intro tr act w' hm hout hsz hd hG hk hub
              have h2 := hd ⟨2, .data⟩ (by simp) rfl _ rfl
              exact jg_run (by rfl) rfl (wanted_none rfl) (ex_move rfl h2) (Mod.refl _ _) rfl
            · intro tr act w' hm hout hsz hd hG hk hub
              have h3 := hd ⟨3, .guard⟩ (by simp) rfl _ rfl
              refine jg_run (by rfl) rfl ((wanted_of rfl rfl (hsz 11 (by decide)) h3).trans rfl) (ex_field rfl Try.underlying26 rfl (by kernel_rfl) ((hout 5 (by decide)).trans oe5)) (Mod.refl _ _) ?_
              rfl
            · intro tr act w' hm hout hsz hd hG hk hub
              have h3 := hd ⟨3, .guard⟩ (by simp) rfl _ rfl
              have h4 := hd ⟨4, .data⟩ (by simp) rfl _ rfl
              exact jg_run (by rfl) rfl ((wanted_of rfl rfl (hsz 11 (by decide)) h3).trans rfl) (ex_load1 rfl Try.underlying3 rfl h4 (by rw [(KQ.out.mod hm (fun h => h)).cell]; rfl)) (Mod.refl _ _) rfl
            · intro tr act w' hm hout hsz hd hG hk hub
              have h3 := hd ⟨3, .guard⟩ (by simp) rfl _ rfl
              refine jg_run (by rfl) rfl ((wanted_of rfl rfl (hsz 11 (by decide)) h3).trans rfl) (ex_field rfl Try.underlying24 rfl (by kernel_rfl) ((hout 2 (by decide)).trans oe2)) (Mod.refl _ _) ?_
              rfl
            · intro tr act w' hm hout hsz hd hG hk hub
              have h3 := hd ⟨3, .guard⟩ (by simp) rfl _ rfl
              have h6 := hd ⟨6, .data⟩ (by simp) rfl _ rfl
              exact jg_run (by rfl) rfl ((wanted_of rfl rfl (hsz 11 (by decide)) h3).trans rfl) (ex_load1 rfl Try.underlying3 rfl h6 (by rw [(KF2.out.mod hm (fun h => h)).cell]; rfl)) (Mod.refl _ _) rfl
            · intro tr act w' hm hout hsz hd hG hk hub
              have h3 := hd ⟨3, .guard⟩ (by simp) rfl _ rfl
              have h5 := hd ⟨5, .data⟩ (by simp) rfl _ rfl
              have h7 := hd ⟨7, .data⟩ (by simp) rfl _ rfl
              refine jg_run (by rfl) rfl ((wanted_of rfl rfl (hsz 11 (by decide)) h3).trans rfl) (ex_bin rfl h5 h7 (guard_ints _ _ _ _ _ _) (run_lss_i _ _ _ Try.underlying3)) (Mod.refl _ _) ?_
              exact congrArg Value.bool E1.out
            · intro tr act w' hm hout hsz hd hG hk hub
              have h3 := hd ⟨3, .data⟩ (by simp) rfl _ rfl
              have h8 := hd ⟨8, .data⟩ (by simp) rfl _ rfl
              exact jg_run (by rfl) rfl (wanted_none rfl) (ex_pick rfl h3 h8 rfl) (Mod.refl _ _) rfl
            · intro tr act w' hm hout hsz hd hG hk hub
              have h9 := hd ⟨9, .data⟩ (by simp) rfl _ rfl
              exact jg_run (by rfl) rfl (wanted_none rfl) (ex_move rfl h9) (Mod.refl _ _) rfl
            · intro tr act w' hm hout hsz hd hG hk hub
              have h10 := hd ⟨10, .guard⟩ (by simp) rfl _ rfl
              refine jg_run (by rfl) rfl ((wanted_of rfl rfl (hsz 18 (by decide)) h10).trans rfl) (ex_field rfl Try.underlying26 rfl (by kernel_rfl) ((hout 5 (by decide)).trans oe5)) (Mod.refl _ _) ?_
              rfl
            · intro tr act w' hm hout hsz hd hG hk hub
              have h10 := hd ⟨10, .guard⟩ (by simp) rfl _ rfl
              have h11 := hd ⟨11, .data⟩ (by simp) rfl _ rfl
              exact jg_run (by rfl) rfl ((wanted_of rfl rfl (hsz 18 (by decide)) h10).trans rfl) (ex_load1 rfl Try.underlying3 rfl h11 (by rw [(KQ.out.mod hm (fun h => h)).cell]; rfl)) (Mod.refl _ _) rfl
            · intro tr act w' hm hout hsz hd hG hk hub
              have h10 := hd ⟨10, .guard⟩ (by simp) rfl _ rfl
              have h12 := hd ⟨12, .data⟩ (by simp) rfl _ rfl
              refine jg_run (by rfl) rfl ((wanted_of rfl rfl (hsz 18 (by decide)) h10).trans rfl) (ex_bin rfl h12 rfl (guard_ints _ _ _ _ _ _) (run_geq_i _ _ _ Try.underlying3)) (Mod.refl _ _) ?_
              exact congrArg Value.bool E2.out
            · intro tr act w' hm hout hsz hd hG hk hub
              have h10 := hd ⟨10, .data⟩ (by simp) rfl _ rfl
              have h13 := hd ⟨13, .data⟩ (by simp) rfl _ rfl
              exact jg_run (by rfl) rfl (wanted_none rfl) (ex_pick rfl h10 h13 rfl) (Mod.refl _ _) rfl
            · intro tr act w' hm hout hsz hd hG hk hub
              have h14 := hd ⟨14, .data⟩ (by simp) rfl _ rfl
              exact jg_run (by rfl) rfl (wanted_none rfl) (ex_move rfl h14) (Mod.refl _ _) rfl
            · intro tr act w' hm hout hsz hd hG hk hub
              have h15 := hd ⟨15, .guard⟩ (by simp) rfl _ rfl
              refine jg_run (by rfl) rfl ((wanted_of rfl rfl (hsz 23 (by decide)) h15).trans rfl) (ex_field rfl Try.underlying26 rfl (by kernel_rfl) ((hout 5 (by decide)).trans oe5)) (Mod.refl _ _) ?_
              rfl
            · intro tr act w' hm hout hsz hd hG hk hub
              have h15 := hd ⟨15, .guard⟩ (by simp) rfl _ rfl
              have h16 := hd ⟨16, .data⟩ (by simp) rfl _ rfl
              exact jg_run (by rfl) rfl ((wanted_of rfl rfl (hsz 23 (by decide)) h15).trans rfl) (ex_load1 rfl Try.underlying3 rfl h16 (by rw [(KQ.out.mod hm (fun h => h)).cell]; rfl)) (Mod.refl _ _) rfl
            · intro tr act w' hm hout hsz hd hG hk hub
              have h15 := hd ⟨15, .guard⟩ (by simp) rfl _ rfl
              have h17 := hd ⟨17, .data⟩ (by simp) rfl _ rfl
              refine jg_run (by rfl) rfl ((wanted_of rfl rfl (hsz 23 (by decide)) h15).trans rfl) (ex_bin rfl h17 rfl (guard_ints _ _ _ _ _ _) (run_leq_i _ _ _ Try.underlying3)) (Mod.refl _ _) ?_
              exact congrArg Value.bool E3.out
            · intro tr act w' hm hout hsz hd hG hk hub
              have h15 := hd ⟨15, .data⟩ (by simp) rfl _ rfl
              have h18 := hd ⟨18, .data⟩ (by simp) rfl _ rfl
              exact jg_run (by rfl) rfl (wanted_none rfl) (ex_pick rfl h15 h18 rfl) (Mod.refl _ _) rfl
            · intro tr act w' hm hout hsz hd hG hk hub
              have h19 := hd ⟨19, .data⟩ (by simp) rfl _ rfl
              exact jg_run (by rfl) rfl (wanted_none rfl) (ex_move rfl h19) (Mod.refl _ _) rfl
            · intro tr act w' hm hout hsz hd hG hk hub
              have h20 := hd ⟨20, .guard⟩ (by simp) rfl _ rfl
              refine jg_run (by rfl) rfl ((wanted_of rfl rfl (hsz 28 (by decide)) h20).trans rfl) (ex_field rfl Try.underlying32 rfl (by kernel_rfl) ((hout 3 (by decide)).trans oe3)) (Mod.refl _ _) ?_
              rfl
            · intro tr act w' hm hout hsz hd hG hk hub
              have h20 := hd ⟨20, .guard⟩ (by simp) rfl _ rfl
              have h21 := hd ⟨21, .data⟩ (by simp) rfl _ rfl
              exact jg_run (by rfl) rfl ((wanted_of rfl rfl (hsz 28 (by decide)) h20).trans rfl) (ex_load1 rfl Try.underlying3 rfl h21 ((KX2.out.mod hm (fun h => h)).c34 HL.out)) (Mod.refl _ _) rfl
            · intro tr act w' hm hout hsz hd hG hk hub
              have h20 := hd ⟨20, .guard⟩ (by simp) rfl _ rfl
              have h22 := hd ⟨22, .data⟩ (by simp) rfl _ rfl
              refine jg_run (by rfl) rfl ((wanted_of rfl rfl (hsz 28 (by decide)) h20).trans rfl) (ex_bin rfl h22 rfl (guard_ints _ _ _ _ _ _) (run_geq_i _ _ _ Try.underlying3)) (Mod.refl _ _) ?_
              exact congrArg Value.bool E4.out
            · intro tr act w' hm hout hsz hd hG hk hub
              have h20 := hd ⟨20, .data⟩ (by simp) rfl _ rfl
              have h23 := hd ⟨23, .data⟩ (by simp) rfl _ rfl
              exact jg_run (by rfl) rfl (wanted_none rfl) (ex_pick rfl h20 h23 rfl) (Mod.refl _ _) rfl
            · intro tr act w' hm hout hsz hd hG hk hub
              have h24 := hd ⟨24, .data⟩ (by simp) rfl _ rfl
              exact jg_run (by rfl) rfl (wanted_none rfl) (ex_move rfl h24) (Mod.refl _ _) rfl
            · intro tr act w' hm hout hsz hd hG hk hub
              have h25 := hd ⟨25, .guard⟩ (by simp) rfl _ rfl
              exact jg_skip (fun _ _ _ h => h) (by rfl) rfl ((wanted_of rfl rfl (hsz 33 (by decide)) h25).trans rfl) rfl
            · intro tr act w' hm hout hsz hd hG hk hub
              have h25 := hd ⟨25, .guard⟩ (by simp) rfl _ rfl
              exact jg_skip (fun _ _ _ h => h) (by rfl) rfl ((wanted_of rfl rfl (hsz 33 (by decide)) h25).trans rfl) rfl
            · intro tr act w' hm hout hsz hd hG hk hub
              have h25 := hd ⟨25, .guard⟩ (by simp) rfl _ rfl
              exact jg_skip (fun _ _ _ h => h) (by rfl) rfl ((wanted_of rfl rfl (hsz 33 (by decide)) h25).trans rfl) rfl
            · intro tr act w' hm hout hsz hd hG hk hub
              have h25 := hd ⟨25, .data⟩ (by simp) rfl _ rfl
              have h28 := hd ⟨28, .data⟩ (by simp) rfl _ rfl
              exact jg_run (by rfl) rfl (wanted_none rfl) (ex_pick rfl h25 h28 rfl) (Mod.refl _ _) rfl
            · intro tr act w' hm hout hsz hd hG hk hub
              have h29 := hd ⟨29, .data⟩ (by simp) rfl _ rfl
              exact jg_run (by rfl) rfl (wanted_none rfl) (ex_assign rfl h29) (Mod.refl _ _) rfl
            intro vs tr w3 hl htl hm hG hV
            obtain ⟨v0, vs0, rfl, hl0⟩ := list_cons hl
            obtain ⟨v1, vs1, rfl, hl1⟩ := list_cons hl0
            obtain ⟨v2, vs2, rfl, hl2⟩ := list_cons hl1
            obtain ⟨v3, vs3, rfl, hl3⟩ := list_cons hl2
            obtain ⟨v4, vs4, rfl, hl4⟩ := list_cons hl3
            obtain ⟨v5, vs5, rfl, hl5⟩ := list_cons hl4
            obtain ⟨v6, vs6, rfl, hl6⟩ := list_cons hl5
            obtain ⟨v7, vs7, rfl, hl7⟩ := list_cons hl6
            obtain ⟨v8, vs8, rfl, hl8⟩ := list_cons hl7
            obtain ⟨v9, vs9, rfl, hl9⟩ := list_cons hl8
            obtain ⟨v10, vs10, rfl, hl10⟩ := list_cons hl9
            obtain ⟨v11, vs11, rfl, hl11⟩ := list_cons hl10
            obtain ⟨v12, vs12, rfl, hl12⟩ := list_cons hl11
            obtain ⟨v13, vs13, rfl, hl13⟩ := list_cons hl12
            obtain ⟨v14, vs14, rfl, hl14⟩ := list_cons hl13
            obtain ⟨v15, vs15, rfl, hl15⟩ := list_cons hl14
            obtain ⟨v16, vs16, rfl, hl16⟩ := list_cons hl15
            obtain ⟨v17, vs17, rfl, hl17⟩ := list_cons hl16
            obtain ⟨v18, vs18, rfl, hl18⟩ := list_cons hl17
            obtain ⟨v19, vs19, rfl, hl19⟩ := list_cons hl18
            obtain ⟨v20, vs20, rfl, hl20⟩ := list_cons hl19
            obtain ⟨v21, vs21, rfl, hl21⟩ := list_cons hl20
            obtain ⟨v22, vs22, rfl, hl22⟩ := list_cons hl21
            obtain ⟨v23, vs23, rfl, hl23⟩ := list_cons hl22
            obtain ⟨v24, vs24, rfl, hl24⟩ := list_cons hl23
            obtain ⟨v25, vs25, rfl, hl25⟩ := list_cons hl24
            obtain ⟨v26, vs26, rfl, hl26⟩ := list_cons hl25
            obtain ⟨v27, vs27, rfl, hl27⟩ := list_cons hl26
            obtain ⟨v28, vs28, rfl, hl28⟩ := list_cons hl27
            obtain ⟨v29, vs29, rfl, hl29⟩ := list_cons hl28
            obtain ⟨v30, vs30, rfl, hl30⟩ := list_cons hl29
            obtain rfl := list_nil hl30
            clear hl hl0 hl1 hl2 hl3 hl4 hl5 hl6 hl7 hl8 hl9 hl10 hl11 hl12 hl13 hl14 hl15 hl16 hl17 hl18 hl19 hl20 hl21 hl22 hl23 hl24 hl25 hl26 hl27 hl28 hl29 hl30
            obtain rfl : v30 = .bool false := hV 30 _ rfl
            have ha0 := HA0.out
            subst ha0
            clear HA0 hV hsz0 oe2 oe3 oe5
            simp only [putAll, Act.put, List.setIfInBounds_toArray, List.set_cons_zero, List.set_cons_succ]
            have KM3 := Lib.hid (KM2.out.trans hm (fun _ _ h => h))
            clear hm hG
            go_wp2
            go_ret
            exact ⟨congrArg (fun z => Ending.returned (Value.bool z)) (show false = validF k c by unfold validF; (simp only [E0.out, E1.out, E2.out, E3.out, E4.out, Bool.false_and, Bool.true_and] <;> rfl)), KM3.out⟩
        · have E3 := Lib.hid (decide_eq_false c3)
          clear c3
          go_upto_region 2 with (fail)
          generalize ha0 : Act.mk _ _ = a0
          have oe2 : a0.eval (.tmp 2) = .pointer (some ⟨w.heap.size, 0, none⟩) := by rw [← ha0]; rfl
          have oe3 : a0.eval (.tmp 3) = .pointer (some ⟨w.heap.size + 1, 0, none⟩) := by rw [← ha0]; rfl
          have oe5 : a0.eval (.tmp 5) = .pointer (some ⟨q0, 0, none⟩) := by rw [← ha0]; rfl
          have hsz0 : a0.tmps.size = 38 := by rw [← ha0]; rfl
          have HA0 := Lib.hid ha0
          clear ha0
          refine wp_region_G 38 hsz0 (by kernel_rfl) (by kernel_rfl) [8, 9, 10, 11, 12, 13, 14, 15, 16, 17, 18, 19, 20, 21, 22, 23, 24, 25, 26, 27, 28, 29, 30, 31, 32, 33, 34, 35, 36, 37, 4] (by kernel_rfl) (by decide) (fun _ => False) (fun _ _ => False) (fun _ _ h => h) Still (fun _ _ _ h => h) (fun _ _ _ hm h => hm.trans h (fun _ _ h => h.elim)) [gi (.pointer (some ⟨q0, 0, none⟩)), gi (.int .i64 c.cl), gi (.bool true), gi (.bool true), gi (.pointer (some ⟨q0, 0, none⟩)), gi (.int .i64 c.cl), gi (.pointer (some ⟨w.heap.size, 1, none⟩)), gi (.int .i64 k), gi (.bool true), gi (.bool true), gi (.bool true), gi (.pointer (some ⟨q0, 1, none⟩)), gi (.int .i64 c.sq), gi (.bool true), gi (.bool true), gi (.bool true), gi (.pointer (some ⟨q0, 1, none⟩)), gi (.int .i64 c.sq), gi (.bool false), gi (.bool false), gi (.bool false), gi (undef), gi (undef), gi (undef), gi (.bool false), gi (.bool false), gi (undef), gi (undef), gi (undef), gi (.bool false), gi (.bool false)] ⟨gi_stable, gi_stable, gi_stable, gi_stable, gi_stable, gi_stable, gi_stable, gi_stable, gi_stable, gi_stable, gi_stable, gi_stable, gi_stable, gi_stable, gi_stable, gi_stable, gi_stable, gi_stable, gi_stable, gi_stable, gi_stable, gi_stable, gi_stable, gi_stable, gi_stable, gi_stable, gi_stable, gi_stable, gi_stable, gi_stable, gi_stable, trivial⟩ [] (by kernel_rfl) (by decide) (by kernel_rfl) (fun _ _ => True) (fun _ _ _ _ _ => trivial) trivial ⟨?_, ?_, ?_, ?_, ?_, ?_, ?_, ?_, ?_, ?_, ?_, ?_, ?_, ?_, ?_, ?_, ?_, ?_, ?_, ?_, ?_, ?_, ?_, ?_, ?_, ?_, ?_, ?_, ?_, ?_, ?_, trivial⟩ ?_
          · intro tr act w' hm hout hsz hd hG hk hub
            refine jg_run (by rfl) rfl (wanted_none rfl) (ex_field rfl Try.underlying26 rfl (by kernel_rfl) ((hout 5 (by decide)).trans oe5)) (Mod.refl _ _) ?_
            rfl
          · intro tr act w' hm hout hsz hd hG hk hub
            have h0 := hd ⟨0, .data⟩ (by simp) rfl _ rfl
            exact jg_run (by rfl) rfl (wanted_none rfl) (ex_load1 rfl Try.underlying3 rfl h0 (by rw [(KQ.out.mod hm (fun h => h)).cell]; rfl)) (Mod.refl _ _) rfl
          · intro tr act w' hm hout hsz hd hG hk hub
            have h1 := hd ⟨1, .data⟩ (by simp) rfl _ rfl
            refine jg_run (by rfl) rfl (wanted_none rfl) (ex_bin rfl h1 rfl (guard_ints _ _ _ _ _ _) (run_geq_i _ _ _ Try.underlying3)) (Mod.refl _ _) ?_
            exact congrArg Value.bool E0.out
          · intro tr act w' hm hout hsz hd hG hk hub
            have h2 := hd ⟨2, .data⟩ (by simp) rfl _ rfl
            exact jg_run (by rfl) rfl (wanted_none rfl) (ex_move rfl h2) (Mod.refl _ _) rfl
          · intro tr act w' hm hout hsz hd hG hk hub
            have h3 := hd ⟨3, .guard⟩ (by simp) rfl _ rfl
            refine jg_run (by rfl) rfl ((wanted_of rfl rfl (hsz 11 (by decide)) h3).trans rfl) (ex_field rfl Try.underlying26 rfl (by kernel_rfl) ((hout 5 (by decide)).trans oe5)) (Mod.refl _ _) ?_
            rfl
          · intro tr act w' hm hout hsz hd hG hk hub
            have h3 := hd ⟨3, .guard⟩ (by simp) rfl _ rfl
            have h4 := hd ⟨4, .data⟩ (by simp) rfl _ rfl
            exact jg_run (by rfl) rfl ((wanted_of rfl rfl (hsz 11 (by decide)) h3).trans rfl) (ex_load1 rfl Try.underlying3 rfl h4 (by rw [(KQ.out.mod hm (fun h => h)).cell]; rfl)) (Mod.refl _ _) rfl
          · intro tr act w' hm hout hsz hd hG hk hub
            have h3 := hd ⟨3, .guard⟩ (by simp) rfl _ rfl
            refine jg_run (by rfl) rfl ((wanted_of rfl rfl (hsz 11 (by decide)) h3).trans rfl) (ex_field rfl Try.underlying24 rfl (by kernel_rfl) ((hout 2 (by decide)).trans oe2)) (Mod.refl _ _) ?_
            rfl
          · intro tr act w' hm hout hsz hd hG hk hub
            have h3 := hd ⟨3, .guard⟩ (by simp) rfl _ rfl
            have h6 := hd ⟨6, .data⟩ (by simp) rfl _ rfl
            exact jg_run (by rfl) rfl ((wanted_of rfl rfl (hsz 11 (by decide)) h3).trans rfl) (ex_load1 rfl Try.underlying3 rfl h6 (by rw [(KF2.out.mod hm (fun h => h)).cell]; rfl)) (Mod.refl _ _) rfl
          · intro tr act w' hm hout hsz hd hG hk hub
            have h3 := hd ⟨3, .guard⟩ (by simp) rfl _ rfl
            have h5 := hd ⟨5, .data⟩ (by simp) rfl _ rfl
            have h7 := hd ⟨7, .data⟩ (by simp) rfl _ rfl
            refine jg_run (by rfl) rfl ((wanted_of rfl rfl (hsz 11 (by decide)) h3).trans rfl) (ex_bin rfl h5 h7 (guard_ints _ _ _ _ _ _) (run_lss_i _ _ _ Try.underlying3)) (Mod.refl _ _) ?_
            exact congrArg Value.bool E1.out
          · intro tr act w' hm hout hsz hd hG hk hub
            have h3 := hd ⟨3, .data⟩ (by simp) rfl _ rfl
            have h8 := hd ⟨8, .data⟩ (by simp) rfl _ rfl
            exact jg_run (by rfl) rfl (wanted_none rfl) (ex_pick rfl h3 h8 rfl) (Mod.refl _ _) rfl
          · intro tr act w' hm hout hsz hd hG hk hub
            have h9 := hd ⟨9, .data⟩ (by simp) rfl _ rfl
            exact jg_run (by rfl) rfl (wanted_none rfl) (ex_move rfl h9) (Mod.refl _ _) rfl
          · intro tr act w' hm hout hsz hd hG hk hub
            have h10 := hd ⟨10, .guard⟩ (by simp) rfl _ rfl
            refine jg_run (by rfl) rfl ((wanted_of rfl rfl (hsz 18 (by decide)) h10).trans rfl) (ex_field rfl Try.underlying26 rfl (by kernel_rfl) ((hout 5 (by decide)).trans oe5)) (Mod.refl _ _) ?_
            rfl
          · intro tr act w' hm hout hsz hd hG hk hub
            have h10 := hd ⟨10, .guard⟩ (by simp) rfl _ rfl
            have h11 := hd ⟨11, .data⟩ (by simp) rfl _ rfl
            exact jg_run (by rfl) rfl ((wanted_of rfl rfl (hsz 18 (by decide)) h10).trans rfl) (ex_load1 rfl Try.underlying3 rfl h11 (by rw [(KQ.out.mod hm (fun h => h)).cell]; rfl)) (Mod.refl _ _) rfl
          · intro tr act w' hm hout hsz hd hG hk hub
            have h10 := hd ⟨10, .guard⟩ (by simp) rfl _ rfl
            have h12 := hd ⟨12, .data⟩ (by simp) rfl _ rfl
            refine jg_run (by rfl) rfl ((wanted_of rfl rfl (hsz 18 (by decide)) h10).trans rfl) (ex_bin rfl h12 rfl (guard_ints _ _ _ _ _ _) (run_geq_i _ _ _ Try.underlying3)) (Mod.refl _ _) ?_
            exact congrArg Value.bool E2.out
          · intro tr act w' hm hout hsz hd hG hk hub
            have h10 := hd ⟨10, .data⟩ (by simp) rfl _ rfl
            have h13 := hd ⟨13, .data⟩ (by simp) rfl _ rfl
            exact jg_run (by rfl) rfl (wanted_none rfl) (ex_pick rfl h10 h13 rfl) (Mod.refl _ _) rfl
          · intro tr act w' hm hout hsz hd hG hk hub
            have h14 := hd ⟨14, .data⟩ (by simp) rfl _ rfl
            exact jg_run (by rfl) rfl (wanted_none rfl) (ex_move rfl h14) (Mod.refl _ _) rfl
          · intro tr act w' hm hout hsz hd hG hk hub
            have h15 := hd ⟨15, .guard⟩ (by simp) rfl _ rfl
            refine jg_run (by rfl) rfl ((wanted_of rfl rfl (hsz 23 (by decide)) h15).trans rfl) (ex_field rfl Try.underlying26 rfl (by kernel_rfl) ((hout 5 (by decide)).trans oe5)) (Mod.refl _ _) ?_
            rfl
          · intro tr act w' hm hout hsz hd hG hk hub
            have h15 := hd ⟨15, .guard⟩ (by simp) rfl _ rfl
            have h16 := hd ⟨16, .data⟩ (by simp) rfl _ rfl
            exact jg_run (by rfl) rfl ((wanted_of rfl rfl (hsz 23 (by decide)) h15).trans rfl) (ex_load1 rfl Try.underlying3 rfl h16 (by rw [(KQ.out.mod hm (fun h => h)).cell]; rfl)) (Mod.refl _ _) rfl
          · intro tr act w' hm hout hsz hd hG hk hub
            have h15 := hd ⟨15, .guard⟩ (by simp) rfl _ rfl
            have h17 := hd ⟨17, .data⟩ (by simp) rfl _ rfl
            refine jg_run (by rfl) rfl ((wanted_of rfl rfl (hsz 23 (by decide)) h15).trans rfl) (ex_bin rfl h17 rfl (guard_ints _ _ _ _ _ _) (run_leq_i _ _ _ Try.underlying3)) (Mod.refl _ _) ?_
            exact congrArg Value.bool E3.out
          · intro tr act w' hm hout hsz hd hG hk hub
            have h15 := hd ⟨15, .data⟩ (by simp) rfl _ rfl
            have h18 := hd ⟨18, .data⟩ (by simp) rfl _ rfl
            exact jg_run (by rfl) rfl (wanted_none rfl) (ex_pick rfl h15 h18 rfl) (Mod.refl _ _) rfl
          · intro tr act w' hm hout hsz hd hG hk hub
            have h19 := hd ⟨19, .data⟩ (by simp) rfl _ rfl
            exact jg_run (by rfl) rfl (wanted_none rfl) (ex_move rfl h19) (Mod.refl _ _) rfl
          · intro tr act w' hm hout hsz hd hG hk hub
            have h20 := hd ⟨20, .guard⟩ (by simp) rfl _ rfl
            exact jg_skip (fun _ _ _ h => h) (by rfl) rfl ((wanted_of rfl rfl (hsz 28 (by decide)) h20).trans rfl) rfl
          · intro tr act w' hm hout hsz hd hG hk hub
            have h20 := hd ⟨20, .guard⟩ (by simp) rfl _ rfl
            exact jg_skip (fun _ _ _ h => h) (by rfl) rfl ((wanted_of rfl rfl (hsz 28 (by decide)) h20).trans rfl) rfl
          · intro tr act w' hm hout hsz hd hG hk hub
            have h20 := hd ⟨20, .guard⟩ (by simp) rfl _ rfl
            exact jg_skip (fun _ _ _ h => h) (by rfl) rfl ((wanted_of rfl rfl (hsz 28 (by decide)) h20).trans rfl) rfl
          · intro tr act w' hm hout hsz hd hG hk hub
            have h20 := hd ⟨20, .data⟩ (by simp) rfl _ rfl
            have h23 := hd ⟨23, .data⟩ (by simp) rfl _ rfl
            exact jg_run (by rfl) rfl (wanted_none rfl) (ex_pick rfl h20 h23 rfl) (Mod.refl _ _) rfl
          · intro tr act w' hm hout hsz hd hG hk hub
            have h24 := hd ⟨24, .data⟩ (by simp) rfl _ rfl
            exact jg_run (by rfl) rfl (wanted_none rfl) (ex_move rfl h24) (Mod.refl _ _) rfl
          · intro tr act w' hm hout hsz hd hG hk hub
            have h25 := hd ⟨25, .guard⟩ (by simp) rfl _ rfl
            exact jg_skip (fun _ _ _ h => h) (by rfl) rfl ((wanted_of rfl rfl (hsz 33 (by decide)) h25).trans rfl) rfl
          · intro tr act w' hm hout hsz hd hG hk hub
            have h25 := hd ⟨25, .guard⟩ (by simp) rfl _ rfl
            exact jg_skip (fun _ _ _ h => h) (by rfl) rfl ((wanted_of rfl rfl (hsz 33 (by decide)) h25).trans rfl) rfl
          · intro tr act w' hm hout hsz hd hG hk hub
            have h25 := hd ⟨25, .guard⟩ (by simp) rfl _ rfl
            exact jg_skip (fun _ _ _ h => h) (by rfl) rfl ((wanted_of rfl rfl (hsz 33 (by decide)) h25).trans rfl) rfl
          · intro tr act w' hm hout hsz hd hG hk hub
            have h25 := hd ⟨25, .data⟩ (by simp) rfl _ rfl
            have h28 := hd ⟨28, .data⟩ (by simp) rfl _ rfl
            exact jg_run (by rfl) rfl (wanted_none rfl) (ex_pick rfl h25 h28 rfl) (Mod.refl _ _) rfl
          · intro tr act w' hm hout hsz hd hG hk hub
            have h29 := hd ⟨29, .data⟩ (by simp) rfl _ rfl
            exact jg_run (by rfl) rfl (wanted_none rfl) (ex_assign rfl h29) (Mod.refl _ _) rfl
          intro vs tr w3 hl htl hm hG hV
          obtain ⟨v0, vs0, rfl, hl0⟩ := list_cons hl
          obtain ⟨v1, vs1, rfl, hl1⟩ := list_cons hl0
          obtain ⟨v2, vs2, rfl, hl2⟩ := list_cons hl1
          obtain ⟨v3, vs3, rfl, hl3⟩ := list_cons hl2
          obtain ⟨v4, vs4, rfl, hl4⟩ := list_cons hl3
          obtain ⟨v5, vs5, rfl, hl5⟩ := list_cons hl4
          obtain ⟨v6, vs6, rfl, hl6⟩ := list_cons hl5
          obtain ⟨v7, vs7, rfl, hl7⟩ := list_cons hl6
          obtain ⟨v8, vs8, rfl, hl8⟩ := list_cons hl7
          obtain ⟨v9, vs9, rfl, hl9⟩ := list_cons hl8
          obtain ⟨v10, vs10, rfl, hl10⟩ := list_cons hl9
          obtain ⟨v11, vs11, rfl, hl11⟩ := list_cons hl10
          obtain ⟨v12, vs12, rfl, hl12⟩ := list_cons hl11
          obtain ⟨v13, vs13, rfl, hl13⟩ := list_cons hl12
          obtain ⟨v14, vs14, rfl, hl14⟩ := list_cons hl13
          obtain ⟨v15, vs15, rfl, hl15⟩ := list_cons hl14
          obtain ⟨v16, vs16, rfl, hl16⟩ := list_cons hl15
          obtain ⟨v17, vs17, rfl, hl17⟩ := list_cons hl16
          obtain ⟨v18, vs18, rfl, hl18⟩ := list_cons hl17
          obtain ⟨v19, vs19, rfl, hl19⟩ := list_cons hl18
          obtain ⟨v20, vs20, rfl, hl20⟩ := list_cons hl19
          obtain ⟨v21, vs21, rfl, hl21⟩ := list_cons hl20
          obtain ⟨v22, vs22, rfl, hl22⟩ := list_cons hl21
          obtain ⟨v23, vs23, rfl, hl23⟩ := list_cons hl22
          obtain ⟨v24, vs24, rfl, hl24⟩ := list_cons hl23
          obtain ⟨v25, vs25, rfl, hl25⟩ := list_cons hl24
          obtain ⟨v26, vs26, rfl, hl26⟩ := list_cons hl25
          obtain ⟨v27, vs27, rfl, hl27⟩ := list_cons hl26
          obtain ⟨v28, vs28, rfl, hl28⟩ := list_cons hl27
          obtain ⟨v29, vs29, rfl, hl29⟩ := list_cons hl28
          obtain ⟨v30, vs30, rfl, hl30⟩ := list_cons hl29
          obtain rfl := list_nil hl30
          clear hl hl0 hl1 hl2 hl3 hl4 hl5 hl6 hl7 hl8 hl9 hl10 hl11 hl12 hl13 hl14 hl15 hl16 hl17 hl18 hl19 hl20 hl21 hl22 hl23 hl24 hl25 hl26 hl27 hl28 hl29 hl30
          obtain rfl : v30 = .bool false := hV 30 _ rfl
          have ha0 := HA0.out
          subst ha0
          clear HA0 hV hsz0 oe2 oe3 oe5
          simp only [putAll, Act.put, List.setIfInBounds_toArray, List.set_cons_zero, List.set_cons_succ]
          have KM3 := Lib.hid (KM2.out.trans hm (fun _ _ h => h))
          clear hm hG
          go_wp2
          go_ret
          exact ⟨congrArg (fun z => Ending.returned (Value.bool z)) (show false = validF k c by unfold validF; (simp only [E0.out, E1.out, E2.out, E3.out, Bool.false_and, Bool.true_and] <;> rfl)), KM3.out⟩
      · have E2 := Lib.hid (decide_eq_false c2)
        clear c2
        go_upto_region 2 with (fail)
        generalize ha0 : Act.mk _ _ = a0
        have oe2 : a0.eval (.tmp 2) = .pointer (some ⟨w.heap.size, 0, none⟩) := by rw [← ha0]; rfl
        have oe3 : a0.eval (.tmp 3) = .pointer (some ⟨w.heap.size + 1, 0, none⟩) := by rw [← ha0]; rfl
        have oe5 : a0.eval (.tmp 5) = .pointer (some ⟨q0, 0, none⟩) := by rw [← ha0]; rfl
        have hsz0 : a0.tmps.size = 38 := by rw [← ha0]; rfl
        have HA0 := Lib.hid ha0
        clear ha0
        refine wp_region_G 38 hsz0 (by kernel_rfl) (by kernel_rfl) [8, 9, 10, 11, 12, 13, 14, 15, 16, 17, 18, 19, 20, 21, 22, 23, 24, 25, 26, 27, 28, 29, 30, 31, 32, 33, 34, 35, 36, 37, 4] (by kernel_rfl) (by decide) (fun _ => False) (fun _ _ => False) (fun _ _ h => h) Still (fun _ _ _ h => h) (fun _ _ _ hm h => hm.trans h (fun _ _ h => h.elim)) [gi (.pointer (some ⟨q0, 0, none⟩)), gi (.int .i64 c.cl), gi (.bool true), gi (.bool true), gi (.pointer (some ⟨q0, 0, none⟩)), gi (.int .i64 c.cl), gi (.pointer (some ⟨w.heap.size, 1, none⟩)), gi (.int .i64 k), gi (.bool true), gi (.bool true), gi (.bool true), gi (.pointer (some ⟨q0, 1, none⟩)), gi (.int .i64 c.sq), gi (.bool false), gi (.bool false), gi (.bool false), gi (undef), gi (undef), gi (undef), gi (.bool false), gi (.bool false), gi (undef), gi (undef), gi (undef), gi (.bool false), gi (.bool false), gi (undef), gi (undef), gi (undef), gi (.bool false), gi (.bool false)] ⟨gi_stable, gi_stable, gi_stable, gi_stable, gi_stable, gi_stable, gi_stable, gi_stable, gi_stable, gi_stable, gi_stable, gi_stable, gi_stable, gi_stable, gi_stable, gi_stable, gi_stable, gi_stable, gi_stable, gi_stable, gi_stable, gi_stable, gi_stable, gi_stable, gi_stable, gi_stable, gi_stable, gi_stable, gi_stable, gi_stable, gi_stable, trivial⟩ [] (by kernel_rfl) (by decide) (by kernel_rfl) (fun _ _ => True) (fun _ _ _ _ _ => trivial) trivial ⟨?_, ?_, ?_, ?_, ?_, ?_, ?_, ?_, ?_, ?_, ?_, ?_, ?_, ?_, ?_, ?_, ?_, ?_, ?_, ?_, ?_, ?_, ?_, ?_, ?_, ?_, ?_, ?_, ?_, ?_, ?_, trivial⟩ ?_
        · intro tr act w' hm hout hsz hd hG hk hub
          refine jg_run (by rfl) rfl (wanted_none rfl) (ex_field rfl Try.underlying26 rfl (by kernel_rfl) ((hout 5 (by decide)).trans oe5)) (Mod.refl _ _) ?_
          rfl
        · intro tr act w' hm hout hsz hd hG hk hub
          have h0 := hd ⟨0, .data⟩ (by simp) rfl _ rfl
          exact jg_run (by rfl) rfl (wanted_none rfl) (ex_load1 rfl Try.underlying3 rfl h0 (by rw [(KQ.out.mod hm (fun h => h)).cell]; rfl)) (Mod.refl _ _) rfl
        · intro tr act w' hm hout hsz hd hG hk hub
          have h1 := hd ⟨1, .data⟩ (by simp) rfl _ rfl
          refine jg_run (by rfl) rfl (wanted_none rfl) (ex_bin rfl h1 rfl (guard_ints _ _ _ _ _ _) (run_geq_i _ _ _ Try.underlying3)) (Mod.refl _ _) ?_
          exact congrArg Value.bool E0.out
        · intro tr act w' hm hout hsz hd hG hk hub
          have h2 := hd ⟨2, .data⟩ (by simp) rfl _ rfl
          exact jg_run (by rfl) rfl (wanted_none rfl) (ex_move rfl h2) (Mod.refl _ _) rfl
        · intro tr act w' hm hout hsz hd hG hk hub
          have h3 := hd ⟨3, .guard⟩ (by simp) rfl _ rfl
          refine jg_run (by rfl) rfl ((wanted_of rfl rfl (hsz 11 (by decide)) h3).trans rfl) (ex_field rfl Try.underlying26 rfl (by kernel_rfl) ((hout 5 (by decide)).trans oe5)) (Mod.refl _ _) ?_
          rfl
        · intro tr act w' hm hout hsz hd hG hk hub
          have h3 := hd ⟨3, .guard⟩ (by simp) rfl _ rfl
          have h4 := hd ⟨4, .data⟩ (by simp) rfl _ rfl
          exact jg_run (by rfl) rfl ((wanted_of rfl rfl (hsz 11 (by decide)) h3).trans rfl) (ex_load1 rfl Try.underlying3 rfl h4 (by rw [(KQ.out.mod hm (fun h => h)).cell]; rfl)) (Mod.refl _ _) rfl
        · intro tr act w' hm hout hsz hd hG hk hub
          have h3 := hd ⟨3, .guard⟩ (by simp) rfl _ rfl
          refine jg_run (by rfl) rfl ((wanted_of rfl rfl (hsz 11 (by decide)) h3).trans rfl) (ex_field rfl Try.underlying24 rfl (by kernel_rfl) ((hout 2 (by decide)).trans oe2)) (Mod.refl _ _) ?_
          rfl
        · intro tr act w' hm hout hsz hd hG hk hub
          have h3 := hd ⟨3, .guard⟩ (by simp) rfl _ rfl
          have h6 := hd ⟨6, .data⟩ (by simp) rfl _ rfl
          exact jg_run (by rfl) rfl ((wanted_of rfl rfl (hsz 11 (by decide)) h3).trans rfl) (ex_load1 rfl Try.underlying3 rfl h6 (by rw [(KF2.out.mod hm (fun h => h)).cell]; rfl)) (Mod.refl _ _) rfl
        · intro tr act w' hm hout hsz hd hG hk hub
          have h3 := hd ⟨3, .guard⟩ (by simp) rfl _ rfl
          have h5 := hd ⟨5, .data⟩ (by simp) rfl _ rfl
          have h7 := hd ⟨7, .data⟩ (by simp) rfl _ rfl
          refine jg_run (by rfl) rfl ((wanted_of rfl rfl (hsz 11 (by decide)) h3).trans rfl) (ex_bin rfl h5 h7 (guard_ints _ _ _ _ _ _) (run_lss_i _ _ _ Try.underlying3)) (Mod.refl _ _) ?_
          exact congrArg Value.bool E1.out
        · intro tr act w' hm hout hsz hd hG hk hub
          have h3 := hd ⟨3, .data⟩ (by simp) rfl _ rfl
          have h8 := hd ⟨8, .data⟩ (by simp) rfl _ rfl
          exact jg_run (by rfl) rfl (wanted_none rfl) (ex_pick rfl h3 h8 rfl) (Mod.refl _ _) rfl
        · intro tr act w' hm hout hsz hd hG hk hub
          have h9 := hd ⟨9, .data⟩ (by simp) rfl _ rfl
          exact jg_run (by rfl) rfl (wanted_none rfl) (ex_move rfl h9) (Mod.refl _ _) rfl
        · intro tr act w' hm hout hsz hd hG hk hub
          have h10 := hd ⟨10, .guard⟩ (by simp) rfl _ rfl
          refine jg_run (by rfl) rfl ((wanted_of rfl rfl (hsz 18 (by decide)) h10).trans rfl) (ex_field rfl Try.underlying26 rfl (by kernel_rfl) ((hout 5 (by decide)).trans oe5)) (Mod.refl _ _) ?_
          rfl
        · intro tr act w' hm hout hsz hd hG hk hub
          have h10 := hd ⟨10, .guard⟩ (by simp) rfl _ rfl
          have h11 := hd ⟨11, .data⟩ (by simp) rfl _ rfl
          exact jg_run (by rfl) rfl ((wanted_of rfl rfl (hsz 18 (by decide)) h10).trans rfl) (ex_load1 rfl Try.underlying3 rfl h11 (by rw [(KQ.out.mod hm (fun h => h)).cell]; rfl)) (Mod.refl _ _) rfl
        · intro tr act w' hm hout hsz hd hG hk hub
          have h10 := hd ⟨10, .guard⟩ (by simp) rfl _ rfl
          have h12 := hd ⟨12, .data⟩ (by simp) rfl _ rfl
          refine jg_run (by rfl) rfl ((wanted_of rfl rfl (hsz 18 (by decide)) h10).trans rfl) (ex_bin rfl h12 rfl (guard_ints _ _ _ _ _ _) (run_geq_i _ _ _ Try.underlying3)) (Mod.refl _ _) ?_
          exact congrArg Value.bool E2.out
        · intro tr act w' hm hout hsz hd hG hk hub
          have h10 := hd ⟨10, .data⟩ (by simp) rfl _ rfl
          have h13 := hd ⟨13, .data⟩ (by simp) rfl _ rfl
          exact jg_run (by rfl) rfl (wanted_none rfl) (ex_pick rfl h10 h13 rfl) (Mod.refl _ _) rfl
        · intro tr act w' hm hout hsz hd hG hk hub
          have h14 := hd ⟨14, .data⟩ (by simp) rfl _ rfl
          exact jg_run (by rfl) rfl (wanted_none rfl) (ex_move rfl h14) (Mod.refl _ _) rfl
        · intro tr act w' hm hout hsz hd hG hk hub
          have h15 := hd ⟨15, .guard⟩ (by simp) rfl _ rfl
          exact jg_skip (fun _ _ _ h => h) (by rfl) rfl ((wanted_of rfl rfl (hsz 23 (by decide)) h15).trans rfl) rfl
        · intro tr act w' hm hout hsz hd hG hk hub
          have h15 := hd ⟨15, .guard⟩ (by simp) rfl _ rfl
          exact jg_skip (fun _ _ _ h => h) (by rfl) rfl ((wanted_of rfl rfl (hsz 23 (by decide)) h15).trans rfl) rfl
        · intro tr act w' hm hout hsz hd hG hk hub
          have h15 := hd ⟨15, .guard⟩ (by simp) rfl _ rfl
          exact jg_skip (fun _ _ _ h => h) (by rfl) rfl ((wanted_of rfl rfl (hsz 23 (by decide)) h15).trans rfl) rfl
        · intro tr act w' hm hout hsz hd hG hk hub
          have h15 := hd ⟨15, .data⟩ (by simp) rfl _ rfl
          have h18 := hd ⟨18, .data⟩ (by simp) rfl _ rfl
          exact jg_run (by rfl) rfl (wanted_none rfl) (ex_pick rfl h15 h18 rfl) (Mod.refl _ _) rfl
        · intro tr act w' hm hout hsz hd hG hk hub
          have h19 := hd ⟨19, .data⟩ (by simp) rfl _ rfl
          exact jg_run (by rfl) rfl (wanted_none rfl) (ex_move rfl h19) (Mod.refl _ _) rfl
        · intro tr act w' hm hout hsz hd hG hk hub
          have h20 := hd ⟨20, .guard⟩ (by simp) rfl _ rfl
          exact jg_skip (fun _ _ _ h => h) (by rfl) rfl ((wanted_of rfl rfl (hsz 28 (by decide)) h20).trans rfl) rfl
        · intro tr act w' hm hout hsz hd hG hk hub
          have h20 := hd ⟨20, .guard⟩ (by simp) rfl _ rfl
          exact jg_skip (fun _ _ _ h => h) (by rfl) rfl ((wanted_of rfl rfl (hsz 28 (by decide)) h20).trans rfl) rfl
        · intro tr act w' hm hout hsz hd hG hk hub
          have h20 := hd ⟨20, .guard⟩ (by simp) rfl _ rfl
          exact jg_skip (fun _ _ _ h => h) (by rfl) rfl ((wanted_of rfl rfl (hsz 28 (by decide)) h20).trans rfl) rfl
        · intro tr act w' hm hout hsz hd hG hk hub
          have h20 := hd ⟨20, .data⟩ (by simp) rfl _ rfl
          have h23 := hd ⟨23, .data⟩ (by simp) rfl _ rfl
          exact jg_run (by rfl) rfl (wanted_none rfl) (ex_pick rfl h20 h23 rfl) (Mod.refl _ _) rfl
        · intro tr act w' hm hout hsz hd hG hk hub
          have h24 := hd ⟨24, .data⟩ (by simp) rfl _ rfl
          exact jg_run (by rfl) rfl (wanted_none rfl) (ex_move rfl h24) (Mod.refl _ _) rfl
        · intro tr act w' hm hout hsz hd hG hk hub
          have h25 := hd ⟨25, .guard⟩ (by simp) rfl _ rfl
          exact jg_skip (fun _ _ _ h => h) (by rfl) rfl ((wanted_of rfl rfl (hsz 33 (by decide)) h25).trans rfl) rfl
        · intro tr act w' hm hout hsz hd hG hk hub
          have h25 := hd ⟨25, .guard⟩ (by simp) rfl _ rfl
          exact jg_skip (fun _ _ _ h => h) (by rfl) rfl ((wanted_of rfl rfl (hsz 33 (by decide)) h25).trans rfl) rfl
        · intro tr act w' hm hout hsz hd hG hk hub
          have h25 := hd ⟨25, .guard⟩ (by simp) rfl _ rfl
          exact jg_skip (fun _ _ _ h => h) (by rfl) rfl ((wanted_of rfl rfl (hsz 33 (by decide)) h25).trans rfl) rfl
        · intro tr act w' hm hout hsz hd hG hk hub
          have h25 := hd ⟨25, .data⟩ (by simp) rfl _ rfl
          have h28 := hd ⟨28, .data⟩ (by simp) rfl _ rfl
          exact jg_run (by rfl) rfl (wanted_none rfl) (ex_pick rfl h25 h28 rfl) (Mod.refl _ _) rfl
        · intro tr act w' hm hout hsz hd hG hk hub
          have h29 := hd ⟨29, .data⟩ (by simp) rfl _ rfl
          exact jg_run (by rfl) rfl (wanted_none rfl) (ex_assign rfl h29) (Mod.refl _ _) rfl
        intro vs tr w3 hl htl hm hG hV
        obtain ⟨v0, vs0, rfl, hl0⟩ := list_cons hl
        obtain ⟨v1, vs1, rfl, hl1⟩ := list_cons hl0
        obtain ⟨v2, vs2, rfl, hl2⟩ := list_cons hl1
        obtain ⟨v3, vs3, rfl, hl3⟩ := list_cons hl2
        obtain ⟨v4, vs4, rfl, hl4⟩ := list_cons hl3
        obtain ⟨v5, vs5, rfl, hl5⟩ := list_cons hl4
        obtain ⟨v6, vs6, rfl, hl6⟩ := list_cons hl5
        obtain ⟨v7, vs7, rfl, hl7⟩ := list_cons hl6
        obtain ⟨v8, vs8, rfl, hl8⟩ := list_cons hl7
        obtain ⟨v9, vs9, rfl, hl9⟩ := list_cons hl8
        obtain ⟨v10, vs10, rfl, hl10⟩ := list_cons hl9
        obtain ⟨v11, vs11, rfl, hl11⟩ := list_cons hl10
        obtain ⟨v12, vs12, rfl, hl12⟩ := list_cons hl11
        obtain ⟨v13, vs13, rfl, hl13⟩ := list_cons hl12
        obtain ⟨v14, vs14, rfl, hl14⟩ := list_cons hl13
        obtain ⟨v15, vs15, rfl, hl15⟩ := list_cons hl14
        obtain ⟨v16, vs16, rfl, hl16⟩ := list_cons hl15
        obtain ⟨v17, vs17, rfl, hl17⟩ := list_cons hl16
        obtain ⟨v18, vs18, rfl, hl18⟩ := list_cons hl17
        obtain ⟨v19, vs19, rfl, hl19⟩ := list_cons hl18
        obtain ⟨v20, vs20, rfl, hl20⟩ := list_cons hl19
        obtain ⟨v21, vs21, rfl, hl21⟩ := list_cons hl20
        obtain ⟨v22, vs22, rfl, hl22⟩ := list_cons hl21
        obtain ⟨v23, vs23, rfl, hl23⟩ := list_cons hl22
        obtain ⟨v24, vs24, rfl, hl24⟩ := list_cons hl23
        obtain ⟨v25, vs25, rfl, hl25⟩ := list_cons hl24
        obtain ⟨v26, vs26, rfl, hl26⟩ := list_cons hl25
        obtain ⟨v27, vs27, rfl, hl27⟩ := list_cons hl26
        obtain ⟨v28, vs28, rfl, hl28⟩ := list_cons hl27
        obtain ⟨v29, vs29, rfl, hl29⟩ := list_cons hl28
        obtain ⟨v30, vs30, rfl, hl30⟩ := list_cons hl29
        obtain rfl := list_nil hl30
        clear hl hl0 hl1 hl2 hl3 hl4 hl5 hl6 hl7 hl8 hl9 hl10 hl11 hl12 hl13 hl14 hl15 hl16 hl17 hl18 hl19 hl20 hl21 hl22 hl23 hl24 hl25 hl26 hl27 hl28 hl29 hl30
        obtain rfl : v30 = .bool false := hV 30 _ rfl
        have ha0 := HA0.out
        subst ha0
        clear HA0 hV hsz0 oe2 oe3 oe5
        simp only [putAll, Act.put, List.setIfInBounds_toArray, List.set_cons_zero, List.set_cons_succ]
        have KM3 := Lib.hid (KM2.out.trans hm (fun _ _ h => h))
        clear hm hG
        go_wp2
        go_ret
        exact ⟨congrArg (fun z => Ending.returned (Value.bool z)) (show false = validF k c by unfold validF; (simp only [E0.out, E1.out, E2.out, Bool.false_and, Bool.true_and] <;> rfl)), KM3.out⟩
    · have E1 := Lib.hid (decide_eq_false c1)
      clear c1
      go_upto_region 2 with (fail)
      generalize ha0 : Act.mk _ _ = a0
      have oe2 : a0.eval (.tmp 2) = .pointer (some ⟨w.heap.size, 0, none⟩) := by rw [← ha0]; rfl
      have oe3 : a0.eval (.tmp 3) = .pointer (some ⟨w.heap.size + 1, 0, none⟩) := by rw [← ha0]; rfl
      have oe5 : a0.eval (.tmp 5) = .pointer (some ⟨q0, 0, none⟩) := by rw [← ha0]; rfl
      have hsz0 : a0.tmps.size = 38 := by rw [← ha0]; rfl
      have HA0 := Lib.hid ha0
      clear ha0
      refine wp_region_G 38 hsz0 (by kernel_rfl) (by kernel_rfl) [8, 9, 10, 11, 12, 13, 14, 15, 16, 17, 18, 19, 20, 21, 22, 23, 24, 25, 26, 27, 28, 29, 30, 31, 32, 33, 34, 35, 36, 37, 4] (by kernel_rfl) (by decide) (fun _ => False) (fun _ _ => False) (fun _ _ h => h) Still (fun _ _ _ h => h) (fun _ _ _ hm h => hm.trans h (fun _ _ h => h.elim)) [gi (.pointer (some ⟨q0, 0, none⟩)), gi (.int .i64 c.cl), gi (.bool true), gi (.bool true), gi (.pointer (some ⟨q0, 0, none⟩)), gi (.int .i64 c.cl), gi (.pointer (some ⟨w.heap.size, 1, none⟩)), gi (.int .i64 k), gi (.bool false), gi (.bool false), gi (.bool false), gi (undef), gi (undef), gi (undef), gi (.bool false), gi (.bool false), gi (undef), gi (undef), gi (undef), gi (.bool false), gi (.bool false), gi (undef), gi (undef), gi (undef), gi (.bool false), gi (.bool false), gi (undef), gi (undef), gi (undef), gi (.bool false), gi (.bool false)] ⟨gi_stable, gi_stable, gi_stable, gi_stable, gi_stable, gi_stable, gi_stable, gi_stable, gi_stable, gi_stable, gi_stable, gi_stable, gi_stable, gi_stable, gi_stable, gi_stable, gi_stable, gi_stable, gi_stable, gi_stable, gi_stable, gi_stable, gi_stable, gi_stable, gi_stable, gi_stable, gi_stable, gi_stable, gi_stable, gi_stable, gi_stable, trivial⟩ [] (by kernel_rfl) (by decide) (by kernel_rfl) (fun _ _ => True) (fun _ _ _ _ _ => trivial) trivial ⟨?_, ?_, ?_, ?_, ?_, ?_, ?_, ?_, ?_, ?_, ?_, ?_, ?_, ?_, ?_, ?_, ?_, ?_, ?_, ?_, ?_, ?_, ?_, ?_, ?_, ?_, ?_, ?_, ?_, ?_, ?_, trivial⟩ ?_
      · intro tr act w' hm hout hsz hd hG hk hub
        refine jg_run (by rfl) rfl (wanted_none rfl) (ex_field rfl Try.underlying26 rfl (by kernel_rfl) ((hout 5 (by decide)).trans oe5)) (Mod.refl _ _) ?_
        rfl
      · intro tr act w' hm hout hsz hd hG hk hub
        have h0 := hd ⟨0, .data⟩ (by simp) rfl _ rfl
        exact jg_run (by rfl) rfl (wanted_none rfl) (ex_load1 rfl Try.underlying3 rfl h0 (by rw [(KQ.out.mod hm (fun h => h)).cell]; rfl)) (Mod.refl _ _) rfl
      · intro tr act w' hm hout hsz hd hG hk hub
        have h1 := hd ⟨1, .data⟩ (by simp) rfl _ rfl
        refine jg_run (by rfl) rfl (wanted_none rfl) (ex_bin rfl h1 rfl (guard_ints _ _ _ _ _ _) (run_geq_i _ _ _ Try.underlying3)) (Mod.refl _ _) ?_
        exact congrArg Value.bool E0.out
      · intro tr act w' hm hout hsz hd hG hk hub
        have h2 := hd ⟨2, .data⟩ (by simp) rfl _ rfl
        exact jg_run (by rfl) rfl (wanted_none rfl) (ex_move rfl h2) (Mod.refl _ _) rfl
      · intro tr act w' hm hout hsz hd hG hk hub
        have h3 := hd ⟨3, .guard⟩ (by simp) rfl _ rfl
        refine jg_run (by rfl) rfl ((wanted_of rfl rfl (hsz 11 (by decide)) h3).trans rfl) (ex_field rfl Try.underlying26 rfl (by kernel_rfl) ((hout 5 (by decide)).trans oe5)) (Mod.refl _ _) ?_
        rfl
      · intro tr act w' hm hout hsz hd hG hk hub
        have h3 := hd ⟨3, .guard⟩ (by simp) rfl _ rfl
        have h4 := hd ⟨4, .data⟩ (by simp) rfl _ rfl
        exact jg_run (by rfl) rfl ((wanted_of rfl rfl (hsz 11 (by decide)) h3).trans rfl) (ex_load1 rfl Try.underlying3 rfl h4 (by rw [(KQ.out.mod hm (fun h => h)).cell]; rfl)) (Mod.refl _ _) rfl
      · intro tr act w' hm hout hsz hd hG hk hub
        have h3 := hd ⟨3, .guard⟩ (by simp) rfl _ rfl
        refine jg_run (by rfl) rfl ((wanted_of rfl rfl (hsz 11 (by decide)) h3).trans rfl) (ex_field rfl Try.underlying24 rfl (by kernel_rfl) ((hout 2 (by decide)).trans oe2)) (Mod.refl _ _) ?_
        rfl
      · intro tr act w' hm hout hsz hd hG hk hub
        have h3 := hd ⟨3, .guard⟩ (by simp) rfl _ rfl
        have h6 := hd ⟨6, .data⟩ (by simp) rfl _ rfl
        exact jg_run (by rfl) rfl ((wanted_of rfl rfl (hsz 11 (by decide)) h3).trans rfl) (ex_load1 rfl Try.underlying3 rfl h6 (by rw [(KF2.out.mod hm (fun h => h)).cell]; rfl)) (Mod.refl _ _) rfl
      · intro tr act w' hm hout hsz hd hG hk hub
        have h3 := hd ⟨3, .guard⟩ (by simp) rfl _ rfl
        have h5 := hd ⟨5, .data⟩ (by simp) rfl _ rfl
        have h7 := hd ⟨7, .data⟩ (by simp) rfl _ rfl
        refine jg_run (by rfl) rfl ((wanted_of rfl rfl (hsz 11 (by decide)) h3).trans rfl) (ex_bin rfl h5 h7 (guard_ints _ _ _ _ _ _) (run_lss_i _ _ _ Try.underlying3)) (Mod.refl _ _) ?_
        exact congrArg Value.bool E1.out
      · intro tr act w' hm hout hsz hd hG hk hub
        have h3 := hd ⟨3, .data⟩ (by simp) rfl _ rfl
        have h8 := hd ⟨8, .data⟩ (by simp) rfl _ rfl
        exact jg_run (by rfl) rfl (wanted_none rfl) (ex_pick rfl h3 h8 rfl) (Mod.refl _ _) rfl
      · intro tr act w' hm hout hsz hd hG hk hub
        have h9 := hd ⟨9, .data⟩ (by simp) rfl _ rfl
        exact jg_run (by rfl) rfl (wanted_none rfl) (ex_move rfl h9) (Mod.refl _ _) rfl
      · intro tr act w' hm hout hsz hd hG hk hub
        have h10 := hd ⟨10, .guard⟩ (by simp) rfl _ rfl
        exact jg_skip (fun _ _ _ h => h) (by rfl) rfl ((wanted_of rfl rfl (hsz 18 (by decide)) h10).trans rfl) rfl
      · intro tr act w' hm hout hsz hd hG hk hub
        have h10 := hd ⟨10, .guard⟩ (by simp) rfl _ rfl
        exact jg_skip (fun _ _ _ h => h) (by rfl) rfl ((wanted_of rfl rfl (hsz 18 (by decide)) h10).trans rfl) rfl
      · intro tr act w' hm hout hsz hd hG hk hub
        have h10 := hd ⟨10, .guard⟩ (by simp) rfl _ rfl
        exact jg_skip (fun _ _ _ h => h) (by rfl) rfl ((wanted_of rfl rfl (hsz 18 (by decide)) h10).trans rfl) rfl
      · intro tr act w' hm hout hsz hd hG hk hub
        have h10 := hd ⟨10, .data⟩ (by simp) rfl _ rfl
        have h13 := hd ⟨13, .data⟩ (by simp) rfl _ rfl
        exact jg_run (by rfl) rfl (wanted_none rfl) (ex_pick rfl h10 h13 rfl) (Mod.refl _ _) rfl
      · intro tr act w' hm hout hsz hd hG hk hub
        have h14 := hd ⟨14, .data⟩ (by simp) rfl _ rfl
        exact jg_run (by rfl) rfl (wanted_none rfl) (ex_move rfl h14) (Mod.refl _ _) rfl
      · intro tr act w' hm hout hsz hd hG hk hub
        have h15 := hd ⟨15, .guard⟩ (by simp) rfl _ rfl
        exact jg_skip (fun _ _ _ h => h) (by rfl) rfl ((wanted_of rfl rfl (hsz 23 (by decide)) h15).trans rfl) rfl
      · intro tr act w' hm hout hsz hd hG hk hub
        have h15 := hd ⟨15, .guard⟩ (by simp) rfl _ rfl
        exact jg_skip (fun _ _ _ h => h) (by rfl) rfl ((wanted_of rfl rfl (hsz 23 (by decide)) h15).trans rfl) rfl
      · intro tr act w' hm hout hsz hd hG hk hub
        have h15 := hd ⟨15, .guard⟩ (by simp) rfl _ rfl
        exact jg_skip (fun _ _ _ h => h) (by rfl) rfl ((wanted_of rfl rfl (hsz 23 (by decide)) h15).trans rfl) rfl
      · intro tr act w' hm hout hsz hd hG hk hub
        have h15 := hd ⟨15, .data⟩ (by simp) rfl _ rfl
        have h18 := hd ⟨18, .data⟩ (by simp) rfl _ rfl
        exact jg_run (by rfl) rfl (wanted_none rfl) (ex_pick rfl h15 h18 rfl) (Mod.refl _ _) rfl
      · intro tr act w' hm hout hsz hd hG hk hub
        have h19 := hd ⟨19, .data⟩ (by simp) rfl _ rfl
        exact jg_run (by rfl) rfl (wanted_none rfl) (ex_move rfl h19) (Mod.refl _ _) rfl
      · intro tr act w' hm hout hsz hd hG hk hub
        have h20 := hd ⟨20, .guard⟩ (by simp) rfl _ rfl
        exact jg_skip (fun _ _ _ h => h) (by rfl) rfl ((wanted_of rfl rfl (hsz 28 (by decide)) h20).trans rfl) rfl
      · intro tr act w' hm hout hsz hd hG hk hub
        have h20 := hd ⟨20, .guard⟩ (by simp) rfl _ rfl
        exact jg_skip (fun _ _ _ h => h) (by rfl) rfl ((wanted_of rfl rfl (hsz 28 (by decide)) h20).trans rfl) rfl
      · intro tr act w' hm hout hsz hd hG hk hub
        have h20 := hd ⟨20, .guard⟩ (by simp) rfl _ rfl
        exact jg_skip (fun _ _ _ h => h) (by rfl) rfl ((wanted_of rfl rfl (hsz 28 (by decide)) h20).trans rfl) rfl
      · intro tr act w' hm hout hsz hd hG hk hub
        have h20 := hd ⟨20, .data⟩ (by simp) rfl _ rfl
        have h23 := hd ⟨23, .data⟩ (by simp) rfl _ rfl
        exact jg_run (by rfl) rfl (wanted_none rfl) (ex_pick rfl h20 h23 rfl) (Mod.refl _ _) rfl
      · intro tr act w' hm hout hsz hd hG hk hub
        have h24 := hd ⟨24, .data⟩ (by simp) rfl _ rfl
        exact jg_run (by rfl) rfl (wanted_none rfl) (ex_move rfl h24) (Mod.refl _ _) rfl
      · intro tr act w' hm hout hsz hd hG hk hub
        have h25 := hd ⟨25, .guard⟩ (by simp) rfl _ rfl
        exact jg_skip (fun _ _ _ h => h) (by rfl) rfl ((wanted_of rfl rfl (hsz 33 (by decide)) h25).trans rfl) rfl
      · intro tr act w' hm hout hsz hd hG hk hub
        have h25 := hd ⟨25, .guard⟩ (by simp) rfl _ rfl
        exact jg_skip (fun _ _ _ h => h) (by rfl) rfl ((wanted_of rfl rfl (hsz 33 (by decide)) h25).trans rfl) rfl
      · intro tr act w' hm hout hsz hd hG hk hub
        have h25 := hd ⟨25, .guard⟩ (by simp) rfl _ rfl
        exact jg_skip (fun _ _ _ h => h) (by rfl) rfl ((wanted_of rfl rfl (hsz 33 (by decide)) h25).trans rfl) rfl
      · intro tr act w' hm hout hsz hd hG hk hub
        have h25 := hd ⟨25, .data⟩ (by simp) rfl _ rfl
        have h28 := hd ⟨28, .data⟩ (by simp) rfl _ rfl
        exact jg_run (by rfl) rfl (wanted_none rfl) (ex_pick rfl h25 h28 rfl) (Mod.refl _ _) rfl
      · intro tr act w' hm hout hsz hd hG hk hub
        have h29 := hd ⟨29, .data⟩ (by simp) rfl _ rfl
        exact jg_run (by rfl) rfl (wanted_none rfl) (ex_assign rfl h29) (Mod.refl _ _) rfl
      intro vs tr w3 hl htl hm hG hV
      obtain ⟨v0, vs0, rfl, hl0⟩ := list_cons hl
      obtain ⟨v1, vs1, rfl, hl1⟩ := list_cons hl0
      obtain ⟨v2, vs2, rfl, hl2⟩ := list_cons hl1
      obtain ⟨v3, vs3, rfl, hl3⟩ := list_cons hl2
      obtain ⟨v4, vs4, rfl, hl4⟩ := list_cons hl3
      obtain ⟨v5, vs5, rfl, hl5⟩ := list_cons hl4
      obtain ⟨v6, vs6, rfl, hl6⟩ := list_cons hl5
      obtain ⟨v7, vs7, rfl, hl7⟩ := list_cons hl6
      obtain ⟨v8, vs8, rfl, hl8⟩ := list_cons hl7
      obtain ⟨v9, vs9, rfl, hl9⟩ := list_cons hl8
      obtain ⟨v10, vs10, rfl, hl10⟩ := list_cons hl9
      obtain ⟨v11, vs11, rfl, hl11⟩ := list_cons hl10
      obtain ⟨v12, vs12, rfl, hl12⟩ := list_cons hl11
      obtain ⟨v13, vs13, rfl, hl13⟩ := list_cons hl12
      obtain ⟨v14, vs14, rfl, hl14⟩ := list_cons hl13
      obtain ⟨v15, vs15, rfl, hl15⟩ := list_cons hl14
      obtain ⟨v16, vs16, rfl, hl16⟩ := list_cons hl15
      obtain ⟨v17, vs17, rfl, hl17⟩ := list_cons hl16
      obtain ⟨v18, vs18, rfl, hl18⟩ := list_cons hl17
      obtain ⟨v19, vs19, rfl, hl19⟩ := list_cons hl18
      obtain ⟨v20, vs20, rfl, hl20⟩ := list_cons hl19
      obtain ⟨v21, vs21, rfl, hl21⟩ := list_cons hl20
      obtain ⟨v22, vs22, rfl, hl22⟩ := list_cons hl21
      obtain ⟨v23, vs23, rfl, hl23⟩ := list_cons hl22
      obtain ⟨v24, vs24, rfl, hl24⟩ := list_cons hl23
      obtain ⟨v25, vs25, rfl, hl25⟩ := list_cons hl24
      obtain ⟨v26, vs26, rfl, hl26⟩ := list_cons hl25
      obtain ⟨v27, vs27, rfl, hl27⟩ := list_cons hl26
      obtain ⟨v28, vs28, rfl, hl28⟩ := list_cons hl27
      obtain ⟨v29, vs29, rfl, hl29⟩ := list_cons hl28
      obtain ⟨v30, vs30, rfl, hl30⟩ := list_cons hl29
      obtain rfl := list_nil hl30
      clear hl hl0 hl1 hl2 hl3 hl4 hl5 hl6 hl7 hl8 hl9 hl10 hl11 hl12 hl13 hl14 hl15 hl16 hl17 hl18 hl19 hl20 hl21 hl22 hl23 hl24 hl25 hl26 hl27 hl28 hl29 hl30
      obtain rfl : v30 = .bool false := hV 30 _ rfl
      have ha0 := HA0.out
      subst ha0
      clear HA0 hV hsz0 oe2 oe3 oe5
      simp only [putAll, Act.put, List.setIfInBounds_toArray, List.set_cons_zero, List.set_cons_succ]
      have KM3 := Lib.hid (KM2.out.trans hm (fun _ _ h => h))
      clear hm hG
      go_wp2
      go_ret
      exact ⟨congrArg (fun z => Ending.returned (Value.bool z)) (show false = validF k c by unfold validF; (simp only [E0.out, E1.out, Bool.false_and, Bool.true_and] <;> rfl)), KM3.out⟩
  · have E0 := Lib.hid (decide_eq_false c0)
    clear c0
    go_upto_region 2 with (fail)
    generalize ha0 : Act.mk _ _ = a0
    have oe2 : a0.eval (.tmp 2) = .pointer (some ⟨w.heap.size, 0, none⟩) := by rw [← ha0]; rfl
    have oe3 : a0.eval (.tmp 3) = .pointer (some ⟨w.heap.size + 1, 0, none⟩) := by rw [← ha0]; rfl
    have oe5 : a0.eval (.tmp 5) = .pointer (some ⟨q0, 0, none⟩) := by rw [← ha0]; rfl
    have hsz0 : a0.tmps.size = 38 := by rw [← ha0]; rfl
    have HA0 := Lib.hid ha0
    clear ha0
    refine wp_region_G 38 hsz0 (by kernel_rfl) (by kernel_rfl) [8, 9, 10, 11, 12, 13, 14, 15, 16, 17, 18, 19, 20, 21, 22, 23, 24, 25, 26, 27, 28, 29, 30, 31, 32, 33, 34, 35, 36, 37, 4] (by kernel_rfl) (by decide) (fun _ => False) (fun _ _ => False) (fun _ _ h => h) Still (fun _ _ _ h => h) (fun _ _ _ hm h => hm.trans h (fun _ _ h => h.elim)) [gi (.pointer (some ⟨q0, 0, none⟩)), gi (.int .i64 c.cl), gi (.bool false), gi (.bool false), gi (undef), gi (undef), gi (undef), gi (undef), gi (undef), gi (.bool false), gi (.bool false), gi (undef), gi (undef), gi (undef), gi (.bool false), gi (.bool false), gi (undef), gi (undef), gi (undef), gi (.bool false), gi (.bool false), gi (undef), gi (undef), gi (undef), gi (.bool false), gi (.bool false), gi (undef), gi (undef), gi (undef), gi (.bool false), gi (.bool false)] ⟨gi_stable, gi_stable, gi_stable, gi_stable, gi_stable, gi_stable, gi_stable, gi_stable, gi_stable, gi_stable, gi_stable, gi_stable, gi_stable, gi_stable, gi_stable, gi_stable, gi_stable, gi_stable, gi_stable, gi_stable, gi_stable, gi_stable, gi_stable, gi_stable, gi_stable, gi_stable, gi_stable, gi_stable, gi_stable, gi_stable, gi_stable, trivial⟩ [] (by kernel_rfl) (by decide) (by kernel_rfl) (fun _ _ => True) (fun _ _ _ _ _ => trivial) trivial ⟨?_, ?_, ?_, ?_, ?_, ?_, ?_, ?_, ?_, ?_, ?_, ?_, ?_, ?_, ?_, ?_, ?_, ?_, ?_, ?_, ?_, ?_, ?_, ?_, ?_, ?_, ?_, ?_, ?_, ?_, ?_, trivial⟩ ?_
    · intro tr act w' hm hout hsz hd hG hk hub
      refine jg_run (by rfl) rfl (wanted_none rfl) (ex_field rfl Try.underlying26 rfl (by kernel_rfl) ((hout 5 (by decide)).trans oe5)) (Mod.refl _ _) ?_
      rfl
    · intro tr act w' hm hout hsz hd hG hk hub
      have h0 := hd ⟨0, .data⟩ (by simp) rfl _ rfl
      exact jg_run (by rfl) rfl (wanted_none rfl) (ex_load1 rfl Try.underlying3 rfl h0 (by rw [(KQ.out.mod hm (fun h => h)).cell]; rfl)) (Mod.refl _ _) rfl
    · intro tr act w' hm hout hsz hd hG hk hub
      have h1 := hd ⟨1, .data⟩ (by simp) rfl _ rfl
      refine jg_run (by rfl) rfl (wanted_none rfl) (ex_bin rfl h1 rfl (guard_ints _ _ _ _ _ _) (run_geq_i _ _ _ Try.underlying3)) (Mod.refl _ _) ?_
      exact congrArg Value.bool E0.out
    · intro tr act w' hm hout hsz hd hG hk hub
      have h2 := hd ⟨2, .data⟩ (by simp) rfl _ rfl
      exact jg_run (by rfl) rfl (wanted_none rfl) (ex_move rfl h2) (Mod.refl _ _) rfl
    · intro tr act w' hm hout hsz hd hG hk hub
      have h3 := hd ⟨3, .guard⟩ (by simp) rfl _ rfl
      exact jg_skip (fun _ _ _ h => h) (by rfl) rfl ((wanted_of rfl rfl (hsz 11 (by decide)) h3).trans rfl) rfl
    · intro tr act w' hm hout hsz hd hG hk hub
      have h3 := hd ⟨3, .guard⟩ (by simp) rfl _ rfl
      exact jg_skip (fun _ _ _ h => h) (by rfl) rfl ((wanted_of rfl rfl (hsz 11 (by decide)) h3).trans rfl) rfl
    · intro tr act w' hm hout hsz hd hG hk hub
      have h3 := hd ⟨3, .guard⟩ (by simp) rfl _ rfl
      exact jg_skip (fun _ _ _ h => h) (by rfl) rfl ((wanted_of rfl rfl (hsz 11 (by decide)) h3).trans rfl) rfl
    · intro tr act w' hm hout hsz hd hG hk hub
      have h3 := hd ⟨3, .guard⟩ (by simp) rfl _ rfl
      exact jg_skip (fun _ _ _ h => h) (by rfl) rfl ((wanted_of rfl rfl (hsz 11 (by decide)) h3).trans rfl) rfl
    · intro tr act w' hm hout hsz hd hG hk hub
      have h3 := hd ⟨3, .guard⟩ (by simp) rfl _ rfl
      exact jg_skip (fun _ _ _ h => h) (by rfl) rfl ((wanted_of rfl rfl (hsz 11 (by decide)) h3).trans rfl) rfl
    · intro tr act w' hm hout hsz hd hG hk hub
      have h3 := hd ⟨3, .data⟩ (by simp) rfl _ rfl
      have h8 := hd ⟨8, .data⟩ (by simp) rfl _ rfl
      exact jg_run (by rfl) rfl (wanted_none rfl) (ex_pick rfl h3 h8 rfl) (Mod.refl _ _) rfl
    · intro tr act w' hm hout hsz hd hG hk hub
      have h9 := hd ⟨9, .data⟩ (by simp) rfl _ rfl
      exact jg_run (by rfl) rfl (wanted_none rfl) (ex_move rfl h9) (Mod.refl _ _) rfl
    · intro tr act w' hm hout hsz hd hG hk hub
      have h10 := hd ⟨10, .guard⟩ (by simp) rfl _ rfl
      exact jg_skip (fun _ _ _ h => h) (by rfl) rfl ((wanted_of rfl rfl (hsz 18 (by decide)) h10).trans rfl) rfl
    · intro tr act w' hm hout hsz hd hG hk hub
      have h10 := hd ⟨10, .guard⟩ (by simp) rfl _ rfl
      exact jg_skip (fun _ _ _ h => h) (by rfl) rfl ((wanted_of rfl rfl (hsz 18 (by decide)) h10).trans rfl) rfl
    · intro tr act w' hm hout hsz hd hG hk hub
      have h10 := hd ⟨10, .guard⟩ (by simp) rfl _ rfl
      exact jg_skip (fun _ _ _ h => h) (by rfl) rfl ((wanted_of rfl rfl (hsz 18 (by decide)) h10).trans rfl) rfl
    · intro tr act w' hm hout hsz hd hG hk hub
      have h10 := hd ⟨10, .data⟩ (by simp) rfl _ rfl
      have h13 := hd ⟨13, .data⟩ (by simp) rfl _ rfl
      exact jg_run (by rfl) rfl (wanted_none rfl) (ex_pick rfl h10 h13 rfl) (Mod.refl _ _) rfl
    · intro tr act w' hm hout hsz hd hG hk hub
      have h14 := hd ⟨14, .data⟩ (by simp) rfl _ rfl
      exact jg_run (by rfl) rfl (wanted_none rfl) (ex_move rfl h14) (Mod.refl _ _) rfl
    · intro tr act w' hm hout hsz hd hG hk hub
      have h15 := hd ⟨15, .guard⟩ (by simp) rfl _ rfl
      exact jg_skip (fun _ _ _ h => h) (by rfl) rfl ((wanted_of rfl rfl (hsz 23 (by decide)) h15).trans rfl) rfl
    · intro tr act w' hm hout hsz hd hG hk hub
      have h15 := hd ⟨15, .guard⟩ (by simp) rfl _ rfl
      exact jg_skip (fun _ _ _ h => h) (by rfl) rfl ((wanted_of rfl rfl (hsz 23 (by decide)) h15).trans rfl) rfl
    · intro tr act w' hm hout hsz hd hG hk hub
      have h15 := hd ⟨15, .guard⟩ (by simp) rfl _ rfl
      exact jg_skip (fun _ _ _ h => h) (by rfl) rfl ((wanted_of rfl rfl (hsz 23 (by decide)) h15).trans rfl) rfl
    · intro tr act w' hm hout hsz hd hG hk hub
      have h15 := hd ⟨15, .data⟩ (by simp) rfl _ rfl
      have h18 := hd ⟨18, .data⟩ (by simp) rfl _ rfl
      exact jg_run (by rfl) rfl (wanted_none rfl) (ex_pick rfl h15 h18 rfl) (Mod.refl _ _) rfl
    · intro tr act w' hm hout hsz hd hG hk hub
      have h19 := hd ⟨19, .data⟩ (by simp) rfl _ rfl
      exact jg_run (by rfl) rfl (wanted_none rfl) (ex_move rfl h19) (Mod.refl _ _) rfl
    · intro tr act w' hm hout hsz hd hG hk hub
      have h20 := hd ⟨20, .guard⟩ (by simp) rfl _ rfl
      exact jg_skip (fun _ _ _ h => h) (by rfl) rfl ((wanted_of rfl rfl (hsz 28 (by decide)) h20).trans rfl) rfl
    · intro tr act w' hm hout hsz hd hG hk hub
      have h20 := hd ⟨20, .guard⟩ (by simp) rfl _ rfl
      exact jg_skip (fun _ _ _ h => h) (by rfl) rfl ((wanted_of rfl rfl (hsz 28 (by decide)) h20).trans rfl) rfl
    · intro tr act w' hm hout hsz hd hG hk hub
      have h20 := hd ⟨20, .guard⟩ (by simp) rfl _ rfl
      exact jg_skip (fun _ _ _ h => h) (by rfl) rfl ((wanted_of rfl rfl (hsz 28 (by decide)) h20).trans rfl) rfl
    · intro tr act w' hm hout hsz hd hG hk hub
      have h20 := hd ⟨20, .data⟩ (by simp) rfl _ rfl
      have h23 := hd ⟨23, .data⟩ (by simp) rfl _ rfl
      exact jg_run (by rfl) rfl (wanted_none rfl) (ex_pick rfl h20 h23 rfl) (Mod.refl _ _) rfl
    · intro tr act w' hm hout hsz hd hG hk hub
      have h24 := hd ⟨24, .data⟩ (by simp) rfl _ rfl
      exact jg_run (by rfl) rfl (wanted_none rfl) (ex_move rfl h24) (Mod.refl _ _) rfl
    · intro tr act w' hm hout hsz hd hG hk hub
      have h25 := hd ⟨25, .guard⟩ (by simp) rfl _ rfl
      exact jg_skip (fun _ _ _ h => h) (by rfl) rfl ((wanted_of rfl rfl (hsz 33 (by decide)) h25).trans rfl) rfl
    · intro tr act w' hm hout hsz hd hG hk hub
      have h25 := hd ⟨25, .guard⟩ (by simp) rfl _ rfl
      exact jg_skip (fun _ _ _ h => h) (by rfl) rfl ((wanted_of rfl rfl (hsz 33 (by decide)) h25).trans rfl) rfl
    · intro tr act w' hm hout hsz hd hG hk hub
      have h25 := hd ⟨25, .guard⟩ (by simp) rfl _ rfl
      exact jg_skip (fun _ _ _ h => h) (by rfl) rfl ((wanted_of rfl rfl (hsz 33 (by decide)) h25).trans rfl) rfl
    · intro tr act w' hm hout hsz hd hG hk hub
      have h25 := hd ⟨25, .data⟩ (by simp) rfl _ rfl
      have h28 := hd ⟨28, .data⟩ (by simp) rfl _ rfl
      exact jg_run (by rfl) rfl (wanted_none rfl) (ex_pick rfl h25 h28 rfl) (Mod.refl _ _) rfl
    · intro tr act w' hm hout hsz hd hG hk hub
      have h29 := hd ⟨29, .data⟩ (by simp) rfl _ rfl
      exact jg_run (by rfl) rfl (wanted_none rfl) (ex_assign rfl h29) (Mod.refl _ _) rfl
    intro vs tr w3 hl htl hm hG hV
    obtain ⟨v0, vs0, rfl, hl0⟩ := list_cons hl
    obtain ⟨v1, vs1, rfl, hl1⟩ := list_cons hl0
    obtain ⟨v2, vs2, rfl, hl2⟩ := list_cons hl1
    obtain ⟨v3, vs3, rfl, hl3⟩ := list_cons hl2
    obtain ⟨v4, vs4, rfl, hl4⟩ := list_cons hl3
    obtain ⟨v5, vs5, rfl, hl5⟩ := list_cons hl4
    obtain ⟨v6, vs6, rfl, hl6⟩ := list_cons hl5
    obtain ⟨v7, vs7, rfl, hl7⟩ := list_cons hl6
    obtain ⟨v8, vs8, rfl, hl8⟩ := list_cons hl7
    obtain ⟨v9, vs9, rfl, hl9⟩ := list_cons hl8
    obtain ⟨v10, vs10, rfl, hl10⟩ := list_cons hl9
    obtain ⟨v11, vs11, rfl, hl11⟩ := list_cons hl10
    obtain ⟨v12, vs12, rfl, hl12⟩ := list_cons hl11
    obtain ⟨v13, vs13, rfl, hl13⟩ := list_cons hl12
    obtain ⟨v14, vs14, rfl, hl14⟩ := list_cons hl13
    obtain ⟨v15, vs15, rfl, hl15⟩ := list_cons hl14
    obtain ⟨v16, vs16, rfl, hl16⟩ := list_cons hl15
    obtain ⟨v17, vs17, rfl, hl17⟩ := list_cons hl16
    obtain ⟨v18, vs18, rfl, hl18⟩ := list_cons hl17
    obtain ⟨v19, vs19, rfl, hl19⟩ := list_cons hl18
    obtain ⟨v20, vs20, rfl, hl20⟩ := list_cons hl19
    obtain ⟨v21, vs21, rfl, hl21⟩ := list_cons hl20
    obtain ⟨v22, vs22, rfl, hl22⟩ := list_cons hl21
    obtain ⟨v23, vs23, rfl, hl23⟩ := list_cons hl22
    obtain ⟨v24, vs24, rfl, hl24⟩ := list_cons hl23
    obtain ⟨v25, vs25, rfl, hl25⟩ := list_cons hl24
    obtain ⟨v26, vs26, rfl, hl26⟩ := list_cons hl25
    obtain ⟨v27, vs27, rfl, hl27⟩ := list_cons hl26
    obtain ⟨v28, vs28, rfl, hl28⟩ := list_cons hl27
    obtain ⟨v29, vs29, rfl, hl29⟩ := list_cons hl28
    obtain ⟨v30, vs30, rfl, hl30⟩ := list_cons hl29
    obtain rfl := list_nil hl30
    clear hl hl0 hl1 hl2 hl3 hl4 hl5 hl6 hl7 hl8 hl9 hl10 hl11 hl12 hl13 hl14 hl15 hl16 hl17 hl18 hl19 hl20 hl21 hl22 hl23 hl24 hl25 hl26 hl27 hl28 hl29 hl30
    obtain rfl : v30 = .bool false := hV 30 _ rfl
    have ha0 := HA0.out
    subst ha0
    clear HA0 hV hsz0 oe2 oe3 oe5
    simp only [putAll, Act.put, List.setIfInBounds_toArray, List.set_cons_zero, List.set_cons_succ]
    have KM3 := Lib.hid (KM2.out.trans hm (fun _ _ h => h))
    clear hm hG
    go_wp2
    go_ret
    exact ⟨congrArg (fun z => Ending.returned (Value.bool z)) (show false = validF k c by unfold validF; (simp only [E0.out, Bool.false_and] <;> rfl)), KM3.out⟩
/-- an opening's cells -/
def opC (i : Int) (v : Value) (h : List Int) : List Value := [.int .i64 i, v] ++ h.map bv
theorem Op.hash {w : World} {g : Nat} {i : Int} {v : Value} {h : List Int} {T : TypeId} (hc : Cs w g (opC i v h).toArray T) : ∀ j u, (h.map bv)[j]? = some u → w.cell? ⟨g, 2 + j, none⟩ = some u := by
  intro j u hu
  rw [hc.cell]
  simp only [List.getElem?_toArray, opC]
  rw [List.getElem?_append_right (by simp)]
  simpa using hu
set_option maxHeartbeats 2000000 in
theorem Matches_any (x : List Int) (a b i : Int) (h bs : List Int) (v : Value) (w : World) (hx : x.length = 32) (ha : I64 a) (hb : I64 b) (hh : HK h) (hr : RdB w v bs) (hl : bs.length ≤ 800000) :
    Calls Try.prog 26 #[hv x, .agg #[.int .i64 a, .int .i64 b], .agg (opC i v h).toArray] w fun e w' => e = .returned (.bool (decide (x = shaF (ofT a b h bs)))) ∧ Mod (fun _ => False) w w' := by
  have HX := Lib.hid hx
  have HA := Lib.hid ha
  have HB := Lib.hid hb
  have HH := Lib.hid hh
  have HR := Lib.hid hr
  have HLB := Lib.hid hl
  clear hx ha hb hh hr hl
  change Calls _ _ #[.agg (x.map bv).toArray, .agg #[.int .i64 a, .int .i64 b], .agg (opC i v h).toArray] _ _
  go_enter Try.func26, Try.ntmps26
  go_upto_region 1 with (fail)
  obtain ⟨w1, hw1⟩ : ∃ z, z = ((w.alloc (.cells (x.map bv).toArray 28)).alloc (.cells #[.int .i64 a, .int .i64 b] 26)).alloc (.cells (opC i v h).toArray 52) := ⟨_, rfl⟩
  change Code.wp _ _ _ _ (((w.alloc (.cells (x.map bv).toArray 28)).alloc (.cells #[.int .i64 a, .int .i64 b] 26)).alloc (.cells (opC i v h).toArray 52))
  rw [← hw1]
  have KX := Lib.hid (show Cs w1 w.heap.size (x.map bv).toArray 28 by rw [hw1]; exact ((Cs.new _ _ _).alloc _).alloc _)
  have KN := Lib.hid (show Cs w1 (w.heap.size + 1) #[.int .i64 a, .int .i64 b] 26 by rw [hw1]; exact (Cs_new1 _ _ _ _).alloc _)
  have KO := Lib.hid (show Cs w1 (w.heap.size + 1 + 1) (opC i v h).toArray 52 by
    rw [hw1]
    have := Cs_new1 (w.alloc (.cells (x.map bv).toArray 28)) (.cells #[.int .i64 a, .int .i64 b] 26) (opC i v h).toArray 52
    rwa [show (w.alloc (.cells (x.map bv).toArray 28)).heap.size = w.heap.size + 1 by simp] at this)
  have KM := Lib.hid (show Mod (fun _ => False) w w1 by rw [hw1]; exact (((Mod.refl _ _).alloc _).alloc _).alloc _)
  clear hw1
  generalize ha0 : Act.mk _ _ = a0
  have oe3 : a0.eval (.tmp 3) = .pointer (some ⟨w.heap.size, 0, none⟩) := by rw [← ha0]; rfl
  have oe4 : a0.eval (.tmp 4) = .pointer (some ⟨w.heap.size + 1, 0, none⟩) := by rw [← ha0]; rfl
  have oe5 : a0.eval (.tmp 5) = .pointer (some ⟨w.heap.size + 1 + 1, 0, none⟩) := by rw [← ha0]; rfl
  have hsz0 : a0.tmps.size = 15 := by rw [← ha0]; rfl
  have HA0 := Lib.hid ha0
  clear ha0
  refine wp_region_G 15 hsz0 (by kernel_rfl) (by kernel_rfl) [7, 8, 9, 10, 11, 12, 13, 14, 6] (by kernel_rfl) (by decide) (fun _ => False) (fun _ _ => False) (fun _ _ h => h) Still (fun _ _ _ h => h) (fun _ _ _ hm h => hm.trans h (fun _ _ h => h.elim)) [gi (hv x), gi (.agg #[.int .i64 a, .int .i64 b]), gi (.pointer (some ⟨w.heap.size + 1 + 1, 2, none⟩)), gi (hv h), gi (.pointer (some ⟨w.heap.size + 1 + 1, 1, none⟩)), gi (v), gi (hv (shaF (ofT a b h bs))), gi (.bool (decide (x = shaF (ofT a b h bs)))), gi (.bool (decide (x = shaF (ofT a b h bs))))] ⟨gi_stable, gi_stable, gi_stable, gi_stable, gi_stable, gi_stable, gi_stable, gi_stable, gi_stable, trivial⟩ [] (by kernel_rfl) (by decide) (by kernel_rfl) (fun _ _ => True) (fun _ _ _ _ _ => trivial) trivial ⟨?_, ?_, ?_, ?_, ?_, ?_, ?_, ?_, ?_, trivial⟩ ?_
  · intro tr act w' hm hout hsz hd hG hk hub
    exact jg_run (by rfl) rfl (wanted_none rfl) (ex_loadA rfl Try.underlying28 rfl (off := 0) (cs := x.map bv) (by rw [List.length_map, HX.out]; exact size_hash) ((hout 3 (by decide)).trans oe3) (Cs.whole (KX.out.mod hm (fun h => h)))) (Mod.refl _ _) rfl
  · intro tr act w' hm hout hsz hd hG hk hub
    exact jg_run (by rfl) rfl (wanted_none rfl) (ex_loadA rfl Try.underlying26 rfl (off := 0) (cs := [.int .i64 a, .int .i64 b]) (by kernel_rfl) ((hout 4 (by decide)).trans oe4) (Cs.whole (KN.out.mod hm (fun h => h)))) (Mod.refl _ _) rfl
  · intro tr act w' hm hout hsz hd hG hk hub
    refine jg_run (by rfl) rfl (wanted_none rfl) (ex_field rfl Try.underlying52 rfl (by kernel_rfl) ((hout 5 (by decide)).trans oe5)) (Mod.refl _ _) ?_
    rfl
  · intro tr act w' hm hout hsz hd hG hk hub
    have h2 := hd ⟨2, .data⟩ (by simp) rfl _ rfl
    exact jg_run (by rfl) rfl (wanted_none rfl) (ex_loadA rfl Try.underlying28 rfl (off := 2) (cs := h.map bv) (by rw [List.length_map, HH.out.1]; exact size_hash) h2 (Op.hash (KO.out.mod hm (fun h => h)))) (Mod.refl _ _) rfl
  · intro tr act w' hm hout hsz hd hG hk hub
    refine jg_run (by rfl) rfl (wanted_none rfl) (ex_field rfl Try.underlying52 rfl (by kernel_rfl) ((hout 5 (by decide)).trans oe5)) (Mod.refl _ _) ?_
    rfl
  · intro tr act w' hm hout hsz hd hG hk hub
    have h4 := hd ⟨4, .data⟩ (by simp) rfl _ rfl
    exact jg_run (by rfl) rfl (wanted_none rfl) (ex_load1 rfl Try.underlying36 rfl h4 (by rw [(KO.out.mod hm (fun h => h)).cell]; rfl)) (Mod.refl _ _) rfl
  · intro tr act w' hm hout hsz hd hG hk hub
    have h1 := hd ⟨1, .data⟩ (by simp) rfl _ rfl
    have h3 := hd ⟨3, .data⟩ (by simp) rfl _ rfl
    have h5 := hd ⟨5, .data⟩ (by simp) rfl _ rfl
    refine jg_call (args := #[.agg #[.int .i64 a, .int .i64 b], hv h, v]) (by rfl) rfl (wanted_none rfl) (by rw [ex_callF rfl Try.func24 (by kernel_rfl) (by kernel_rfl)]; exact congrArg (fun z => Result.ok (Next.enter _ z) _) (by simp only [List.map_toArray, List.map_cons, List.map_nil, show act.eval (.tmp 8) = _ from h1, show act.eval (.tmp 10) = _ from h3, show act.eval (.tmp 12) = _ from h5]; try rfl)) (Of_any a b h bs v _ HA.out HB.out HH.out.1 HH.out.2 (HR.out.mod (KM.out.trans hm (fun _ _ h => h)) (fun _ _ _ h => h)) HLB.out) ?_
    rintro e w2 ⟨rfl, hm2⟩
    exact ⟨_, rfl, hm2, rfl⟩
  · intro tr act w' hm hout hsz hd hG hk hub
    have h0 := hd ⟨0, .data⟩ (by simp) rfl _ rfl
    have h6 := hd ⟨6, .data⟩ (by simp) rfl _ rfl
    exact jg_run (by rfl) rfl (wanted_none rfl) (ex_bin rfl h0 h6 (hv_guard2 _ _ _ _ _ _) (run_eql_ints _ 28 5 32 Try.underlying28 Try.underlying5 (by kernel_rfl) x (shaF (ofT a b h bs)) HX.out (shaF_len _))) (Mod.refl _ _) rfl
  · intro tr act w' hm hout hsz hd hG hk hub
    have h7 := hd ⟨7, .data⟩ (by simp) rfl _ rfl
    exact jg_run (by rfl) rfl (wanted_none rfl) (ex_assign rfl h7) (Mod.refl _ _) rfl
  intro vs tr w2 hl htl hm hG hV
  obtain ⟨v0, vs0, rfl, hl0⟩ := list_cons hl
  obtain ⟨v1, vs1, rfl, hl1⟩ := list_cons hl0
  obtain ⟨v2, vs2, rfl, hl2⟩ := list_cons hl1
  obtain ⟨v3, vs3, rfl, hl3⟩ := list_cons hl2
  obtain ⟨v4, vs4, rfl, hl4⟩ := list_cons hl3
  obtain ⟨v5, vs5, rfl, hl5⟩ := list_cons hl4
  obtain ⟨v6, vs6, rfl, hl6⟩ := list_cons hl5
  obtain ⟨v7, vs7, rfl, hl7⟩ := list_cons hl6
  obtain ⟨v8, vs8, rfl, hl8⟩ := list_cons hl7
  obtain rfl := list_nil hl8
  clear hl hl0 hl1 hl2 hl3 hl4 hl5 hl6 hl7 hl8
  obtain rfl : v8 = .bool (decide (x = shaF (ofT a b h bs))) := hV 8 _ rfl
  have ha0 := HA0.out
  subst ha0
  clear HA0 hV hsz0 oe3 oe4 oe5
  simp only [putAll, Act.put, List.setIfInBounds_toArray, List.set_cons_zero, List.set_cons_succ]
  have KM2 := Lib.hid (KM.out.trans hm (fun _ _ h => h))
  clear hm hG
  go_wp2
  go_ret
  exact ⟨rfl, KM2.out⟩
end Go.Proofs.Ytgnmdnmmemdemaa
