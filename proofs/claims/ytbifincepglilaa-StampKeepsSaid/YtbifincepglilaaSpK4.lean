/- Texts that are built one behind the other: XCm4, XCm5, XCm6, XTy, XPt1, XPt2. No condition. -/
import Derived.Test.YtbifincepglilaaSpK3
set_option maxRecDepth 100000
set_option linter.unusedVariables false
/- commit.signer, Valid, Matches. -/
namespace Go.Proofs.Ytbifincepglilaa
open Go Go.RowKit Go.Gv

theorem signer_any (n : Int) (w : World) (h : I64 (1000 + n)) : Calls Try.prog 28 #[.int .i64 n] w fun e w' => e = .returned (.int .i64 (1000 + n)) ∧ Mod (fun _ => False) w w' := by
 go_enter Try.func28, Try.ntmps28
 go_wp2
 go_ret
 exact ⟨congrArg (fun z => Ending.returned (Value.int .i64 z)) (by have h' := h; unfold I64 at h'; unfold wrap64; omega), by first | exact Mod.refl _ _ | exact (Mod.refl _ _).drew⟩
def validF (k : Int) (c : Cm) : Bool := decide (0 ≤ c.cl) && decide (c.cl < k) && decide (1 ≤ c.sq) && decide (c.sq ≤ 1048576) && decide (0 ≤ c.ln) && decide (c.ln ≤ 256)
set_option maxHeartbeats 4000000 in
theorem Valid_any (f k : Int) (c : Cm) (hc : c.OK) (w : World) : Calls Try.prog 50 #[.agg #[.int .i64 f, .int .i64 k], c.val] w fun e w' => e = .returned (.bool (validF k c)) ∧ Mod (fun _ => False) w w' := by
 have HL := Lib.hid hc.2.1
 clear hc
 change Calls _ _ #[.agg #[.int .i64 f, .int .i64 k], .agg c.cells.toArray] _ _
 go_enter Try.func50, Try.ntmps50
 go_upto_region 1 with (fail)
 obtain ⟨w1, hw1⟩ : ∃ x, x = (w.alloc (.cells #[.int .i64 f, .int .i64 k] 26)).alloc (.cells c.cells.toArray 36) := ⟨_, rfl⟩
 change Code.wp _ _ _ _ ((w.alloc (.cells #[.int .i64 f, .int .i64 k] 26)).alloc (.cells c.cells.toArray 36))
 rw [← hw1]
 have KF := Lib.hid (show Cs w1 w.heap.size #[.int .i64 f, .int .i64 k] 26 by rw [hw1]; exact (Cs.new _ _ _).alloc _)
 have KX := Lib.hid (show Cs w1 (w.heap.size + 1) c.cells.toArray 36 by rw [hw1]; exact Cs_new1 _ _ _ _)
 have KM := Lib.hid (show Mod (fun _ => False) w w1 by rw [hw1]; exact ((Mod.refl _ _).alloc _).alloc _)
 have hs1 : w1.heap.size = w.heap.size + 2 := by rw [hw1]; simp
 clear hw1
 generalize ha0 : Act.mk _ _ = a0
 have oe3 : a0.eval (.tmp 3) = .pointer (some ⟨w.heap.size + 1, 0, none⟩) := by rw [← ha0]; rfl
 have hsz0 : a0.tmps.size = 38 := by rw [← ha0]; rfl
 have HA0 := Lib.hid ha0
 clear ha0
 refine wp_region_A 38 hsz0 (by kernel_rfl) (by kernel_rfl) [6, 7, 5, 41] (by kernel_rfl) (by decide) (fun j => w1.heap.size ≤ j) (fun _ _ => False) (fun _ _ h => h.elim) Still (fun _ _ _ h => h) (fun _ _ _ hm h => hm.trans h (fun _ _ h => h.elim)) [gi (.pointer (some ⟨w.heap.size + 1, 0, none⟩)), gi (.agg #[.int .i64 c.cl, .int .i64 c.sq]), ga, ga] ⟨gi_stable, gi_stable, ga_stable, ga_stable, trivial⟩ [] (by kernel_rfl) (by decide) (by kernel_rfl) (fun _ _ => True) (fun _ _ _ _ _ => trivial) trivial [⟨2, 3, 30, [.int .i64 0, .int .i64 0], [.int .i64 c.cl, .int .i64 c.sq]⟩] (by kernel_rfl) (by intro r hr; simp only [List.mem_cons, List.not_mem_nil, or_false] at hr; rcases hr with rfl <;> exact ⟨rfl, rfl⟩) (fun _ _ h => h.elim) (fun _ h => h) stillA (fun _ _ _ _ _ _ => trivial) (AllEnd.get _ ⟨gi_end, gi_end, ga_end, ga_end, trivial⟩) (by intro r hr; simp only [List.mem_cons, List.not_mem_nil, or_false] at hr; rcases hr with rfl <;> exact ⟨of_decide_eq_true (by kernel_rfl), of_decide_eq_true (by kernel_rfl)⟩) (by intro r hr; simp only [List.mem_cons, List.not_mem_nil, or_false] at hr; rcases hr with rfl <;> exact fun _ _ _ => ⟨trivial, trivial⟩) ⟨?_, ?_, ?_, ?_, trivial⟩ ?_
 ·refine ⟨fun r hr e => ?_, fun r hr e => ?_, fun hno => ?_⟩
  ·simp only [List.mem_cons, List.not_mem_nil, or_false] at hr
   rcases hr with rfl
   ·simp at e
  ·simp only [List.mem_cons, List.not_mem_nil, or_false] at hr
   rcases hr with rfl
   ·simp at e
  ·intro tr act w' hm hout hsz hd hG hk hub
   refine jg_run (by rfl) rfl (wanted_none rfl) (ex_field rfl Try.underlying36 rfl (by kernel_rfl) ((hout 3 (by decide)).trans oe3)) (Mod.refl _ _) ?_
   rfl
 ·refine ⟨fun r hr e => ?_, fun r hr e => ?_, fun hno => ?_⟩
  ·simp only [List.mem_cons, List.not_mem_nil, or_false] at hr
   rcases hr with rfl
   ·simp at e
  ·simp only [List.mem_cons, List.not_mem_nil, or_false] at hr
   rcases hr with rfl
   ·simp at e
  ·intro tr act w' hm hout hsz hd hG hk hub
   have h0 := hd ⟨0, .data⟩ (by simp) rfl _ rfl
   exact jg_run (by rfl) rfl (wanted_none rfl) (ex_loadA rfl Try.underlying30 rfl (off := 0) (cs := [.int .i64 c.cl, .int .i64 c.sq]) (by kernel_rfl) h0 (Cs.name (KX.out.mod hm (by omega)))) (Mod.refl _ _) rfl
 ·refine ⟨fun r hr e => ?_, fun r hr e => ?_, fun hno => ?_⟩
  ·simp only [List.mem_cons, List.not_mem_nil, or_false] at hr
   rcases hr with rfl
   ·exact ⟨rfl, rfl, by kernel_rfl, rfl, (by intro u hu; simp at hu; rcases hu with rfl | rfl <;> rfl), (by kernel_rfl)⟩
  ·simp only [List.mem_cons, List.not_mem_nil, or_false] at hr
   rcases hr with rfl
   ·simp at e
  ·exact absurd rfl (hno ⟨2, 3, 30, [.int .i64 0, .int .i64 0], [.int .i64 c.cl, .int .i64 c.sq]⟩ (by simp)).1
 ·refine ⟨fun r hr e => ?_, fun r hr e => ?_, fun hno => ?_⟩
  ·simp only [List.mem_cons, List.not_mem_nil, or_false] at hr
   rcases hr with rfl
   ·simp at e
  ·simp only [List.mem_cons, List.not_mem_nil, or_false] at hr
   rcases hr with rfl
   ·refine ⟨rfl, _, (.tmp 7), rfl, by decide, rfl, by kernel_rfl, by kernel_rfl, fun tr act w' hm hout hd hG => ?_⟩
    have h1 := hd ⟨1, .data⟩ (by simp) rfl _ rfl
    rw [show act.eval ((.tmp 7)) = _ from h1]
    rfl
  ·exact absurd rfl (hno ⟨2, 3, 30, [.int .i64 0, .int .i64 0], [.int .i64 c.cl, .int .i64 c.sq]⟩ (by simp)).2
 intro vs tr w2 hl htl hm hG hV hAL hNE
 obtain ⟨v0, vs0, rfl, hl0⟩ := list_cons hl
 obtain ⟨v1, vs1, rfl, hl1⟩ := list_cons hl0
 obtain ⟨v2, vs2, rfl, hl2⟩ := list_cons hl1
 obtain ⟨v3, vs3, rfl, hl3⟩ := list_cons hl2
 obtain rfl := list_nil hl3
 obtain ⟨q0, fq0, hqB0, hqC0⟩ := hAL _ (by simp only [List.mem_cons, List.not_mem_nil, or_false]; trivial)
 obtain rfl : v2 = _ := Option.some.inj fq0
 clear hl hl0 hl1 hl2 hl3
 have ha0 := HA0.out
 subst ha0
 clear HA0 hV hsz0 oe3
 simp only [putAll, Act.put, List.setIfInBounds_toArray, List.set_cons_zero, List.set_cons_succ, List.set_nil]
 have KQ := Lib.hid (show Cs w2 q0 #[.int .i64 c.cl, .int .i64 c.sq] 30 from hqC0)
 have KF2 := Lib.hid (KF.out.mod hm (by omega))
 have KX2 := Lib.hid (KX.out.mod hm (by omega))
 have KM2 := Lib.hid (KM.out.trans hm (fun k h1 h2 => by omega))
 clear hm hG hAL hNE hqC0 fq0 KF KX KM
 by_cases c0 : 0 ≤ c.cl
 ·have E0 := Lib.hid (decide_eq_true c0)
  clear c0
  by_cases c1 : c.cl < k
  ·have E1 := Lib.hid (decide_eq_true c1)
   clear c1
   by_cases c2 : 1 ≤ c.sq
   ·have E2 := Lib.hid (decide_eq_true c2)
    clear c2
    by_cases c3 : c.sq ≤ 1048576
    ·have E3 := Lib.hid (decide_eq_true c3)
     clear c3
     by_cases c4 : 0 ≤ c.ln
     ·have E4 := Lib.hid (decide_eq_true c4)
      clear c4
      by_cases c5 : c.ln ≤ 256
      ·have E5 := Lib.hid (decide_eq_true c5)
       clear c5
       go_upto_region 2 with (fail)
       generalize ha0 : Act.mk _ _ = a0
       have oe2 : a0.eval (.tmp 2) = .pointer (some ⟨w.heap.size, 0, none⟩) := by rw [← ha0]; rfl
       have oe3 : a0.eval (.tmp 3) = .pointer (some ⟨w.heap.size + 1, 0, none⟩) := by rw [← ha0]; rfl
       have oe5 : a0.eval (.tmp 5) = .pointer (some ⟨q0, 0, none⟩) := by rw [← ha0]; rfl
       have hsz0 : a0.tmps.size = 38 := by rw [← ha0]; rfl
       have HA0 := Lib.hid ha0
       clear ha0
       refine wp_region_G 38 hsz0 (by kernel_rfl) (by kernel_rfl) [8, 9, 10, 11, 12, 13, 14, 15, 16, 17, 18, 19, 20, 21, 22, 23, 24, 25, 26, 27, 28, 29, 30, 31, 32, 33, 34, 35, 36, 37, 4] (by kernel_rfl) (by decide) (fun _ => False) (fun _ _ => False) (fun _ _ h => h) Still (fun _ _ _ h => h) (fun _ _ _ hm h => hm.trans h (fun _ _ h => h.elim)) [gi (.pointer (some ⟨q0, 0, none⟩)), gi (.int .i64 c.cl), gi (.bool true), gi (.bool true), gi (.pointer (some ⟨q0, 0, none⟩)), gi (.int .i64 c.cl), gi (.pointer (some ⟨w.heap.size, 1, none⟩)), gi (.int .i64 k), gi (.bool true), gi (.bool true), gi (.bool true), gi (.pointer (some ⟨q0, 1, none⟩)), gi (.int .i64 c.sq), gi (.bool true), gi (.bool true), gi (.bool true), gi (.pointer (some ⟨q0, 1, none⟩)), gi (.int .i64 c.sq), gi (.bool true), gi (.bool true), gi (.bool true), gi (.pointer (some ⟨w.heap.size + 1, 34, none⟩)), gi (.int .i64 c.ln), gi (.bool true), gi (.bool true), gi (.bool true), gi (.pointer (some ⟨w.heap.size + 1, 34, none⟩)), gi (.int .i64 c.ln), gi (.bool true), gi (.bool true), gi (.bool true)] ⟨gi_stable, gi_stable, gi_stable, gi_stable, gi_stable, gi_stable, gi_stable, gi_stable, gi_stable, gi_stable, gi_stable, gi_stable, gi_stable, gi_stable, gi_stable, gi_stable, gi_stable, gi_stable, gi_stable, gi_stable, gi_stable, gi_stable, gi_stable, gi_stable, gi_stable, gi_stable, gi_stable, gi_stable, gi_stable, gi_stable, gi_stable, trivial⟩ [] (by kernel_rfl) (by decide) (by kernel_rfl) (fun _ _ => True) (fun _ _ _ _ _ => trivial) trivial ⟨?_, ?_, ?_, ?_, ?_, ?_, ?_, ?_, ?_, ?_, ?_, ?_, ?_, ?_, ?_, ?_, ?_, ?_, ?_, ?_, ?_, ?_, ?_, ?_, ?_, ?_, ?_, ?_, ?_, ?_, ?_, trivial⟩ ?_
       ·intro tr act w' hm hout hsz hd hG hk hub
        refine jg_run (by rfl) rfl (wanted_none rfl) (ex_field rfl Try.underlying30 rfl (by kernel_rfl) ((hout 5 (by decide)).trans oe5)) (Mod.refl _ _) ?_
        rfl
       ·intro tr act w' hm hout hsz hd hG hk hub
        have h0 := hd ⟨0, .data⟩ (by simp) rfl _ rfl
        exact jg_run (by rfl) rfl (wanted_none rfl) (ex_load1 rfl Try.underlying3 rfl h0 (by rw [(KQ.out.mod hm (fun h => h)).cell]; rfl)) (Mod.refl _ _) rfl
       ·intro tr act w' hm hout hsz hd hG hk hub
        have h1 := hd ⟨1, .data⟩ (by simp) rfl _ rfl
        refine jg_run (by rfl) rfl (wanted_none rfl) (ex_bin rfl h1 rfl (guard_ints _ _ _ _ _ _) (run_geq_i _ _ _ Try.underlying3)) (Mod.refl _ _) ?_
        exact congrArg Value.bool E0.out
       ·intro tr act w' hm hout hsz hd hG hk hub
        have h2 := hd ⟨2, .data⟩ (by simp) rfl _ rfl
        exact jg_run (by rfl) rfl (wanted_none rfl) (ex_move rfl h2) (Mod.refl _ _) rfl
       ·intro tr act w' hm hout hsz hd hG hk hub
        have h3 := hd ⟨3, .guard⟩ (by simp) rfl _ rfl
        refine jg_run (by rfl) rfl ((wanted_of rfl rfl (hsz 11 (by decide)) h3).trans rfl) (ex_field rfl Try.underlying30 rfl (by kernel_rfl) ((hout 5 (by decide)).trans oe5)) (Mod.refl _ _) ?_
        rfl
       ·intro tr act w' hm hout hsz hd hG hk hub
        have h3 := hd ⟨3, .guard⟩ (by simp) rfl _ rfl
        have h4 := hd ⟨4, .data⟩ (by simp) rfl _ rfl
        exact jg_run (by rfl) rfl ((wanted_of rfl rfl (hsz 11 (by decide)) h3).trans rfl) (ex_load1 rfl Try.underlying3 rfl h4 (by rw [(KQ.out.mod hm (fun h => h)).cell]; rfl)) (Mod.refl _ _) rfl
       ·intro tr act w' hm hout hsz hd hG hk hub
        have h3 := hd ⟨3, .guard⟩ (by simp) rfl _ rfl
        refine jg_run (by rfl) rfl ((wanted_of rfl rfl (hsz 11 (by decide)) h3).trans rfl) (ex_field rfl Try.underlying26 rfl (by kernel_rfl) ((hout 2 (by decide)).trans oe2)) (Mod.refl _ _) ?_
        rfl
       ·intro tr act w' hm hout hsz hd hG hk hub
        have h3 := hd ⟨3, .guard⟩ (by simp) rfl _ rfl
        have h6 := hd ⟨6, .data⟩ (by simp) rfl _ rfl
        exact jg_run (by rfl) rfl ((wanted_of rfl rfl (hsz 11 (by decide)) h3).trans rfl) (ex_load1 rfl Try.underlying3 rfl h6 (by rw [(KF2.out.mod hm (fun h => h)).cell]; rfl)) (Mod.refl _ _) rfl
       ·intro tr act w' hm hout hsz hd hG hk hub
        have h3 := hd ⟨3, .guard⟩ (by simp) rfl _ rfl
        have h5 := hd ⟨5, .data⟩ (by simp) rfl _ rfl
        have h7 := hd ⟨7, .data⟩ (by simp) rfl _ rfl
        refine jg_run (by rfl) rfl ((wanted_of rfl rfl (hsz 11 (by decide)) h3).trans rfl) (ex_bin rfl h5 h7 (guard_ints _ _ _ _ _ _) (run_lss_i _ _ _ Try.underlying3)) (Mod.refl _ _) ?_
        exact congrArg Value.bool E1.out
       ·intro tr act w' hm hout hsz hd hG hk hub
        have h3 := hd ⟨3, .data⟩ (by simp) rfl _ rfl
        have h8 := hd ⟨8, .data⟩ (by simp) rfl _ rfl
        exact jg_run (by rfl) rfl (wanted_none rfl) (ex_pick rfl h3 h8 rfl) (Mod.refl _ _) rfl
       ·intro tr act w' hm hout hsz hd hG hk hub
        have h9 := hd ⟨9, .data⟩ (by simp) rfl _ rfl
        exact jg_run (by rfl) rfl (wanted_none rfl) (ex_move rfl h9) (Mod.refl _ _) rfl
       ·intro tr act w' hm hout hsz hd hG hk hub
        have h10 := hd ⟨10, .guard⟩ (by simp) rfl _ rfl
        refine jg_run (by rfl) rfl ((wanted_of rfl rfl (hsz 18 (by decide)) h10).trans rfl) (ex_field rfl Try.underlying30 rfl (by kernel_rfl) ((hout 5 (by decide)).trans oe5)) (Mod.refl _ _) ?_
        rfl
       ·intro tr act w' hm hout hsz hd hG hk hub
        have h10 := hd ⟨10, .guard⟩ (by simp) rfl _ rfl
        have h11 := hd ⟨11, .data⟩ (by simp) rfl _ rfl
        exact jg_run (by rfl) rfl ((wanted_of rfl rfl (hsz 18 (by decide)) h10).trans rfl) (ex_load1 rfl Try.underlying3 rfl h11 (by rw [(KQ.out.mod hm (fun h => h)).cell]; rfl)) (Mod.refl _ _) rfl
       ·intro tr act w' hm hout hsz hd hG hk hub
        have h10 := hd ⟨10, .guard⟩ (by simp) rfl _ rfl
        have h12 := hd ⟨12, .data⟩ (by simp) rfl _ rfl
        refine jg_run (by rfl) rfl ((wanted_of rfl rfl (hsz 18 (by decide)) h10).trans rfl) (ex_bin rfl h12 rfl (guard_ints _ _ _ _ _ _) (run_geq_i _ _ _ Try.underlying3)) (Mod.refl _ _) ?_
        exact congrArg Value.bool E2.out
       ·intro tr act w' hm hout hsz hd hG hk hub
        have h10 := hd ⟨10, .data⟩ (by simp) rfl _ rfl
        have h13 := hd ⟨13, .data⟩ (by simp) rfl _ rfl
        exact jg_run (by rfl) rfl (wanted_none rfl) (ex_pick rfl h10 h13 rfl) (Mod.refl _ _) rfl
       ·intro tr act w' hm hout hsz hd hG hk hub
        have h14 := hd ⟨14, .data⟩ (by simp) rfl _ rfl
        exact jg_run (by rfl) rfl (wanted_none rfl) (ex_move rfl h14) (Mod.refl _ _) rfl
       ·intro tr act w' hm hout hsz hd hG hk hub
        have h15 := hd ⟨15, .guard⟩ (by simp) rfl _ rfl
        refine jg_run (by rfl) rfl ((wanted_of rfl rfl (hsz 23 (by decide)) h15).trans rfl) (ex_field rfl Try.underlying30 rfl (by kernel_rfl) ((hout 5 (by decide)).trans oe5)) (Mod.refl _ _) ?_
        rfl
       ·intro tr act w' hm hout hsz hd hG hk hub
        have h15 := hd ⟨15, .guard⟩ (by simp) rfl _ rfl
        have h16 := hd ⟨16, .data⟩ (by simp) rfl _ rfl
        exact jg_run (by rfl) rfl ((wanted_of rfl rfl (hsz 23 (by decide)) h15).trans rfl) (ex_load1 rfl Try.underlying3 rfl h16 (by rw [(KQ.out.mod hm (fun h => h)).cell]; rfl)) (Mod.refl _ _) rfl
       ·intro tr act w' hm hout hsz hd hG hk hub
        have h15 := hd ⟨15, .guard⟩ (by simp) rfl _ rfl
        have h17 := hd ⟨17, .data⟩ (by simp) rfl _ rfl
        refine jg_run (by rfl) rfl ((wanted_of rfl rfl (hsz 23 (by decide)) h15).trans rfl) (ex_bin rfl h17 rfl (guard_ints _ _ _ _ _ _) (run_leq_i _ _ _ Try.underlying3)) (Mod.refl _ _) ?_
        exact congrArg Value.bool E3.out
       ·intro tr act w' hm hout hsz hd hG hk hub
        have h15 := hd ⟨15, .data⟩ (by simp) rfl _ rfl
        have h18 := hd ⟨18, .data⟩ (by simp) rfl _ rfl
        exact jg_run (by rfl) rfl (wanted_none rfl) (ex_pick rfl h15 h18 rfl) (Mod.refl _ _) rfl
       ·intro tr act w' hm hout hsz hd hG hk hub
        have h19 := hd ⟨19, .data⟩ (by simp) rfl _ rfl
        exact jg_run (by rfl) rfl (wanted_none rfl) (ex_move rfl h19) (Mod.refl _ _) rfl
       ·intro tr act w' hm hout hsz hd hG hk hub
        have h20 := hd ⟨20, .guard⟩ (by simp) rfl _ rfl
        refine jg_run (by rfl) rfl ((wanted_of rfl rfl (hsz 28 (by decide)) h20).trans rfl) (ex_field rfl Try.underlying36 rfl (by kernel_rfl) ((hout 3 (by decide)).trans oe3)) (Mod.refl _ _) ?_
        rfl
       ·intro tr act w' hm hout hsz hd hG hk hub
        have h20 := hd ⟨20, .guard⟩ (by simp) rfl _ rfl
        have h21 := hd ⟨21, .data⟩ (by simp) rfl _ rfl
        exact jg_run (by rfl) rfl ((wanted_of rfl rfl (hsz 28 (by decide)) h20).trans rfl) (ex_load1 rfl Try.underlying3 rfl h21 ((KX2.out.mod hm (fun h => h)).c34 HL.out)) (Mod.refl _ _) rfl
       ·intro tr act w' hm hout hsz hd hG hk hub
        have h20 := hd ⟨20, .guard⟩ (by simp) rfl _ rfl
        have h22 := hd ⟨22, .data⟩ (by simp) rfl _ rfl
        refine jg_run (by rfl) rfl ((wanted_of rfl rfl (hsz 28 (by decide)) h20).trans rfl) (ex_bin rfl h22 rfl (guard_ints _ _ _ _ _ _) (run_geq_i _ _ _ Try.underlying3)) (Mod.refl _ _) ?_
        exact congrArg Value.bool E4.out
       ·intro tr act w' hm hout hsz hd hG hk hub
        have h20 := hd ⟨20, .data⟩ (by simp) rfl _ rfl
        have h23 := hd ⟨23, .data⟩ (by simp) rfl _ rfl
        exact jg_run (by rfl) rfl (wanted_none rfl) (ex_pick rfl h20 h23 rfl) (Mod.refl _ _) rfl
       ·intro tr act w' hm hout hsz hd hG hk hub
        have h24 := hd ⟨24, .data⟩ (by simp) rfl _ rfl
        exact jg_run (by rfl) rfl (wanted_none rfl) (ex_move rfl h24) (Mod.refl _ _) rfl
       ·intro tr act w' hm hout hsz hd hG hk hub
        have h25 := hd ⟨25, .guard⟩ (by simp) rfl _ rfl
        refine jg_run (by rfl) rfl ((wanted_of rfl rfl (hsz 33 (by decide)) h25).trans rfl) (ex_field rfl Try.underlying36 rfl (by kernel_rfl) ((hout 3 (by decide)).trans oe3)) (Mod.refl _ _) ?_
        rfl
       ·intro tr act w' hm hout hsz hd hG hk hub
        have h25 := hd ⟨25, .guard⟩ (by simp) rfl _ rfl
        have h26 := hd ⟨26, .data⟩ (by simp) rfl _ rfl
        exact jg_run (by rfl) rfl ((wanted_of rfl rfl (hsz 33 (by decide)) h25).trans rfl) (ex_load1 rfl Try.underlying3 rfl h26 ((KX2.out.mod hm (fun h => h)).c34 HL.out)) (Mod.refl _ _) rfl
       ·intro tr act w' hm hout hsz hd hG hk hub
        have h25 := hd ⟨25, .guard⟩ (by simp) rfl _ rfl
        have h27 := hd ⟨27, .data⟩ (by simp) rfl _ rfl
        refine jg_run (by rfl) rfl ((wanted_of rfl rfl (hsz 33 (by decide)) h25).trans rfl) (ex_bin rfl h27 rfl (guard_ints _ _ _ _ _ _) (run_leq_i _ _ _ Try.underlying3)) (Mod.refl _ _) ?_
        exact congrArg Value.bool E5.out
       ·intro tr act w' hm hout hsz hd hG hk hub
        have h25 := hd ⟨25, .data⟩ (by simp) rfl _ rfl
        have h28 := hd ⟨28, .data⟩ (by simp) rfl _ rfl
        exact jg_run (by rfl) rfl (wanted_none rfl) (ex_pick rfl h25 h28 rfl) (Mod.refl _ _) rfl
       ·intro tr act w' hm hout hsz hd hG hk hub
        have h29 := hd ⟨29, .data⟩ (by simp) rfl _ rfl
        exact jg_run (by rfl) rfl (wanted_none rfl) (ex_assign rfl h29) (Mod.refl _ _) rfl
       intro vs tr w3 hl htl hm hG hV
       obtain ⟨v0, vs0, rfl, hl0⟩ := list_cons hl
       obtain ⟨v1, vs1, rfl, hl1⟩ := list_cons hl0
       obtain ⟨v2, vs2, rfl, hl2⟩ := list_cons hl1
       obtain ⟨v3, vs3, rfl, hl3⟩ := list_cons hl2
       obtain ⟨v4, vs4, rfl, hl4⟩ := list_cons hl3
       obtain ⟨v5, vs5, rfl, hl5⟩ := list_cons hl4
       obtain ⟨v6, vs6, rfl, hl6⟩ := list_cons hl5
       obtain ⟨v7, vs7, rfl, hl7⟩ := list_cons hl6
       obtain ⟨v8, vs8, rfl, hl8⟩ := list_cons hl7
       obtain ⟨v9, vs9, rfl, hl9⟩ := list_cons hl8
       obtain ⟨v10, vs10, rfl, hl10⟩ := list_cons hl9
       obtain ⟨v11, vs11, rfl, hl11⟩ := list_cons hl10
       obtain ⟨v12, vs12, rfl, hl12⟩ := list_cons hl11
       obtain ⟨v13, vs13, rfl, hl13⟩ := list_cons hl12
       obtain ⟨v14, vs14, rfl, hl14⟩ := list_cons hl13
       obtain ⟨v15, vs15, rfl, hl15⟩ := list_cons hl14
       obtain ⟨v16, vs16, rfl, hl16⟩ := list_cons hl15
       obtain ⟨v17, vs17, rfl, hl17⟩ := list_cons hl16
       obtain ⟨v18, vs18, rfl, hl18⟩ := list_cons hl17
       obtain ⟨v19, vs19, rfl, hl19⟩ := list_cons hl18
       obtain ⟨v20, vs20, rfl, hl20⟩ := list_cons hl19
       obtain ⟨v21, vs21, rfl, hl21⟩ := list_cons hl20
       obtain ⟨v22, vs22, rfl, hl22⟩ := list_cons hl21
       obtain ⟨v23, vs23, rfl, hl23⟩ := list_cons hl22
       obtain ⟨v24, vs24, rfl, hl24⟩ := list_cons hl23
       obtain ⟨v25, vs25, rfl, hl25⟩ := list_cons hl24
       obtain ⟨v26, vs26, rfl, hl26⟩ := list_cons hl25
       obtain ⟨v27, vs27, rfl, hl27⟩ := list_cons hl26
       obtain ⟨v28, vs28, rfl, hl28⟩ := list_cons hl27
       obtain ⟨v29, vs29, rfl, hl29⟩ := list_cons hl28
       obtain ⟨v30, vs30, rfl, hl30⟩ := list_cons hl29
       obtain rfl := list_nil hl30
       clear hl hl0 hl1 hl2 hl3 hl4 hl5 hl6 hl7 hl8 hl9 hl10 hl11 hl12 hl13 hl14 hl15 hl16 hl17 hl18 hl19 hl20 hl21 hl22 hl23 hl24 hl25 hl26 hl27 hl28 hl29 hl30
       obtain rfl : v30 = .bool true := hV 30 _ rfl
       have ha0 := HA0.out
       subst ha0
       clear HA0 hV hsz0 oe2 oe3 oe5
       simp only [putAll, Act.put, List.setIfInBounds_toArray, List.set_cons_zero, List.set_cons_succ]
       have KM3 := Lib.hid (KM2.out.trans hm (fun _ _ h => h))
       clear hm hG
       go_wp2
       go_ret
       exact ⟨congrArg (fun z => Ending.returned (Value.bool z)) (show true = validF k c by unfold validF; (simp only [E0.out, E1.out, E2.out, E3.out, E4.out, E5.out, Bool.true_and] <;> rfl)), KM3.out⟩
      ·have E5 := Lib.hid (decide_eq_false c5)
       clear c5
       go_upto_region 2 with (fail)
       generalize ha0 : Act.mk _ _ = a0
       have oe2 : a0.eval (.tmp 2) = .pointer (some ⟨w.heap.size, 0, none⟩) := by rw [← ha0]; rfl
       have oe3 : a0.eval (.tmp 3) = .pointer (some ⟨w.heap.size + 1, 0, none⟩) := by rw [← ha0]; rfl
       have oe5 : a0.eval (.tmp 5) = .pointer (some ⟨q0, 0, none⟩) := by rw [← ha0]; rfl
       have hsz0 : a0.tmps.size = 38 := by rw [← ha0]; rfl
       have HA0 := Lib.hid ha0
       clear ha0
       refine wp_region_G 38 hsz0 (by kernel_rfl) (by kernel_rfl) [8, 9, 10, 11, 12, 13, 14, 15, 16, 17, 18, 19, 20, 21, 22, 23, 24, 25, 26, 27, 28, 29, 30, 31, 32, 33, 34, 35, 36, 37, 4] (by kernel_rfl) (by decide) (fun _ => False) (fun _ _ => False) (fun _ _ h => h) Still (fun _ _ _ h => h) (fun _ _ _ hm h => hm.trans h (fun _ _ h => h.elim)) [gi (.pointer (some ⟨q0, 0, none⟩)), gi (.int .i64 c.cl), gi (.bool true), gi (.bool true), gi (.pointer (some ⟨q0, 0, none⟩)), gi (.int .i64 c.cl), gi (.pointer (some ⟨w.heap.size, 1, none⟩)), gi (.int .i64 k), gi (.bool true), gi (.bool true), gi (.bool true), gi (.pointer (some ⟨q0, 1, none⟩)), gi (.int .i64 c.sq), gi (.bool true), gi (.bool true), gi (.bool true), gi (.pointer (some ⟨q0, 1, none⟩)), gi (.int .i64 c.sq), gi (.bool true), gi (.bool true), gi (.bool true), gi (.pointer (some ⟨w.heap.size + 1, 34, none⟩)), gi (.int .i64 c.ln), gi (.bool true), gi (.bool true), gi (.bool true), gi (.pointer (some ⟨w.heap.size + 1, 34, none⟩)), gi (.int .i64 c.ln), gi (.bool false), gi (.bool false), gi (.bool false)] ⟨gi_stable, gi_stable, gi_stable, gi_stable, gi_stable, gi_stable, gi_stable, gi_stable, gi_stable, gi_stable, gi_stable, gi_stable, gi_stable, gi_stable, gi_stable, gi_stable, gi_stable, gi_stable, gi_stable, gi_stable, gi_stable, gi_stable, gi_stable, gi_stable, gi_stable, gi_stable, gi_stable, gi_stable, gi_stable, gi_stable, gi_stable, trivial⟩ [] (by kernel_rfl) (by decide) (by kernel_rfl) (fun _ _ => True) (fun _ _ _ _ _ => trivial) trivial ⟨?_, ?_, ?_, ?_, ?_, ?_, ?_, ?_, ?_, ?_, ?_, ?_, ?_, ?_, ?_, ?_, ?_, ?_, ?_, ?_, ?_, ?_, ?_, ?_, ?_, ?_, ?_, ?_, ?_, ?_, ?_, trivial⟩ ?_
       ·intro tr act w' hm hout hsz hd hG hk hub
        refine jg_run (by rfl) rfl (wanted_none rfl) (ex_field rfl Try.underlying30 rfl (by kernel_rfl) ((hout 5 (by decide)).trans oe5)) (Mod.refl _ _) ?_
        rfl
       ·intro tr act w' hm hout hsz hd hG hk hub
        have h0 := hd ⟨0, .data⟩ (by simp) rfl _ rfl
        exact jg_run (by rfl) rfl (wanted_none rfl) (ex_load1 rfl Try.underlying3 rfl h0 (by rw [(KQ.out.mod hm (fun h => h)).cell]; rfl)) (Mod.refl _ _) rfl
       ·intro tr act w' hm hout hsz hd hG hk hub
        have h1 := hd ⟨1, .data⟩ (by simp) rfl _ rfl
        refine jg_run (by rfl) rfl (wanted_none rfl) (ex_bin rfl h1 rfl (guard_ints _ _ _ _ _ _) (run_geq_i _ _ _ Try.underlying3)) (Mod.refl _ _) ?_
        exact congrArg Value.bool E0.out
       ·intro tr act w' hm hout hsz hd hG hk hub
        have h2 := hd ⟨2, .data⟩ (by simp) rfl _ rfl
        exact jg_run (by rfl) rfl (wanted_none rfl) (ex_move rfl h2) (Mod.refl _ _) rfl
       ·intro tr act w' hm hout hsz hd hG hk hub
        have h3 := hd ⟨3, .guard⟩ (by simp) rfl _ rfl
        refine jg_run (by rfl) rfl ((wanted_of rfl rfl (hsz 11 (by decide)) h3).trans rfl) (ex_field rfl Try.underlying30 rfl (by kernel_rfl) ((hout 5 (by decide)).trans oe5)) (Mod.refl _ _) ?_
        rfl
       ·intro tr act w' hm hout hsz hd hG hk hub
        have h3 := hd ⟨3, .guard⟩ (by simp) rfl _ rfl
        have h4 := hd ⟨4, .data⟩ (by simp) rfl _ rfl
        exact jg_run (by rfl) rfl ((wanted_of rfl rfl (hsz 11 (by decide)) h3).trans rfl) (ex_load1 rfl Try.underlying3 rfl h4 (by rw [(KQ.out.mod hm (fun h => h)).cell]; rfl)) (Mod.refl _ _) rfl
       ·intro tr act w' hm hout hsz hd hG hk hub
        have h3 := hd ⟨3, .guard⟩ (by simp) rfl _ rfl
        refine jg_run (by rfl) rfl ((wanted_of rfl rfl (hsz 11 (by decide)) h3).trans rfl) (ex_field rfl Try.underlying26 rfl (by kernel_rfl) ((hout 2 (by decide)).trans oe2)) (Mod.refl _ _) ?_
        rfl
       ·intro tr act w' hm hout hsz hd hG hk hub
        have h3 := hd ⟨3, .guard⟩ (by simp) rfl _ rfl
        have h6 := hd ⟨6, .data⟩ (by simp) rfl _ rfl
        exact jg_run (by rfl) rfl ((wanted_of rfl rfl (hsz 11 (by decide)) h3).trans rfl) (ex_load1 rfl Try.underlying3 rfl h6 (by rw [(KF2.out.mod hm (fun h => h)).cell]; rfl)) (Mod.refl _ _) rfl
       ·intro tr act w' hm hout hsz hd hG hk hub
        have h3 := hd ⟨3, .guard⟩ (by simp) rfl _ rfl
        have h5 := hd ⟨5, .data⟩ (by simp) rfl _ rfl
        have h7 := hd ⟨7, .data⟩ (by simp) rfl _ rfl
        refine jg_run (by rfl) rfl ((wanted_of rfl rfl (hsz 11 (by decide)) h3).trans rfl) (ex_bin rfl h5 h7 (guard_ints _ _ _ _ _ _) (run_lss_i _ _ _ Try.underlying3)) (Mod.refl _ _) ?_
        exact congrArg Value.bool E1.out
       ·intro tr act w' hm hout hsz hd hG hk hub
        have h3 := hd ⟨3, .data⟩ (by simp) rfl _ rfl
        have h8 := hd ⟨8, .data⟩ (by simp) rfl _ rfl
        exact jg_run (by rfl) rfl (wanted_none rfl) (ex_pick rfl h3 h8 rfl) (Mod.refl _ _) rfl
       ·intro tr act w' hm hout hsz hd hG hk hub
        have h9 := hd ⟨9, .data⟩ (by simp) rfl _ rfl
        exact jg_run (by rfl) rfl (wanted_none rfl) (ex_move rfl h9) (Mod.refl _ _) rfl
       ·intro tr act w' hm hout hsz hd hG hk hub
        have h10 := hd ⟨10, .guard⟩ (by simp) rfl _ rfl
        refine jg_run (by rfl) rfl ((wanted_of rfl rfl (hsz 18 (by decide)) h10).trans rfl) (ex_field rfl Try.underlying30 rfl (by kernel_rfl) ((hout 5 (by decide)).trans oe5)) (Mod.refl _ _) ?_
        rfl
       ·intro tr act w' hm hout hsz hd hG hk hub
        have h10 := hd ⟨10, .guard⟩ (by simp) rfl _ rfl
        have h11 := hd ⟨11, .data⟩ (by simp) rfl _ rfl
        exact jg_run (by rfl) rfl ((wanted_of rfl rfl (hsz 18 (by decide)) h10).trans rfl) (ex_load1 rfl Try.underlying3 rfl h11 (by rw [(KQ.out.mod hm (fun h => h)).cell]; rfl)) (Mod.refl _ _) rfl
       ·intro tr act w' hm hout hsz hd hG hk hub
        have h10 := hd ⟨10, .guard⟩ (by simp) rfl _ rfl
        have h12 := hd ⟨12, .data⟩ (by simp) rfl _ rfl
        refine jg_run (by rfl) rfl ((wanted_of rfl rfl (hsz 18 (by decide)) h10).trans rfl) (ex_bin rfl h12 rfl (guard_ints _ _ _ _ _ _) (run_geq_i _ _ _ Try.underlying3)) (Mod.refl _ _) ?_
        exact congrArg Value.bool E2.out
       ·intro tr act w' hm hout hsz hd hG hk hub
        have h10 := hd ⟨10, .data⟩ (by simp) rfl _ rfl
        have h13 := hd ⟨13, .data⟩ (by simp) rfl _ rfl
        exact jg_run (by rfl) rfl (wanted_none rfl) (ex_pick rfl h10 h13 rfl) (Mod.refl _ _) rfl
       ·intro tr act w' hm hout hsz hd hG hk hub
        have h14 := hd ⟨14, .data⟩ (by simp) rfl _ rfl
        exact jg_run (by rfl) rfl (wanted_none rfl) (ex_move rfl h14) (Mod.refl _ _) rfl
       ·intro tr act w' hm hout hsz hd hG hk hub
        have h15 := hd ⟨15, .guard⟩ (by simp) rfl _ rfl
        refine jg_run (by rfl) rfl ((wanted_of rfl rfl (hsz 23 (by decide)) h15).trans rfl) (ex_field rfl Try.underlying30 rfl (by kernel_rfl) ((hout 5 (by decide)).trans oe5)) (Mod.refl _ _) ?_
        rfl
       ·intro tr act w' hm hout hsz hd hG hk hub
        have h15 := hd ⟨15, .guard⟩ (by simp) rfl _ rfl
        have h16 := hd ⟨16, .data⟩ (by simp) rfl _ rfl
        exact jg_run (by rfl) rfl ((wanted_of rfl rfl (hsz 23 (by decide)) h15).trans rfl) (ex_load1 rfl Try.underlying3 rfl h16 (by rw [(KQ.out.mod hm (fun h => h)).cell]; rfl)) (Mod.refl _ _) rfl
       ·intro tr act w' hm hout hsz hd hG hk hub
        have h15 := hd ⟨15, .guard⟩ (by simp) rfl _ rfl
        have h17 := hd ⟨17, .data⟩ (by simp) rfl _ rfl
        refine jg_run (by rfl) rfl ((wanted_of rfl rfl (hsz 23 (by decide)) h15).trans rfl) (ex_bin rfl h17 rfl (guard_ints _ _ _ _ _ _) (run_leq_i _ _ _ Try.underlying3)) (Mod.refl _ _) ?_
        exact congrArg Value.bool E3.out
       ·intro tr act w' hm hout hsz hd hG hk hub
        have h15 := hd ⟨15, .data⟩ (by simp) rfl _ rfl
        have h18 := hd ⟨18, .data⟩ (by simp) rfl _ rfl
        exact jg_run (by rfl) rfl (wanted_none rfl) (ex_pick rfl h15 h18 rfl) (Mod.refl _ _) rfl
       ·intro tr act w' hm hout hsz hd hG hk hub
        have h19 := hd ⟨19, .data⟩ (by simp) rfl _ rfl
        exact jg_run (by rfl) rfl (wanted_none rfl) (ex_move rfl h19) (Mod.refl _ _) rfl
       ·intro tr act w' hm hout hsz hd hG hk hub
        have h20 := hd ⟨20, .guard⟩ (by simp) rfl _ rfl
        refine jg_run (by rfl) rfl ((wanted_of rfl rfl (hsz 28 (by decide)) h20).trans rfl) (ex_field rfl Try.underlying36 rfl (by kernel_rfl) ((hout 3 (by decide)).trans oe3)) (Mod.refl _ _) ?_
        rfl
       ·intro tr act w' hm hout hsz hd hG hk hub
        have h20 := hd ⟨20, .guard⟩ (by simp) rfl _ rfl
        have h21 := hd ⟨21, .data⟩ (by simp) rfl _ rfl
        exact jg_run (by rfl) rfl ((wanted_of rfl rfl (hsz 28 (by decide)) h20).trans rfl) (ex_load1 rfl Try.underlying3 rfl h21 ((KX2.out.mod hm (fun h => h)).c34 HL.out)) (Mod.refl _ _) rfl
       ·intro tr act w' hm hout hsz hd hG hk hub
        have h20 := hd ⟨20, .guard⟩ (by simp) rfl _ rfl
        have h22 := hd ⟨22, .data⟩ (by simp) rfl _ rfl
        refine jg_run (by rfl) rfl ((wanted_of rfl rfl (hsz 28 (by decide)) h20).trans rfl) (ex_bin rfl h22 rfl (guard_ints _ _ _ _ _ _) (run_geq_i _ _ _ Try.underlying3)) (Mod.refl _ _) ?_
        exact congrArg Value.bool E4.out
       ·intro tr act w' hm hout hsz hd hG hk hub
        have h20 := hd ⟨20, .data⟩ (by simp) rfl _ rfl
        have h23 := hd ⟨23, .data⟩ (by simp) rfl _ rfl
        exact jg_run (by rfl) rfl (wanted_none rfl) (ex_pick rfl h20 h23 rfl) (Mod.refl _ _) rfl
       ·intro tr act w' hm hout hsz hd hG hk hub
        have h24 := hd ⟨24, .data⟩ (by simp) rfl _ rfl
        exact jg_run (by rfl) rfl (wanted_none rfl) (ex_move rfl h24) (Mod.refl _ _) rfl
       ·intro tr act w' hm hout hsz hd hG hk hub
        have h25 := hd ⟨25, .guard⟩ (by simp) rfl _ rfl
        refine jg_run (by rfl) rfl ((wanted_of rfl rfl (hsz 33 (by decide)) h25).trans rfl) (ex_field rfl Try.underlying36 rfl (by kernel_rfl) ((hout 3 (by decide)).trans oe3)) (Mod.refl _ _) ?_
        rfl
       ·intro tr act w' hm hout hsz hd hG hk hub
        have h25 := hd ⟨25, .guard⟩ (by simp) rfl _ rfl
        have h26 := hd ⟨26, .data⟩ (by simp) rfl _ rfl
        exact jg_run (by rfl) rfl ((wanted_of rfl rfl (hsz 33 (by decide)) h25).trans rfl) (ex_load1 rfl Try.underlying3 rfl h26 ((KX2.out.mod hm (fun h => h)).c34 HL.out)) (Mod.refl _ _) rfl
       ·intro tr act w' hm hout hsz hd hG hk hub
        have h25 := hd ⟨25, .guard⟩ (by simp) rfl _ rfl
        have h27 := hd ⟨27, .data⟩ (by simp) rfl _ rfl
        refine jg_run (by rfl) rfl ((wanted_of rfl rfl (hsz 33 (by decide)) h25).trans rfl) (ex_bin rfl h27 rfl (guard_ints _ _ _ _ _ _) (run_leq_i _ _ _ Try.underlying3)) (Mod.refl _ _) ?_
        exact congrArg Value.bool E5.out
       ·intro tr act w' hm hout hsz hd hG hk hub
        have h25 := hd ⟨25, .data⟩ (by simp) rfl _ rfl
        have h28 := hd ⟨28, .data⟩ (by simp) rfl _ rfl
        exact jg_run (by rfl) rfl (wanted_none rfl) (ex_pick rfl h25 h28 rfl) (Mod.refl _ _) rfl
       ·intro tr act w' hm hout hsz hd hG hk hub
        have h29 := hd ⟨29, .data⟩ (by simp) rfl _ rfl
        exact jg_run (by rfl) rfl (wanted_none rfl) (ex_assign rfl h29) (Mod.refl _ _) rfl
       intro vs tr w3 hl htl hm hG hV
       obtain ⟨v0, vs0, rfl, hl0⟩ := list_cons hl
       obtain ⟨v1, vs1, rfl, hl1⟩ := list_cons hl0
       obtain ⟨v2, vs2, rfl, hl2⟩ := list_cons hl1
       obtain ⟨v3, vs3, rfl, hl3⟩ := list_cons hl2
       obtain ⟨v4, vs4, rfl, hl4⟩ := list_cons hl3
       obtain ⟨v5, vs5, rfl, hl5⟩ := list_cons hl4
       obtain ⟨v6, vs6, rfl, hl6⟩ := list_cons hl5
       obtain ⟨v7, vs7, rfl, hl7⟩ := list_cons hl6
       obtain ⟨v8, vs8, rfl, hl8⟩ := list_cons hl7
       obtain ⟨v9, vs9, rfl, hl9⟩ := list_cons hl8
       obtain ⟨v10, vs10, rfl, hl10⟩ := list_cons hl9
       obtain ⟨v11, vs11, rfl, hl11⟩ := list_cons hl10
       obtain ⟨v12, vs12, rfl, hl12⟩ := list_cons hl11
       obtain ⟨v13, vs13, rfl, hl13⟩ := list_cons hl12
       obtain ⟨v14, vs14, rfl, hl14⟩ := list_cons hl13
       obtain ⟨v15, vs15, rfl, hl15⟩ := list_cons hl14
       obtain ⟨v16, vs16, rfl, hl16⟩ := list_cons hl15
       obtain ⟨v17, vs17, rfl, hl17⟩ := list_cons hl16
       obtain ⟨v18, vs18, rfl, hl18⟩ := list_cons hl17
       obtain ⟨v19, vs19, rfl, hl19⟩ := list_cons hl18
       obtain ⟨v20, vs20, rfl, hl20⟩ := list_cons hl19
       obtain ⟨v21, vs21, rfl, hl21⟩ := list_cons hl20
       obtain ⟨v22, vs22, rfl, hl22⟩ := list_cons hl21
       obtain ⟨v23, vs23, rfl, hl23⟩ := list_cons hl22
       obtain ⟨v24, vs24, rfl, hl24⟩ := list_cons hl23
       obtain ⟨v25, vs25, rfl, hl25⟩ := list_cons hl24
       obtain ⟨v26, vs26, rfl, hl26⟩ := list_cons hl25
       obtain ⟨v27, vs27, rfl, hl27⟩ := list_cons hl26
       obtain ⟨v28, vs28, rfl, hl28⟩ := list_cons hl27
       obtain ⟨v29, vs29, rfl, hl29⟩ := list_cons hl28
       obtain ⟨v30, vs30, rfl, hl30⟩ := list_cons hl29
       obtain rfl := list_nil hl30
       clear hl hl0 hl1 hl2 hl3 hl4 hl5 hl6 hl7 hl8 hl9 hl10 hl11 hl12 hl13 hl14 hl15 hl16 hl17 hl18 hl19 hl20 hl21 hl22 hl23 hl24 hl25 hl26 hl27 hl28 hl29 hl30
       obtain rfl : v30 = .bool false := hV 30 _ rfl
       have ha0 := HA0.out
       subst ha0
       clear HA0 hV hsz0 oe2 oe3 oe5
       simp only [putAll, Act.put, List.setIfInBounds_toArray, List.set_cons_zero, List.set_cons_succ]
       have KM3 := Lib.hid (KM2.out.trans hm (fun _ _ h => h))
       clear hm hG
       go_wp2
       go_ret
       exact ⟨congrArg (fun z => Ending.returned (Value.bool z)) (show false = validF k c by unfold validF; (simp only [E0.out, E1.out, E2.out, E3.out, E4.out, E5.out, Bool.true_and] <;> rfl)), KM3.out⟩
     ·have E4 := Lib.hid (decide_eq_false c4)
      clear c4
      go_upto_region 2 with (fail)
      generalize ha0 : Act.mk _ _ = a0
      have oe2 : a0.eval (.tmp 2) = .pointer (some ⟨w.heap.size, 0, none⟩) := by rw [← ha0]; rfl
      have oe3 : a0.eval (.tmp 3) = .pointer (some ⟨w.heap.size + 1, 0, none⟩) := by rw [← ha0]; rfl
      have oe5 : a0.eval (.tmp 5) = .pointer (some ⟨q0, 0, none⟩) := by rw [← ha0]; rfl
      have hsz0 : a0.tmps.size = 38 := by rw [← ha0]; rfl
      have HA0 := Lib.hid ha0
      clear ha0
      refine wp_region_G 38 hsz0 (by kernel_rfl) (by kernel_rfl) [8, 9, 10, 11, 12, 13, 14, 15, 16, 17, 18, 19, 20, 21, 22, 23, 24, 25, 26, 27, 28, 29, 30, 31, 32, 33, 34, 35, 36, 37, 4] (by kernel_rfl) (by decide) (fun _ => False) (fun _ _ => False) (fun _ _ h => h) Still (fun _ _ _ h => h) (fun _ _ _ hm h => hm.trans h (fun _ _ h => h.elim)) [gi (.pointer (some ⟨q0, 0, none⟩)), gi (.int .i64 c.cl), gi (.bool true), gi (.bool true), gi (.pointer (some ⟨q0, 0, none⟩)), gi (.int .i64 c.cl), gi (.pointer (some ⟨w.heap.size, 1, none⟩)), gi (.int .i64 k), gi (.bool true), gi (.bool true), gi (.bool true), gi (.pointer (some ⟨q0, 1, none⟩)), gi (.int .i64 c.sq), gi (.bool true), gi (.bool true), gi (.bool true), gi (.pointer (some ⟨q0, 1, none⟩)), gi (.int .i64 c.sq), gi (.bool true), gi (.bool true), gi (.bool true), gi (.pointer (some ⟨w.heap.size + 1, 34, none⟩)), gi (.int .i64 c.ln), gi (.bool false), gi (.bool false), gi (.bool false), gi (undef), gi (undef), gi (undef), gi (.bool false), gi (.bool false)] ⟨gi_stable, gi_stable, gi_stable, gi_stable, gi_stable, gi_stable, gi_stable, gi_stable, gi_stable, gi_stable, gi_stable, gi_stable, gi_stable, gi_stable, gi_stable, gi_stable, gi_stable, gi_stable, gi_stable, gi_stable, gi_stable, gi_stable, gi_stable, gi_stable, gi_stable, gi_stable, gi_stable, gi_stable, gi_stable, gi_stable, gi_stable, trivial⟩ [] (by kernel_rfl) (by decide) (by kernel_rfl) (fun _ _ => True) (fun _ _ _ _ _ => trivial) trivial ⟨?_, ?_, ?_, ?_, ?_, ?_, ?_, ?_, ?_, ?_, ?_, ?_, ?_, ?_, ?_, ?_, ?_, ?_, ?_, ?_, ?_, ?_, ?_, ?_, ?_, ?_, ?_, ?_, ?_, ?_, ?_, trivial⟩ ?_
      ·intro tr act w' hm hout hsz hd hG hk hub
       refine jg_run (by rfl) rfl (wanted_none rfl) (ex_field rfl Try.underlying30 rfl (by kernel_rfl) ((hout 5 (by decide)).trans oe5)) (Mod.refl _ _) ?_
       rfl
      ·intro tr act w' hm hout hsz hd hG hk hub
       have h0 := hd ⟨0, .data⟩ (by simp) rfl _ rfl
       exact jg_run (by rfl) rfl (wanted_none rfl) (ex_load1 rfl Try.underlying3 rfl h0 (by rw [(KQ.out.mod hm (fun h => h)).cell]; rfl)) (Mod.refl _ _) rfl
      ·intro tr act w' hm hout hsz hd hG hk hub
       have h1 := hd ⟨1, .data⟩ (by simp) rfl _ rfl
       refine jg_run (by rfl) rfl (wanted_none rfl) (ex_bin rfl h1 rfl (guard_ints _ _ _ _ _ _) (run_geq_i _ _ _ Try.underlying3)) (Mod.refl _ _) ?_
       exact congrArg Value.bool E0.out
      ·intro tr act w' hm hout hsz hd hG hk hub
       have h2 := hd ⟨2, .data⟩ (by simp) rfl _ rfl
       exact jg_run (by rfl) rfl (wanted_none rfl) (ex_move rfl h2) (Mod.refl _ _) rfl
      ·intro tr act w' hm hout hsz hd hG hk hub
       have h3 := hd ⟨3, .guard⟩ (by simp) rfl _ rfl
       refine jg_run (by rfl) rfl ((wanted_of rfl rfl (hsz 11 (by decide)) h3).trans rfl) (ex_field rfl Try.underlying30 rfl (by kernel_rfl) ((hout 5 (by decide)).trans oe5)) (Mod.refl _ _) ?_
       rfl
      ·intro tr act w' hm hout hsz hd hG hk hub
       have h3 := hd ⟨3, .guard⟩ (by simp) rfl _ rfl
       have h4 := hd ⟨4, .data⟩ (by simp) rfl _ rfl
       exact jg_run (by rfl) rfl ((wanted_of rfl rfl (hsz 11 (by decide)) h3).trans rfl) (ex_load1 rfl Try.underlying3 rfl h4 (by rw [(KQ.out.mod hm (fun h => h)).cell]; rfl)) (Mod.refl _ _) rfl
      ·intro tr act w' hm hout hsz hd hG hk hub
       have h3 := hd ⟨3, .guard⟩ (by simp) rfl _ rfl
       refine jg_run (by rfl) rfl ((wanted_of rfl rfl (hsz 11 (by decide)) h3).trans rfl) (ex_field rfl Try.underlying26 rfl (by kernel_rfl) ((hout 2 (by decide)).trans oe2)) (Mod.refl _ _) ?_
       rfl
      ·intro tr act w' hm hout hsz hd hG hk hub
       have h3 := hd ⟨3, .guard⟩ (by simp) rfl _ rfl
       have h6 := hd ⟨6, .data⟩ (by simp) rfl _ rfl
       exact jg_run (by rfl) rfl ((wanted_of rfl rfl (hsz 11 (by decide)) h3).trans rfl) (ex_load1 rfl Try.underlying3 rfl h6 (by rw [(KF2.out.mod hm (fun h => h)).cell]; rfl)) (Mod.refl _ _) rfl
      ·intro tr act w' hm hout hsz hd hG hk hub
       have h3 := hd ⟨3, .guard⟩ (by simp) rfl _ rfl
       have h5 := hd ⟨5, .data⟩ (by simp) rfl _ rfl
       have h7 := hd ⟨7, .data⟩ (by simp) rfl _ rfl
       refine jg_run (by rfl) rfl ((wanted_of rfl rfl (hsz 11 (by decide)) h3).trans rfl) (ex_bin rfl h5 h7 (guard_ints _ _ _ _ _ _) (run_lss_i _ _ _ Try.underlying3)) (Mod.refl _ _) ?_
       exact congrArg Value.bool E1.out
      ·intro tr act w' hm hout hsz hd hG hk hub
       have h3 := hd ⟨3, .data⟩ (by simp) rfl _ rfl
       have h8 := hd ⟨8, .data⟩ (by simp) rfl _ rfl
       exact jg_run (by rfl) rfl (wanted_none rfl) (ex_pick rfl h3 h8 rfl) (Mod.refl _ _) rfl
      ·intro tr act w' hm hout hsz hd hG hk hub
       have h9 := hd ⟨9, .data⟩ (by simp) rfl _ rfl
       exact jg_run (by rfl) rfl (wanted_none rfl) (ex_move rfl h9) (Mod.refl _ _) rfl
      ·intro tr act w' hm hout hsz hd hG hk hub
       have h10 := hd ⟨10, .guard⟩ (by simp) rfl _ rfl
       refine jg_run (by rfl) rfl ((wanted_of rfl rfl (hsz 18 (by decide)) h10).trans rfl) (ex_field rfl Try.underlying30 rfl (by kernel_rfl) ((hout 5 (by decide)).trans oe5)) (Mod.refl _ _) ?_
       rfl
      ·intro tr act w' hm hout hsz hd hG hk hub
       have h10 := hd ⟨10, .guard⟩ (by simp) rfl _ rfl
       have h11 := hd ⟨11, .data⟩ (by simp) rfl _ rfl
       exact jg_run (by rfl) rfl ((wanted_of rfl rfl (hsz 18 (by decide)) h10).trans rfl) (ex_load1 rfl Try.underlying3 rfl h11 (by rw [(KQ.out.mod hm (fun h => h)).cell]; rfl)) (Mod.refl _ _) rfl
      ·intro tr act w' hm hout hsz hd hG hk hub
       have h10 := hd ⟨10, .guard⟩ (by simp) rfl _ rfl
       have h12 := hd ⟨12, .data⟩ (by simp) rfl _ rfl
       refine jg_run (by rfl) rfl ((wanted_of rfl rfl (hsz 18 (by decide)) h10).trans rfl) (ex_bin rfl h12 rfl (guard_ints _ _ _ _ _ _) (run_geq_i _ _ _ Try.underlying3)) (Mod.refl _ _) ?_
       exact congrArg Value.bool E2.out
      ·intro tr act w' hm hout hsz hd hG hk hub
       have h10 := hd ⟨10, .data⟩ (by simp) rfl _ rfl
       have h13 := hd ⟨13, .data⟩ (by simp) rfl _ rfl
       exact jg_run (by rfl) rfl (wanted_none rfl) (ex_pick rfl h10 h13 rfl) (Mod.refl _ _) rfl
      ·intro tr act w' hm hout hsz hd hG hk hub
       have h14 := hd ⟨14, .data⟩ (by simp) rfl _ rfl
       exact jg_run (by rfl) rfl (wanted_none rfl) (ex_move rfl h14) (Mod.refl _ _) rfl
      ·intro tr act w' hm hout hsz hd hG hk hub
       have h15 := hd ⟨15, .guard⟩ (by simp) rfl _ rfl
       refine jg_run (by rfl) rfl ((wanted_of rfl rfl (hsz 23 (by decide)) h15).trans rfl) (ex_field rfl Try.underlying30 rfl (by kernel_rfl) ((hout 5 (by decide)).trans oe5)) (Mod.refl _ _) ?_
       rfl
      ·intro tr act w' hm hout hsz hd hG hk hub
       have h15 := hd ⟨15, .guard⟩ (by simp) rfl _ rfl
       have h16 := hd ⟨16, .data⟩ (by simp) rfl _ rfl
       exact jg_run (by rfl) rfl ((wanted_of rfl rfl (hsz 23 (by decide)) h15).trans rfl) (ex_load1 rfl Try.underlying3 rfl h16 (by rw [(KQ.out.mod hm (fun h => h)).cell]; rfl)) (Mod.refl _ _) rfl
      ·intro tr act w' hm hout hsz hd hG hk hub
       have h15 := hd ⟨15, .guard⟩ (by simp) rfl _ rfl
       have h17 := hd ⟨17, .data⟩ (by simp) rfl _ rfl
       refine jg_run (by rfl) rfl ((wanted_of rfl rfl (hsz 23 (by decide)) h15).trans rfl) (ex_bin rfl h17 rfl (guard_ints _ _ _ _ _ _) (run_leq_i _ _ _ Try.underlying3)) (Mod.refl _ _) ?_
       exact congrArg Value.bool E3.out
      ·intro tr act w' hm hout hsz hd hG hk hub
       have h15 := hd ⟨15, .data⟩ (by simp) rfl _ rfl
       have h18 := hd ⟨18, .data⟩ (by simp) rfl _ rfl
       exact jg_run (by rfl) rfl (wanted_none rfl) (ex_pick rfl h15 h18 rfl) (Mod.refl _ _) rfl
      ·intro tr act w' hm hout hsz hd hG hk hub
       have h19 := hd ⟨19, .data⟩ (by simp) rfl _ rfl
       exact jg_run (by rfl) rfl (wanted_none rfl) (ex_move rfl h19) (Mod.refl _ _) rfl
      ·intro tr act w' hm hout hsz hd hG hk hub
       have h20 := hd ⟨20, .guard⟩ (by simp) rfl _ rfl
       refine jg_run (by rfl) rfl ((wanted_of rfl rfl (hsz 28 (by decide)) h20).trans rfl) (ex_field rfl Try.underlying36 rfl (by kernel_rfl) ((hout 3 (by decide)).trans oe3)) (Mod.refl _ _) ?_
       rfl
      ·intro tr act w' hm hout hsz hd hG hk hub
       have h20 := hd ⟨20, .guard⟩ (by simp) rfl _ rfl
       have h21 := hd ⟨21, .data⟩ (by simp) rfl _ rfl
       exact jg_run (by rfl) rfl ((wanted_of rfl rfl (hsz 28 (by decide)) h20).trans rfl) (ex_load1 rfl Try.underlying3 rfl h21 ((KX2.out.mod hm (fun h => h)).c34 HL.out)) (Mod.refl _ _) rfl
      ·intro tr act w' hm hout hsz hd hG hk hub
       have h20 := hd ⟨20, .guard⟩ (by simp) rfl _ rfl
       have h22 := hd ⟨22, .data⟩ (by simp) rfl _ rfl
       refine jg_run (by rfl) rfl ((wanted_of rfl rfl (hsz 28 (by decide)) h20).trans rfl) (ex_bin rfl h22 rfl (guard_ints _ _ _ _ _ _) (run_geq_i _ _ _ Try.underlying3)) (Mod.refl _ _) ?_
       exact congrArg Value.bool E4.out
      ·intro tr act w' hm hout hsz hd hG hk hub
       have h20 := hd ⟨20, .data⟩ (by simp) rfl _ rfl
       have h23 := hd ⟨23, .data⟩ (by simp) rfl _ rfl
       exact jg_run (by rfl) rfl (wanted_none rfl) (ex_pick rfl h20 h23 rfl) (Mod.refl _ _) rfl
      ·intro tr act w' hm hout hsz hd hG hk hub
       have h24 := hd ⟨24, .data⟩ (by simp) rfl _ rfl
       exact jg_run (by rfl) rfl (wanted_none rfl) (ex_move rfl h24) (Mod.refl _ _) rfl
      ·intro tr act w' hm hout hsz hd hG hk hub
       have h25 := hd ⟨25, .guard⟩ (by simp) rfl _ rfl
       exact jg_skip (fun _ _ _ h => h) (by rfl) rfl ((wanted_of rfl rfl (hsz 33 (by decide)) h25).trans rfl) rfl
      ·intro tr act w' hm hout hsz hd hG hk hub
       have h25 := hd ⟨25, .guard⟩ (by simp) rfl _ rfl
       exact jg_skip (fun _ _ _ h => h) (by rfl) rfl ((wanted_of rfl rfl (hsz 33 (by decide)) h25).trans rfl) rfl
      ·intro tr act w' hm hout hsz hd hG hk hub
       have h25 := hd ⟨25, .guard⟩ (by simp) rfl _ rfl
       exact jg_skip (fun _ _ _ h => h) (by rfl) rfl ((wanted_of rfl rfl (hsz 33 (by decide)) h25).trans rfl) rfl
      ·intro tr act w' hm hout hsz hd hG hk hub
       have h25 := hd ⟨25, .data⟩ (by simp) rfl _ rfl
       have h28 := hd ⟨28, .data⟩ (by simp) rfl _ rfl
       exact jg_run (by rfl) rfl (wanted_none rfl) (ex_pick rfl h25 h28 rfl) (Mod.refl _ _) rfl
      ·intro tr act w' hm hout hsz hd hG hk hub
       have h29 := hd ⟨29, .data⟩ (by simp) rfl _ rfl
       exact jg_run (by rfl) rfl (wanted_none rfl) (ex_assign rfl h29) (Mod.refl _ _) rfl
      intro vs tr w3 hl htl hm hG hV
      obtain ⟨v0, vs0, rfl, hl0⟩ := list_cons hl
      obtain ⟨v1, vs1, rfl, hl1⟩ := list_cons hl0
      obtain ⟨v2, vs2, rfl, hl2⟩ := list_cons hl1
      obtain ⟨v3, vs3, rfl, hl3⟩ := list_cons hl2
      obtain ⟨v4, vs4, rfl, hl4⟩ := list_cons hl3
      obtain ⟨v5, vs5, rfl, hl5⟩ := list_cons hl4
      obtain ⟨v6, vs6, rfl, hl6⟩ := list_cons hl5
      obtain ⟨v7, vs7, rfl, hl7⟩ := list_cons hl6
      obtain ⟨v8, vs8, rfl, hl8⟩ := list_cons hl7
      obtain ⟨v9, vs9, rfl, hl9⟩ := list_cons hl8
      obtain ⟨v10, vs10, rfl, hl10⟩ := list_cons hl9
      obtain ⟨v11, vs11, rfl, hl11⟩ := list_cons hl10
      obtain ⟨v12, vs12, rfl, hl12⟩ := list_cons hl11
      obtain ⟨v13, vs13, rfl, hl13⟩ := list_cons hl12
      obtain ⟨v14, vs14, rfl, hl14⟩ := list_cons hl13
      obtain ⟨v15, vs15, rfl, hl15⟩ := list_cons hl14
      obtain ⟨v16, vs16, rfl, hl16⟩ := list_cons hl15
      obtain ⟨v17, vs17, rfl, hl17⟩ := list_cons hl16
      obtain ⟨v18, vs18, rfl, hl18⟩ := list_cons hl17
      obtain ⟨v19, vs19, rfl, hl19⟩ := list_cons hl18
      obtain ⟨v20, vs20, rfl, hl20⟩ := list_cons hl19
      obtain ⟨v21, vs21, rfl, hl21⟩ := list_cons hl20
      obtain ⟨v22, vs22, rfl, hl22⟩ := list_cons hl21
      obtain ⟨v23, vs23, rfl, hl23⟩ := list_cons hl22
      obtain ⟨v24, vs24, rfl, hl24⟩ := list_cons hl23
      obtain ⟨v25, vs25, rfl, hl25⟩ := list_cons hl24
      obtain ⟨v26, vs26, rfl, hl26⟩ := list_cons hl25
      obtain ⟨v27, vs27, rfl, hl27⟩ := list_cons hl26
      obtain ⟨v28, vs28, rfl, hl28⟩ := list_cons hl27
      obtain ⟨v29, vs29, rfl, hl29⟩ := list_cons hl28
      obtain ⟨v30, vs30, rfl, hl30⟩ := list_cons hl29
      obtain rfl := list_nil hl30
      clear hl hl0 hl1 hl2 hl3 hl4 hl5 hl6 hl7 hl8 hl9 hl10 hl11 hl12 hl13 hl14 hl15 hl16 hl17 hl18 hl19 hl20 hl21 hl22 hl23 hl24 hl25 hl26 hl27 hl28 hl29 hl30
      obtain rfl : v30 = .bool false := hV 30 _ rfl
      have ha0 := HA0.out
      subst ha0
      clear HA0 hV hsz0 oe2 oe3 oe5
      simp only [putAll, Act.put, List.setIfInBounds_toArray, List.set_cons_zero, List.set_cons_succ]
      have KM3 := Lib.hid (KM2.out.trans hm (fun _ _ h => h))
      clear hm hG
      go_wp2
      go_ret
      exact ⟨congrArg (fun z => Ending.returned (Value.bool z)) (show false = validF k c by unfold validF; (simp only [E0.out, E1.out, E2.out, E3.out, E4.out, Bool.false_and, Bool.true_and] <;> rfl)), KM3.out⟩
    ·have E3 := Lib.hid (decide_eq_false c3)
     clear c3
     go_upto_region 2 with (fail)
     generalize ha0 : Act.mk _ _ = a0
     have oe2 : a0.eval (.tmp 2) = .pointer (some ⟨w.heap.size, 0, none⟩) := by rw [← ha0]; rfl
     have oe3 : a0.eval (.tmp 3) = .pointer (some ⟨w.heap.size + 1, 0, none⟩) := by rw [← ha0]; rfl
     have oe5 : a0.eval (.tmp 5) = .pointer (some ⟨q0, 0, none⟩) := by rw [← ha0]; rfl
     have hsz0 : a0.tmps.size = 38 := by rw [← ha0]; rfl
     have HA0 := Lib.hid ha0
     clear ha0
     refine wp_region_G 38 hsz0 (by kernel_rfl) (by kernel_rfl) [8, 9, 10, 11, 12, 13, 14, 15, 16, 17, 18, 19, 20, 21, 22, 23, 24, 25, 26, 27, 28, 29, 30, 31, 32, 33, 34, 35, 36, 37, 4] (by kernel_rfl) (by decide) (fun _ => False) (fun _ _ => False) (fun _ _ h => h) Still (fun _ _ _ h => h) (fun _ _ _ hm h => hm.trans h (fun _ _ h => h.elim)) [gi (.pointer (some ⟨q0, 0, none⟩)), gi (.int .i64 c.cl), gi (.bool true), gi (.bool true), gi (.pointer (some ⟨q0, 0, none⟩)), gi (.int .i64 c.cl), gi (.pointer (some ⟨w.heap.size, 1, none⟩)), gi (.int .i64 k), gi (.bool true), gi (.bool true), gi (.bool true), gi (.pointer (some ⟨q0, 1, none⟩)), gi (.int .i64 c.sq), gi (.bool true), gi (.bool true), gi (.bool true), gi (.pointer (some ⟨q0, 1, none⟩)), gi (.int .i64 c.sq), gi (.bool false), gi (.bool false), gi (.bool false), gi (undef), gi (undef), gi (undef), gi (.bool false), gi (.bool false), gi (undef), gi (undef), gi (undef), gi (.bool false), gi (.bool false)] ⟨gi_stable, gi_stable, gi_stable, gi_stable, gi_stable, gi_stable, gi_stable, gi_stable, gi_stable, gi_stable, gi_stable, gi_stable, gi_stable, gi_stable, gi_stable, gi_stable, gi_stable, gi_stable, gi_stable, gi_stable, gi_stable, gi_stable, gi_stable, gi_stable, gi_stable, gi_stable, gi_stable, gi_stable, gi_stable, gi_stable, gi_stable, trivial⟩ [] (by kernel_rfl) (by decide) (by kernel_rfl) (fun _ _ => True) (fun _ _ _ _ _ => trivial) trivial ⟨?_, ?_, ?_, ?_, ?_, ?_, ?_, ?_, ?_, ?_, ?_, ?_, ?_, ?_, ?_, ?_, ?_, ?_, ?_, ?_, ?_, ?_, ?_, ?_, ?_, ?_, ?_, ?_, ?_, ?_, ?_, trivial⟩ ?_
     ·intro tr act w' hm hout hsz hd hG hk hub
      refine jg_run (by rfl) rfl (wanted_none rfl) (ex_field rfl Try.underlying30 rfl (by kernel_rfl) ((hout 5 (by decide)).trans oe5)) (Mod.refl _ _) ?_
      rfl
     ·intro tr act w' hm hout hsz hd hG hk hub
      have h0 := hd ⟨0, .data⟩ (by simp) rfl _ rfl
      exact jg_run (by rfl) rfl (wanted_none rfl) (ex_load1 rfl Try.underlying3 rfl h0 (by rw [(KQ.out.mod hm (fun h => h)).cell]; rfl)) (Mod.refl _ _) rfl
     ·intro tr act w' hm hout hsz hd hG hk hub
      have h1 := hd ⟨1, .data⟩ (by simp) rfl _ rfl
      refine jg_run (by rfl) rfl (wanted_none rfl) (ex_bin rfl h1 rfl (guard_ints _ _ _ _ _ _) (run_geq_i _ _ _ Try.underlying3)) (Mod.refl _ _) ?_
      exact congrArg Value.bool E0.out
     ·intro tr act w' hm hout hsz hd hG hk hub
      have h2 := hd ⟨2, .data⟩ (by simp) rfl _ rfl
      exact jg_run (by rfl) rfl (wanted_none rfl) (ex_move rfl h2) (Mod.refl _ _) rfl
     ·intro tr act w' hm hout hsz hd hG hk hub
      have h3 := hd ⟨3, .guard⟩ (by simp) rfl _ rfl
      refine jg_run (by rfl) rfl ((wanted_of rfl rfl (hsz 11 (by decide)) h3).trans rfl) (ex_field rfl Try.underlying30 rfl (by kernel_rfl) ((hout 5 (by decide)).trans oe5)) (Mod.refl _ _) ?_
      rfl
     ·intro tr act w' hm hout hsz hd hG hk hub
      have h3 := hd ⟨3, .guard⟩ (by simp) rfl _ rfl
      have h4 := hd ⟨4, .data⟩ (by simp) rfl _ rfl
      exact jg_run (by rfl) rfl ((wanted_of rfl rfl (hsz 11 (by decide)) h3).trans rfl) (ex_load1 rfl Try.underlying3 rfl h4 (by rw [(KQ.out.mod hm (fun h => h)).cell]; rfl)) (Mod.refl _ _) rfl
     ·intro tr act w' hm hout hsz hd hG hk hub
      have h3 := hd ⟨3, .guard⟩ (by simp) rfl _ rfl
      refine jg_run (by rfl) rfl ((wanted_of rfl rfl (hsz 11 (by decide)) h3).trans rfl) (ex_field rfl Try.underlying26 rfl (by kernel_rfl) ((hout 2 (by decide)).trans oe2)) (Mod.refl _ _) ?_
      rfl
     ·intro tr act w' hm hout hsz hd hG hk hub
      have h3 := hd ⟨3, .guard⟩ (by simp) rfl _ rfl
      have h6 := hd ⟨6, .data⟩ (by simp) rfl _ rfl
      exact jg_run (by rfl) rfl ((wanted_of rfl rfl (hsz 11 (by decide)) h3).trans rfl) (ex_load1 rfl Try.underlying3 rfl h6 (by rw [(KF2.out.mod hm (fun h => h)).cell]; rfl)) (Mod.refl _ _) rfl
     ·intro tr act w' hm hout hsz hd hG hk hub
      have h3 := hd ⟨3, .guard⟩ (by simp) rfl _ rfl
      have h5 := hd ⟨5, .data⟩ (by simp) rfl _ rfl
      have h7 := hd ⟨7, .data⟩ (by simp) rfl _ rfl
      refine jg_run (by rfl) rfl ((wanted_of rfl rfl (hsz 11 (by decide)) h3).trans rfl) (ex_bin rfl h5 h7 (guard_ints _ _ _ _ _ _) (run_lss_i _ _ _ Try.underlying3)) (Mod.refl _ _) ?_
      exact congrArg Value.bool E1.out
     ·intro tr act w' hm hout hsz hd hG hk hub
      have h3 := hd ⟨3, .data⟩ (by simp) rfl _ rfl
      have h8 := hd ⟨8, .data⟩ (by simp) rfl _ rfl
      exact jg_run (by rfl) rfl (wanted_none rfl) (ex_pick rfl h3 h8 rfl) (Mod.refl _ _) rfl
     ·intro tr act w' hm hout hsz hd hG hk hub
      have h9 := hd ⟨9, .data⟩ (by simp) rfl _ rfl
      exact jg_run (by rfl) rfl (wanted_none rfl) (ex_move rfl h9) (Mod.refl _ _) rfl
     ·intro tr act w' hm hout hsz hd hG hk hub
      have h10 := hd ⟨10, .guard⟩ (by simp) rfl _ rfl
      refine jg_run (by rfl) rfl ((wanted_of rfl rfl (hsz 18 (by decide)) h10).trans rfl) (ex_field rfl Try.underlying30 rfl (by kernel_rfl) ((hout 5 (by decide)).trans oe5)) (Mod.refl _ _) ?_
      rfl
     ·intro tr act w' hm hout hsz hd hG hk hub
      have h10 := hd ⟨10, .guard⟩ (by simp) rfl _ rfl
      have h11 := hd ⟨11, .data⟩ (by simp) rfl _ rfl
      exact jg_run (by rfl) rfl ((wanted_of rfl rfl (hsz 18 (by decide)) h10).trans rfl) (ex_load1 rfl Try.underlying3 rfl h11 (by rw [(KQ.out.mod hm (fun h => h)).cell]; rfl)) (Mod.refl _ _) rfl
     ·intro tr act w' hm hout hsz hd hG hk hub
      have h10 := hd ⟨10, .guard⟩ (by simp) rfl _ rfl
      have h12 := hd ⟨12, .data⟩ (by simp) rfl _ rfl
      refine jg_run (by rfl) rfl ((wanted_of rfl rfl (hsz 18 (by decide)) h10).trans rfl) (ex_bin rfl h12 rfl (guard_ints _ _ _ _ _ _) (run_geq_i _ _ _ Try.underlying3)) (Mod.refl _ _) ?_
      exact congrArg Value.bool E2.out
     ·intro tr act w' hm hout hsz hd hG hk hub
      have h10 := hd ⟨10, .data⟩ (by simp) rfl _ rfl
      have h13 := hd ⟨13, .data⟩ (by simp) rfl _ rfl
      exact jg_run (by rfl) rfl (wanted_none rfl) (ex_pick rfl h10 h13 rfl) (Mod.refl _ _) rfl
     ·intro tr act w' hm hout hsz hd hG hk hub
      have h14 := hd ⟨14, .data⟩ (by simp) rfl _ rfl
      exact jg_run (by rfl) rfl (wanted_none rfl) (ex_move rfl h14) (Mod.refl _ _) rfl
     ·intro tr act w' hm hout hsz hd hG hk hub
      have h15 := hd ⟨15, .guard⟩ (by simp) rfl _ rfl
      refine jg_run (by rfl) rfl ((wanted_of rfl rfl (hsz 23 (by decide)) h15).trans rfl) (ex_field rfl Try.underlying30 rfl (by kernel_rfl) ((hout 5 (by decide)).trans oe5)) (Mod.refl _ _) ?_
      rfl
     ·intro tr act w' hm hout hsz hd hG hk hub
      have h15 := hd ⟨15, .guard⟩ (by simp) rfl _ rfl
      have h16 := hd ⟨16, .data⟩ (by simp) rfl _ rfl
      exact jg_run (by rfl) rfl ((wanted_of rfl rfl (hsz 23 (by decide)) h15).trans rfl) (ex_load1 rfl Try.underlying3 rfl h16 (by rw [(KQ.out.mod hm (fun h => h)).cell]; rfl)) (Mod.refl _ _) rfl
     ·intro tr act w' hm hout hsz hd hG hk hub
      have h15 := hd ⟨15, .guard⟩ (by simp) rfl _ rfl
      have h17 := hd ⟨17, .data⟩ (by simp) rfl _ rfl
      refine jg_run (by rfl) rfl ((wanted_of rfl rfl (hsz 23 (by decide)) h15).trans rfl) (ex_bin rfl h17 rfl (guard_ints _ _ _ _ _ _) (run_leq_i _ _ _ Try.underlying3)) (Mod.refl _ _) ?_
      exact congrArg Value.bool E3.out
     ·intro tr act w' hm hout hsz hd hG hk hub
      have h15 := hd ⟨15, .data⟩ (by simp) rfl _ rfl
      have h18 := hd ⟨18, .data⟩ (by simp) rfl _ rfl
      exact jg_run (by rfl) rfl (wanted_none rfl) (ex_pick rfl h15 h18 rfl) (Mod.refl _ _) rfl
     ·intro tr act w' hm hout hsz hd hG hk hub
      have h19 := hd ⟨19, .data⟩ (by simp) rfl _ rfl
      exact jg_run (by rfl) rfl (wanted_none rfl) (ex_move rfl h19) (Mod.refl _ _) rfl
     ·intro tr act w' hm hout hsz hd hG hk hub
      have h20 := hd ⟨20, .guard⟩ (by simp) rfl _ rfl
      exact jg_skip (fun _ _ _ h => h) (by rfl) rfl ((wanted_of rfl rfl (hsz 28 (by decide)) h20).trans rfl) rfl
     ·intro tr act w' hm hout hsz hd hG hk hub
      have h20 := hd ⟨20, .guard⟩ (by simp) rfl _ rfl
      exact jg_skip (fun _ _ _ h => h) (by rfl) rfl ((wanted_of rfl rfl (hsz 28 (by decide)) h20).trans rfl) rfl
     ·intro tr act w' hm hout hsz hd hG hk hub
      have h20 := hd ⟨20, .guard⟩ (by simp) rfl _ rfl
      exact jg_skip (fun _ _ _ h => h) (by rfl) rfl ((wanted_of rfl rfl (hsz 28 (by decide)) h20).trans rfl) rfl
     ·intro tr act w' hm hout hsz hd hG hk hub
      have h20 := hd ⟨20, .data⟩ (by simp) rfl _ rfl
      have h23 := hd ⟨23, .data⟩ (by simp) rfl _ rfl
      exact jg_run (by rfl) rfl (wanted_none rfl) (ex_pick rfl h20 h23 rfl) (Mod.refl _ _) rfl
     ·intro tr act w' hm hout hsz hd hG hk hub
      have h24 := hd ⟨24, .data⟩ (by simp) rfl _ rfl
      exact jg_run (by rfl) rfl (wanted_none rfl) (ex_move rfl h24) (Mod.refl _ _) rfl
     ·intro tr act w' hm hout hsz hd hG hk hub
      have h25 := hd ⟨25, .guard⟩ (by simp) rfl _ rfl
      exact jg_skip (fun _ _ _ h => h) (by rfl) rfl ((wanted_of rfl rfl (hsz 33 (by decide)) h25).trans rfl) rfl
     ·intro tr act w' hm hout hsz hd hG hk hub
      have h25 := hd ⟨25, .guard⟩ (by simp) rfl _ rfl
      exact jg_skip (fun _ _ _ h => h) (by rfl) rfl ((wanted_of rfl rfl (hsz 33 (by decide)) h25).trans rfl) rfl
     ·intro tr act w' hm hout hsz hd hG hk hub
      have h25 := hd ⟨25, .guard⟩ (by simp) rfl _ rfl
      exact jg_skip (fun _ _ _ h => h) (by rfl) rfl ((wanted_of rfl rfl (hsz 33 (by decide)) h25).trans rfl) rfl
     ·intro tr act w' hm hout hsz hd hG hk hub
      have h25 := hd ⟨25, .data⟩ (by simp) rfl _ rfl
      have h28 := hd ⟨28, .data⟩ (by simp) rfl _ rfl
      exact jg_run (by rfl) rfl (wanted_none rfl) (ex_pick rfl h25 h28 rfl) (Mod.refl _ _) rfl
     ·intro tr act w' hm hout hsz hd hG hk hub
      have h29 := hd ⟨29, .data⟩ (by simp) rfl _ rfl
      exact jg_run (by rfl) rfl (wanted_none rfl) (ex_assign rfl h29) (Mod.refl _ _) rfl
     intro vs tr w3 hl htl hm hG hV
     obtain ⟨v0, vs0, rfl, hl0⟩ := list_cons hl
     obtain ⟨v1, vs1, rfl, hl1⟩ := list_cons hl0
     obtain ⟨v2, vs2, rfl, hl2⟩ := list_cons hl1
     obtain ⟨v3, vs3, rfl, hl3⟩ := list_cons hl2
     obtain ⟨v4, vs4, rfl, hl4⟩ := list_cons hl3
     obtain ⟨v5, vs5, rfl, hl5⟩ := list_cons hl4
     obtain ⟨v6, vs6, rfl, hl6⟩ := list_cons hl5
     obtain ⟨v7, vs7, rfl, hl7⟩ := list_cons hl6
     obtain ⟨v8, vs8, rfl, hl8⟩ := list_cons hl7
     obtain ⟨v9, vs9, rfl, hl9⟩ := list_cons hl8
     obtain ⟨v10, vs10, rfl, hl10⟩ := list_cons hl9
     obtain ⟨v11, vs11, rfl, hl11⟩ := list_cons hl10
     obtain ⟨v12, vs12, rfl, hl12⟩ := list_cons hl11
     obtain ⟨v13, vs13, rfl, hl13⟩ := list_cons hl12
     obtain ⟨v14, vs14, rfl, hl14⟩ := list_cons hl13
     obtain ⟨v15, vs15, rfl, hl15⟩ := list_cons hl14
     obtain ⟨v16, vs16, rfl, hl16⟩ := list_cons hl15
     obtain ⟨v17, vs17, rfl, hl17⟩ := list_cons hl16
     obtain ⟨v18, vs18, rfl, hl18⟩ := list_cons hl17
     obtain ⟨v19, vs19, rfl, hl19⟩ := list_cons hl18
     obtain ⟨v20, vs20, rfl, hl20⟩ := list_cons hl19
     obtain ⟨v21, vs21, rfl, hl21⟩ := list_cons hl20
     obtain ⟨v22, vs22, rfl, hl22⟩ := list_cons hl21
     obtain ⟨v23, vs23, rfl, hl23⟩ := list_cons hl22
     obtain ⟨v24, vs24, rfl, hl24⟩ := list_cons hl23
     obtain ⟨v25, vs25, rfl, hl25⟩ := list_cons hl24
     obtain ⟨v26, vs26, rfl, hl26⟩ := list_cons hl25
     obtain ⟨v27, vs27, rfl, hl27⟩ := list_cons hl26
     obtain ⟨v28, vs28, rfl, hl28⟩ := list_cons hl27
     obtain ⟨v29, vs29, rfl, hl29⟩ := list_cons hl28
     obtain ⟨v30, vs30, rfl, hl30⟩ := list_cons hl29
     obtain rfl := list_nil hl30
     clear hl hl0 hl1 hl2 hl3 hl4 hl5 hl6 hl7 hl8 hl9 hl10 hl11 hl12 hl13 hl14 hl15 hl16 hl17 hl18 hl19 hl20 hl21 hl22 hl23 hl24 hl25 hl26 hl27 hl28 hl29 hl30
     obtain rfl : v30 = .bool false := hV 30 _ rfl
     have ha0 := HA0.out
     subst ha0
     clear HA0 hV hsz0 oe2 oe3 oe5
     simp only [putAll, Act.put, List.setIfInBounds_toArray, List.set_cons_zero, List.set_cons_succ]
     have KM3 := Lib.hid (KM2.out.trans hm (fun _ _ h => h))
     clear hm hG
     go_wp2
     go_ret
     exact ⟨congrArg (fun z => Ending.returned (Value.bool z)) (show false = validF k c by unfold validF; (simp only [E0.out, E1.out, E2.out, E3.out, Bool.false_and, Bool.true_and] <;> rfl)), KM3.out⟩
   ·have E2 := Lib.hid (decide_eq_false c2)
    clear c2
    go_upto_region 2 with (fail)
    generalize ha0 : Act.mk _ _ = a0
    have oe2 : a0.eval (.tmp 2) = .pointer (some ⟨w.heap.size, 0, none⟩) := by rw [← ha0]; rfl
    have oe3 : a0.eval (.tmp 3) = .pointer (some ⟨w.heap.size + 1, 0, none⟩) := by rw [← ha0]; rfl
    have oe5 : a0.eval (.tmp 5) = .pointer (some ⟨q0, 0, none⟩) := by rw [← ha0]; rfl
    have hsz0 : a0.tmps.size = 38 := by rw [← ha0]; rfl
    have HA0 := Lib.hid ha0
    clear ha0
    refine wp_region_G 38 hsz0 (by kernel_rfl) (by kernel_rfl) [8, 9, 10, 11, 12, 13, 14, 15, 16, 17, 18, 19, 20, 21, 22, 23, 24, 25, 26, 27, 28, 29, 30, 31, 32, 33, 34, 35, 36, 37, 4] (by kernel_rfl) (by decide) (fun _ => False) (fun _ _ => False) (fun _ _ h => h) Still (fun _ _ _ h => h) (fun _ _ _ hm h => hm.trans h (fun _ _ h => h.elim)) [gi (.pointer (some ⟨q0, 0, none⟩)), gi (.int .i64 c.cl), gi (.bool true), gi (.bool true), gi (.pointer (some ⟨q0, 0, none⟩)), gi (.int .i64 c.cl), gi (.pointer (some ⟨w.heap.size, 1, none⟩)), gi (.int .i64 k), gi (.bool true), gi (.bool true), gi (.bool true), gi (.pointer (some ⟨q0, 1, none⟩)), gi (.int .i64 c.sq), gi (.bool false), gi (.bool false), gi (.bool false), gi (undef), gi (undef), gi (undef), gi (.bool false), gi (.bool false), gi (undef), gi (undef), gi (undef), gi (.bool false), gi (.bool false), gi (undef), gi (undef), gi (undef), gi (.bool false), gi (.bool false)] ⟨gi_stable, gi_stable, gi_stable, gi_stable, gi_stable, gi_stable, gi_stable, gi_stable, gi_stable, gi_stable, gi_stable, gi_stable, gi_stable, gi_stable, gi_stable, gi_stable, gi_stable, gi_stable, gi_stable, gi_stable, gi_stable, gi_stable, gi_stable, gi_stable, gi_stable, gi_stable, gi_stable, gi_stable, gi_stable, gi_stable, gi_stable, trivial⟩ [] (by kernel_rfl) (by decide) (by kernel_rfl) (fun _ _ => True) (fun _ _ _ _ _ => trivial) trivial ⟨?_, ?_, ?_, ?_, ?_, ?_, ?_, ?_, ?_, ?_, ?_, ?_, ?_, ?_, ?_, ?_, ?_, ?_, ?_, ?_, ?_, ?_, ?_, ?_, ?_, ?_, ?_, ?_, ?_, ?_, ?_, trivial⟩ ?_
    ·intro tr act w' hm hout hsz hd hG hk hub
     refine jg_run (by rfl) rfl (wanted_none rfl) (ex_field rfl Try.underlying30 rfl (by kernel_rfl) ((hout 5 (by decide)).trans oe5)) (Mod.refl _ _) ?_
     rfl
    ·intro tr act w' hm hout hsz hd hG hk hub
     have h0 := hd ⟨0, .data⟩ (by simp) rfl _ rfl
     exact jg_run (by rfl) rfl (wanted_none rfl) (ex_load1 rfl Try.underlying3 rfl h0 (by rw [(KQ.out.mod hm (fun h => h)).cell]; rfl)) (Mod.refl _ _) rfl
    ·intro tr act w' hm hout hsz hd hG hk hub
     have h1 := hd ⟨1, .data⟩ (by simp) rfl _ rfl
     refine jg_run (by rfl) rfl (wanted_none rfl) (ex_bin rfl h1 rfl (guard_ints _ _ _ _ _ _) (run_geq_i _ _ _ Try.underlying3)) (Mod.refl _ _) ?_
     exact congrArg Value.bool E0.out
    ·intro tr act w' hm hout hsz hd hG hk hub
     have h2 := hd ⟨2, .data⟩ (by simp) rfl _ rfl
     exact jg_run (by rfl) rfl (wanted_none rfl) (ex_move rfl h2) (Mod.refl _ _) rfl
    ·intro tr act w' hm hout hsz hd hG hk hub
     have h3 := hd ⟨3, .guard⟩ (by simp) rfl _ rfl
     refine jg_run (by rfl) rfl ((wanted_of rfl rfl (hsz 11 (by decide)) h3).trans rfl) (ex_field rfl Try.underlying30 rfl (by kernel_rfl) ((hout 5 (by decide)).trans oe5)) (Mod.refl _ _) ?_
     rfl
    ·intro tr act w' hm hout hsz hd hG hk hub
     have h3 := hd ⟨3, .guard⟩ (by simp) rfl _ rfl
     have h4 := hd ⟨4, .data⟩ (by simp) rfl _ rfl
     exact jg_run (by rfl) rfl ((wanted_of rfl rfl (hsz 11 (by decide)) h3).trans rfl) (ex_load1 rfl Try.underlying3 rfl h4 (by rw [(KQ.out.mod hm (fun h => h)).cell]; rfl)) (Mod.refl _ _) rfl
    ·intro tr act w' hm hout hsz hd hG hk hub
     have h3 := hd ⟨3, .guard⟩ (by simp) rfl _ rfl
     refine jg_run (by rfl) rfl ((wanted_of rfl rfl (hsz 11 (by decide)) h3).trans rfl) (ex_field rfl Try.underlying26 rfl (by kernel_rfl) ((hout 2 (by decide)).trans oe2)) (Mod.refl _ _) ?_
     rfl
    ·intro tr act w' hm hout hsz hd hG hk hub
     have h3 := hd ⟨3, .guard⟩ (by simp) rfl _ rfl
     have h6 := hd ⟨6, .data⟩ (by simp) rfl _ rfl
     exact jg_run (by rfl) rfl ((wanted_of rfl rfl (hsz 11 (by decide)) h3).trans rfl) (ex_load1 rfl Try.underlying3 rfl h6 (by rw [(KF2.out.mod hm (fun h => h)).cell]; rfl)) (Mod.refl _ _) rfl
    ·intro tr act w' hm hout hsz hd hG hk hub
     have h3 := hd ⟨3, .guard⟩ (by simp) rfl _ rfl
     have h5 := hd ⟨5, .data⟩ (by simp) rfl _ rfl
     have h7 := hd ⟨7, .data⟩ (by simp) rfl _ rfl
     refine jg_run (by rfl) rfl ((wanted_of rfl rfl (hsz 11 (by decide)) h3).trans rfl) (ex_bin rfl h5 h7 (guard_ints _ _ _ _ _ _) (run_lss_i _ _ _ Try.underlying3)) (Mod.refl _ _) ?_
     exact congrArg Value.bool E1.out
    ·intro tr act w' hm hout hsz hd hG hk hub
     have h3 := hd ⟨3, .data⟩ (by simp) rfl _ rfl
     have h8 := hd ⟨8, .data⟩ (by simp) rfl _ rfl
     exact jg_run (by rfl) rfl (wanted_none rfl) (ex_pick rfl h3 h8 rfl) (Mod.refl _ _) rfl
    ·intro tr act w' hm hout hsz hd hG hk hub
     have h9 := hd ⟨9, .data⟩ (by simp) rfl _ rfl
     exact jg_run (by rfl) rfl (wanted_none rfl) (ex_move rfl h9) (Mod.refl _ _) rfl
    ·intro tr act w' hm hout hsz hd hG hk hub
     have h10 := hd ⟨10, .guard⟩ (by simp) rfl _ rfl
     refine jg_run (by rfl) rfl ((wanted_of rfl rfl (hsz 18 (by decide)) h10).trans rfl) (ex_field rfl Try.underlying30 rfl (by kernel_rfl) ((hout 5 (by decide)).trans oe5)) (Mod.refl _ _) ?_
     rfl
    ·intro tr act w' hm hout hsz hd hG hk hub
     have h10 := hd ⟨10, .guard⟩ (by simp) rfl _ rfl
     have h11 := hd ⟨11, .data⟩ (by simp) rfl _ rfl
     exact jg_run (by rfl) rfl ((wanted_of rfl rfl (hsz 18 (by decide)) h10).trans rfl) (ex_load1 rfl Try.underlying3 rfl h11 (by rw [(KQ.out.mod hm (fun h => h)).cell]; rfl)) (Mod.refl _ _) rfl
    ·intro tr act w' hm hout hsz hd hG hk hub
     have h10 := hd ⟨10, .guard⟩ (by simp) rfl _ rfl
     have h12 := hd ⟨12, .data⟩ (by simp) rfl _ rfl
     refine jg_run (by rfl) rfl ((wanted_of rfl rfl (hsz 18 (by decide)) h10).trans rfl) (ex_bin rfl h12 rfl (guard_ints _ _ _ _ _ _) (run_geq_i _ _ _ Try.underlying3)) (Mod.refl _ _) ?_
     exact congrArg Value.bool E2.out
    ·intro tr act w' hm hout hsz hd hG hk hub
     have h10 := hd ⟨10, .data⟩ (by simp) rfl _ rfl
     have h13 := hd ⟨13, .data⟩ (by simp) rfl _ rfl
     exact jg_run (by rfl) rfl (wanted_none rfl) (ex_pick rfl h10 h13 rfl) (Mod.refl _ _) rfl
    ·intro tr act w' hm hout hsz hd hG hk hub
     have h14 := hd ⟨14, .data⟩ (by simp) rfl _ rfl
     exact jg_run (by rfl) rfl (wanted_none rfl) (ex_move rfl h14) (Mod.refl _ _) rfl
    ·intro tr act w' hm hout hsz hd hG hk hub
     have h15 := hd ⟨15, .guard⟩ (by simp) rfl _ rfl
     exact jg_skip (fun _ _ _ h => h) (by rfl) rfl ((wanted_of rfl rfl (hsz 23 (by decide)) h15).trans rfl) rfl
    ·intro tr act w' hm hout hsz hd hG hk hub
     have h15 := hd ⟨15, .guard⟩ (by simp) rfl _ rfl
     exact jg_skip (fun _ _ _ h => h) (by rfl) rfl ((wanted_of rfl rfl (hsz 23 (by decide)) h15).trans rfl) rfl
    ·intro tr act w' hm hout hsz hd hG hk hub
     have h15 := hd ⟨15, .guard⟩ (by simp) rfl _ rfl
     exact jg_skip (fun _ _ _ h => h) (by rfl) rfl ((wanted_of rfl rfl (hsz 23 (by decide)) h15).trans rfl) rfl
    ·intro tr act w' hm hout hsz hd hG hk hub
     have h15 := hd ⟨15, .data⟩ (by simp) rfl _ rfl
     have h18 := hd ⟨18, .data⟩ (by simp) rfl _ rfl
     exact jg_run (by rfl) rfl (wanted_none rfl) (ex_pick rfl h15 h18 rfl) (Mod.refl _ _) rfl
    ·intro tr act w' hm hout hsz hd hG hk hub
     have h19 := hd ⟨19, .data⟩ (by simp) rfl _ rfl
     exact jg_run (by rfl) rfl (wanted_none rfl) (ex_move rfl h19) (Mod.refl _ _) rfl
    ·intro tr act w' hm hout hsz hd hG hk hub
     have h20 := hd ⟨20, .guard⟩ (by simp) rfl _ rfl
     exact jg_skip (fun _ _ _ h => h) (by rfl) rfl ((wanted_of rfl rfl (hsz 28 (by decide)) h20).trans rfl) rfl
    ·intro tr act w' hm hout hsz hd hG hk hub
     have h20 := hd ⟨20, .guard⟩ (by simp) rfl _ rfl
     exact jg_skip (fun _ _ _ h => h) (by rfl) rfl ((wanted_of rfl rfl (hsz 28 (by decide)) h20).trans rfl) rfl
    ·intro tr act w' hm hout hsz hd hG hk hub
     have h20 := hd ⟨20, .guard⟩ (by simp) rfl _ rfl
     exact jg_skip (fun _ _ _ h => h) (by rfl) rfl ((wanted_of rfl rfl (hsz 28 (by decide)) h20).trans rfl) rfl
    ·intro tr act w' hm hout hsz hd hG hk hub
     have h20 := hd ⟨20, .data⟩ (by simp) rfl _ rfl
     have h23 := hd ⟨23, .data⟩ (by simp) rfl _ rfl
     exact jg_run (by rfl) rfl (wanted_none rfl) (ex_pick rfl h20 h23 rfl) (Mod.refl _ _) rfl
    ·intro tr act w' hm hout hsz hd hG hk hub
     have h24 := hd ⟨24, .data⟩ (by simp) rfl _ rfl
     exact jg_run (by rfl) rfl (wanted_none rfl) (ex_move rfl h24) (Mod.refl _ _) rfl
    ·intro tr act w' hm hout hsz hd hG hk hub
     have h25 := hd ⟨25, .guard⟩ (by simp) rfl _ rfl
     exact jg_skip (fun _ _ _ h => h) (by rfl) rfl ((wanted_of rfl rfl (hsz 33 (by decide)) h25).trans rfl) rfl
    ·intro tr act w' hm hout hsz hd hG hk hub
     have h25 := hd ⟨25, .guard⟩ (by simp) rfl _ rfl
     exact jg_skip (fun _ _ _ h => h) (by rfl) rfl ((wanted_of rfl rfl (hsz 33 (by decide)) h25).trans rfl) rfl
    ·intro tr act w' hm hout hsz hd hG hk hub
     have h25 := hd ⟨25, .guard⟩ (by simp) rfl _ rfl
     exact jg_skip (fun _ _ _ h => h) (by rfl) rfl ((wanted_of rfl rfl (hsz 33 (by decide)) h25).trans rfl) rfl
    ·intro tr act w' hm hout hsz hd hG hk hub
     have h25 := hd ⟨25, .data⟩ (by simp) rfl _ rfl
     have h28 := hd ⟨28, .data⟩ (by simp) rfl _ rfl
     exact jg_run (by rfl) rfl (wanted_none rfl) (ex_pick rfl h25 h28 rfl) (Mod.refl _ _) rfl
    ·intro tr act w' hm hout hsz hd hG hk hub
     have h29 := hd ⟨29, .data⟩ (by simp) rfl _ rfl
     exact jg_run (by rfl) rfl (wanted_none rfl) (ex_assign rfl h29) (Mod.refl _ _) rfl
    intro vs tr w3 hl htl hm hG hV
    obtain ⟨v0, vs0, rfl, hl0⟩ := list_cons hl
    obtain ⟨v1, vs1, rfl, hl1⟩ := list_cons hl0
    obtain ⟨v2, vs2, rfl, hl2⟩ := list_cons hl1
    obtain ⟨v3, vs3, rfl, hl3⟩ := list_cons hl2
    obtain ⟨v4, vs4, rfl, hl4⟩ := list_cons hl3
    obtain ⟨v5, vs5, rfl, hl5⟩ := list_cons hl4
    obtain ⟨v6, vs6, rfl, hl6⟩ := list_cons hl5
    obtain ⟨v7, vs7, rfl, hl7⟩ := list_cons hl6
    obtain ⟨v8, vs8, rfl, hl8⟩ := list_cons hl7
    obtain ⟨v9, vs9, rfl, hl9⟩ := list_cons hl8
    obtain ⟨v10, vs10, rfl, hl10⟩ := list_cons hl9
    obtain ⟨v11, vs11, rfl, hl11⟩ := list_cons hl10
    obtain ⟨v12, vs12, rfl, hl12⟩ := list_cons hl11
    obtain ⟨v13, vs13, rfl, hl13⟩ := list_cons hl12
    obtain ⟨v14, vs14, rfl, hl14⟩ := list_cons hl13
    obtain ⟨v15, vs15, rfl, hl15⟩ := list_cons hl14
    obtain ⟨v16, vs16, rfl, hl16⟩ := list_cons hl15
    obtain ⟨v17, vs17, rfl, hl17⟩ := list_cons hl16
    obtain ⟨v18, vs18, rfl, hl18⟩ := list_cons hl17
    obtain ⟨v19, vs19, rfl, hl19⟩ := list_cons hl18
    obtain ⟨v20, vs20, rfl, hl20⟩ := list_cons hl19
    obtain ⟨v21, vs21, rfl, hl21⟩ := list_cons hl20
    obtain ⟨v22, vs22, rfl, hl22⟩ := list_cons hl21
    obtain ⟨v23, vs23, rfl, hl23⟩ := list_cons hl22
    obtain ⟨v24, vs24, rfl, hl24⟩ := list_cons hl23
    obtain ⟨v25, vs25, rfl, hl25⟩ := list_cons hl24
    obtain ⟨v26, vs26, rfl, hl26⟩ := list_cons hl25
    obtain ⟨v27, vs27, rfl, hl27⟩ := list_cons hl26
    obtain ⟨v28, vs28, rfl, hl28⟩ := list_cons hl27
    obtain ⟨v29, vs29, rfl, hl29⟩ := list_cons hl28
    obtain ⟨v30, vs30, rfl, hl30⟩ := list_cons hl29
    obtain rfl := list_nil hl30
    clear hl hl0 hl1 hl2 hl3 hl4 hl5 hl6 hl7 hl8 hl9 hl10 hl11 hl12 hl13 hl14 hl15 hl16 hl17 hl18 hl19 hl20 hl21 hl22 hl23 hl24 hl25 hl26 hl27 hl28 hl29 hl30
    obtain rfl : v30 = .bool false := hV 30 _ rfl
    have ha0 := HA0.out
    subst ha0
    clear HA0 hV hsz0 oe2 oe3 oe5
    simp only [putAll, Act.put, List.setIfInBounds_toArray, List.set_cons_zero, List.set_cons_succ]
    have KM3 := Lib.hid (KM2.out.trans hm (fun _ _ h => h))
    clear hm hG
    go_wp2
    go_ret
    exact ⟨congrArg (fun z => Ending.returned (Value.bool z)) (show false = validF k c by unfold validF; (simp only [E0.out, E1.out, E2.out, Bool.false_and, Bool.true_and] <;> rfl)), KM3.out⟩
  ·have E1 := Lib.hid (decide_eq_false c1)
   clear c1
   go_upto_region 2 with (fail)
   generalize ha0 : Act.mk _ _ = a0
   have oe2 : a0.eval (.tmp 2) = .pointer (some ⟨w.heap.size, 0, none⟩) := by rw [← ha0]; rfl
   have oe3 : a0.eval (.tmp 3) = .pointer (some ⟨w.heap.size + 1, 0, none⟩) := by rw [← ha0]; rfl
   have oe5 : a0.eval (.tmp 5) = .pointer (some ⟨q0, 0, none⟩) := by rw [← ha0]; rfl
   have hsz0 : a0.tmps.size = 38 := by rw [← ha0]; rfl
   have HA0 := Lib.hid ha0
   clear ha0
   refine wp_region_G 38 hsz0 (by kernel_rfl) (by kernel_rfl) [8, 9, 10, 11, 12, 13, 14, 15, 16, 17, 18, 19, 20, 21, 22, 23, 24, 25, 26, 27, 28, 29, 30, 31, 32, 33, 34, 35, 36, 37, 4] (by kernel_rfl) (by decide) (fun _ => False) (fun _ _ => False) (fun _ _ h => h) Still (fun _ _ _ h => h) (fun _ _ _ hm h => hm.trans h (fun _ _ h => h.elim)) [gi (.pointer (some ⟨q0, 0, none⟩)), gi (.int .i64 c.cl), gi (.bool true), gi (.bool true), gi (.pointer (some ⟨q0, 0, none⟩)), gi (.int .i64 c.cl), gi (.pointer (some ⟨w.heap.size, 1, none⟩)), gi (.int .i64 k), gi (.bool false), gi (.bool false), gi (.bool false), gi (undef), gi (undef), gi (undef), gi (.bool false), gi (.bool false), gi (undef), gi (undef), gi (undef), gi (.bool false), gi (.bool false), gi (undef), gi (undef), gi (undef), gi (.bool false), gi (.bool false), gi (undef), gi (undef), gi (undef), gi (.bool false), gi (.bool false)] ⟨gi_stable, gi_stable, gi_stable, gi_stable, gi_stable, gi_stable, gi_stable, gi_stable, gi_stable, gi_stable, gi_stable, gi_stable, gi_stable, gi_stable, gi_stable, gi_stable, gi_stable, gi_stable, gi_stable, gi_stable, gi_stable, gi_stable, gi_stable, gi_stable, gi_stable, gi_stable, gi_stable, gi_stable, gi_stable, gi_stable, gi_stable, trivial⟩ [] (by kernel_rfl) (by decide) (by kernel_rfl) (fun _ _ => True) (fun _ _ _ _ _ => trivial) trivial ⟨?_, ?_, ?_, ?_, ?_, ?_, ?_, ?_, ?_, ?_, ?_, ?_, ?_, ?_, ?_, ?_, ?_, ?_, ?_, ?_, ?_, ?_, ?_, ?_, ?_, ?_, ?_, ?_, ?_, ?_, ?_, trivial⟩ ?_
   ·intro tr act w' hm hout hsz hd hG hk hub
    refine jg_run (by rfl) rfl (wanted_none rfl) (ex_field rfl Try.underlying30 rfl (by kernel_rfl) ((hout 5 (by decide)).trans oe5)) (Mod.refl _ _) ?_
    rfl
   ·intro tr act w' hm hout hsz hd hG hk hub
    have h0 := hd ⟨0, .data⟩ (by simp) rfl _ rfl
    exact jg_run (by rfl) rfl (wanted_none rfl) (ex_load1 rfl Try.underlying3 rfl h0 (by rw [(KQ.out.mod hm (fun h => h)).cell]; rfl)) (Mod.refl _ _) rfl
   ·intro tr act w' hm hout hsz hd hG hk hub
    have h1 := hd ⟨1, .data⟩ (by simp) rfl _ rfl
    refine jg_run (by rfl) rfl (wanted_none rfl) (ex_bin rfl h1 rfl (guard_ints _ _ _ _ _ _) (run_geq_i _ _ _ Try.underlying3)) (Mod.refl _ _) ?_
    exact congrArg Value.bool E0.out
   ·intro tr act w' hm hout hsz hd hG hk hub
    have h2 := hd ⟨2, .data⟩ (by simp) rfl _ rfl
    exact jg_run (by rfl) rfl (wanted_none rfl) (ex_move rfl h2) (Mod.refl _ _) rfl
   ·intro tr act w' hm hout hsz hd hG hk hub
    have h3 := hd ⟨3, .guard⟩ (by simp) rfl _ rfl
    refine jg_run (by rfl) rfl ((wanted_of rfl rfl (hsz 11 (by decide)) h3).trans rfl) (ex_field rfl Try.underlying30 rfl (by kernel_rfl) ((hout 5 (by decide)).trans oe5)) (Mod.refl _ _) ?_
    rfl
   ·intro tr act w' hm hout hsz hd hG hk hub
    have h3 := hd ⟨3, .guard⟩ (by simp) rfl _ rfl
    have h4 := hd ⟨4, .data⟩ (by simp) rfl _ rfl
    exact jg_run (by rfl) rfl ((wanted_of rfl rfl (hsz 11 (by decide)) h3).trans rfl) (ex_load1 rfl Try.underlying3 rfl h4 (by rw [(KQ.out.mod hm (fun h => h)).cell]; rfl)) (Mod.refl _ _) rfl
   ·intro tr act w' hm hout hsz hd hG hk hub
    have h3 := hd ⟨3, .guard⟩ (by simp) rfl _ rfl
    refine jg_run (by rfl) rfl ((wanted_of rfl rfl (hsz 11 (by decide)) h3).trans rfl) (ex_field rfl Try.underlying26 rfl (by kernel_rfl) ((hout 2 (by decide)).trans oe2)) (Mod.refl _ _) ?_
    rfl
   ·intro tr act w' hm hout hsz hd hG hk hub
    have h3 := hd ⟨3, .guard⟩ (by simp) rfl _ rfl
    have h6 := hd ⟨6, .data⟩ (by simp) rfl _ rfl
    exact jg_run (by rfl) rfl ((wanted_of rfl rfl (hsz 11 (by decide)) h3).trans rfl) (ex_load1 rfl Try.underlying3 rfl h6 (by rw [(KF2.out.mod hm (fun h => h)).cell]; rfl)) (Mod.refl _ _) rfl
   ·intro tr act w' hm hout hsz hd hG hk hub
    have h3 := hd ⟨3, .guard⟩ (by simp) rfl _ rfl
    have h5 := hd ⟨5, .data⟩ (by simp) rfl _ rfl
    have h7 := hd ⟨7, .data⟩ (by simp) rfl _ rfl
    refine jg_run (by rfl) rfl ((wanted_of rfl rfl (hsz 11 (by decide)) h3).trans rfl) (ex_bin rfl h5 h7 (guard_ints _ _ _ _ _ _) (run_lss_i _ _ _ Try.underlying3)) (Mod.refl _ _) ?_
    exact congrArg Value.bool E1.out
   ·intro tr act w' hm hout hsz hd hG hk hub
    have h3 := hd ⟨3, .data⟩ (by simp) rfl _ rfl
    have h8 := hd ⟨8, .data⟩ (by simp) rfl _ rfl
    exact jg_run (by rfl) rfl (wanted_none rfl) (ex_pick rfl h3 h8 rfl) (Mod.refl _ _) rfl
   ·intro tr act w' hm hout hsz hd hG hk hub
    have h9 := hd ⟨9, .data⟩ (by simp) rfl _ rfl
    exact jg_run (by rfl) rfl (wanted_none rfl) (ex_move rfl h9) (Mod.refl _ _) rfl
   ·intro tr act w' hm hout hsz hd hG hk hub
    have h10 := hd ⟨10, .guard⟩ (by simp) rfl _ rfl
    exact jg_skip (fun _ _ _ h => h) (by rfl) rfl ((wanted_of rfl rfl (hsz 18 (by decide)) h10).trans rfl) rfl
   ·intro tr act w' hm hout hsz hd hG hk hub
    have h10 := hd ⟨10, .guard⟩ (by simp) rfl _ rfl
    exact jg_skip (fun _ _ _ h => h) (by rfl) rfl ((wanted_of rfl rfl (hsz 18 (by decide)) h10).trans rfl) rfl
   ·intro tr act w' hm hout hsz hd hG hk hub
    have h10 := hd ⟨10, .guard⟩ (by simp) rfl _ rfl
    exact jg_skip (fun _ _ _ h => h) (by rfl) rfl ((wanted_of rfl rfl (hsz 18 (by decide)) h10).trans rfl) rfl
   ·intro tr act w' hm hout hsz hd hG hk hub
    have h10 := hd ⟨10, .data⟩ (by simp) rfl _ rfl
    have h13 := hd ⟨13, .data⟩ (by simp) rfl _ rfl
    exact jg_run (by rfl) rfl (wanted_none rfl) (ex_pick rfl h10 h13 rfl) (Mod.refl _ _) rfl
   ·intro tr act w' hm hout hsz hd hG hk hub
    have h14 := hd ⟨14, .data⟩ (by simp) rfl _ rfl
    exact jg_run (by rfl) rfl (wanted_none rfl) (ex_move rfl h14) (Mod.refl _ _) rfl
   ·intro tr act w' hm hout hsz hd hG hk hub
    have h15 := hd ⟨15, .guard⟩ (by simp) rfl _ rfl
    exact jg_skip (fun _ _ _ h => h) (by rfl) rfl ((wanted_of rfl rfl (hsz 23 (by decide)) h15).trans rfl) rfl
   ·intro tr act w' hm hout hsz hd hG hk hub
    have h15 := hd ⟨15, .guard⟩ (by simp) rfl _ rfl
    exact jg_skip (fun _ _ _ h => h) (by rfl) rfl ((wanted_of rfl rfl (hsz 23 (by decide)) h15).trans rfl) rfl
   ·intro tr act w' hm hout hsz hd hG hk hub
    have h15 := hd ⟨15, .guard⟩ (by simp) rfl _ rfl
    exact jg_skip (fun _ _ _ h => h) (by rfl) rfl ((wanted_of rfl rfl (hsz 23 (by decide)) h15).trans rfl) rfl
   ·intro tr act w' hm hout hsz hd hG hk hub
    have h15 := hd ⟨15, .data⟩ (by simp) rfl _ rfl
    have h18 := hd ⟨18, .data⟩ (by simp) rfl _ rfl
    exact jg_run (by rfl) rfl (wanted_none rfl) (ex_pick rfl h15 h18 rfl) (Mod.refl _ _) rfl
   ·intro tr act w' hm hout hsz hd hG hk hub
    have h19 := hd ⟨19, .data⟩ (by simp) rfl _ rfl
    exact jg_run (by rfl) rfl (wanted_none rfl) (ex_move rfl h19) (Mod.refl _ _) rfl
   ·intro tr act w' hm hout hsz hd hG hk hub
    have h20 := hd ⟨20, .guard⟩ (by simp) rfl _ rfl
    exact jg_skip (fun _ _ _ h => h) (by rfl) rfl ((wanted_of rfl rfl (hsz 28 (by decide)) h20).trans rfl) rfl
   ·intro tr act w' hm hout hsz hd hG hk hub
    have h20 := hd ⟨20, .guard⟩ (by simp) rfl _ rfl
    exact jg_skip (fun _ _ _ h => h) (by rfl) rfl ((wanted_of rfl rfl (hsz 28 (by decide)) h20).trans rfl) rfl
   ·intro tr act w' hm hout hsz hd hG hk hub
    have h20 := hd ⟨20, .guard⟩ (by simp) rfl _ rfl
    exact jg_skip (fun _ _ _ h => h) (by rfl) rfl ((wanted_of rfl rfl (hsz 28 (by decide)) h20).trans rfl) rfl
   ·intro tr act w' hm hout hsz hd hG hk hub
    have h20 := hd ⟨20, .data⟩ (by simp) rfl _ rfl
    have h23 := hd ⟨23, .data⟩ (by simp) rfl _ rfl
    exact jg_run (by rfl) rfl (wanted_none rfl) (ex_pick rfl h20 h23 rfl) (Mod.refl _ _) rfl
   ·intro tr act w' hm hout hsz hd hG hk hub
    have h24 := hd ⟨24, .data⟩ (by simp) rfl _ rfl
    exact jg_run (by rfl) rfl (wanted_none rfl) (ex_move rfl h24) (Mod.refl _ _) rfl
   ·intro tr act w' hm hout hsz hd hG hk hub
    have h25 := hd ⟨25, .guard⟩ (by simp) rfl _ rfl
    exact jg_skip (fun _ _ _ h => h) (by rfl) rfl ((wanted_of rfl rfl (hsz 33 (by decide)) h25).trans rfl) rfl
   ·intro tr act w' hm hout hsz hd hG hk hub
    have h25 := hd ⟨25, .guard⟩ (by simp) rfl _ rfl
    exact jg_skip (fun _ _ _ h => h) (by rfl) rfl ((wanted_of rfl rfl (hsz 33 (by decide)) h25).trans rfl) rfl
   ·intro tr act w' hm hout hsz hd hG hk hub
    have h25 := hd ⟨25, .guard⟩ (by simp) rfl _ rfl
    exact jg_skip (fun _ _ _ h => h) (by rfl) rfl ((wanted_of rfl rfl (hsz 33 (by decide)) h25).trans rfl) rfl
   ·intro tr act w' hm hout hsz hd hG hk hub
    have h25 := hd ⟨25, .data⟩ (by simp) rfl _ rfl
    have h28 := hd ⟨28, .data⟩ (by simp) rfl _ rfl
    exact jg_run (by rfl) rfl (wanted_none rfl) (ex_pick rfl h25 h28 rfl) (Mod.refl _ _) rfl
   ·intro tr act w' hm hout hsz hd hG hk hub
    have h29 := hd ⟨29, .data⟩ (by simp) rfl _ rfl
    exact jg_run (by rfl) rfl (wanted_none rfl) (ex_assign rfl h29) (Mod.refl _ _) rfl
   intro vs tr w3 hl htl hm hG hV
   obtain ⟨v0, vs0, rfl, hl0⟩ := list_cons hl
   obtain ⟨v1, vs1, rfl, hl1⟩ := list_cons hl0
   obtain ⟨v2, vs2, rfl, hl2⟩ := list_cons hl1
   obtain ⟨v3, vs3, rfl, hl3⟩ := list_cons hl2
   obtain ⟨v4, vs4, rfl, hl4⟩ := list_cons hl3
   obtain ⟨v5, vs5, rfl, hl5⟩ := list_cons hl4
   obtain ⟨v6, vs6, rfl, hl6⟩ := list_cons hl5
   obtain ⟨v7, vs7, rfl, hl7⟩ := list_cons hl6
   obtain ⟨v8, vs8, rfl, hl8⟩ := list_cons hl7
   obtain ⟨v9, vs9, rfl, hl9⟩ := list_cons hl8
   obtain ⟨v10, vs10, rfl, hl10⟩ := list_cons hl9
   obtain ⟨v11, vs11, rfl, hl11⟩ := list_cons hl10
   obtain ⟨v12, vs12, rfl, hl12⟩ := list_cons hl11
   obtain ⟨v13, vs13, rfl, hl13⟩ := list_cons hl12
   obtain ⟨v14, vs14, rfl, hl14⟩ := list_cons hl13
   obtain ⟨v15, vs15, rfl, hl15⟩ := list_cons hl14
   obtain ⟨v16, vs16, rfl, hl16⟩ := list_cons hl15
   obtain ⟨v17, vs17, rfl, hl17⟩ := list_cons hl16
   obtain ⟨v18, vs18, rfl, hl18⟩ := list_cons hl17
   obtain ⟨v19, vs19, rfl, hl19⟩ := list_cons hl18
   obtain ⟨v20, vs20, rfl, hl20⟩ := list_cons hl19
   obtain ⟨v21, vs21, rfl, hl21⟩ := list_cons hl20
   obtain ⟨v22, vs22, rfl, hl22⟩ := list_cons hl21
   obtain ⟨v23, vs23, rfl, hl23⟩ := list_cons hl22
   obtain ⟨v24, vs24, rfl, hl24⟩ := list_cons hl23
   obtain ⟨v25, vs25, rfl, hl25⟩ := list_cons hl24
   obtain ⟨v26, vs26, rfl, hl26⟩ := list_cons hl25
   obtain ⟨v27, vs27, rfl, hl27⟩ := list_cons hl26
   obtain ⟨v28, vs28, rfl, hl28⟩ := list_cons hl27
   obtain ⟨v29, vs29, rfl, hl29⟩ := list_cons hl28
   obtain ⟨v30, vs30, rfl, hl30⟩ := list_cons hl29
   obtain rfl := list_nil hl30
   clear hl hl0 hl1 hl2 hl3 hl4 hl5 hl6 hl7 hl8 hl9 hl10 hl11 hl12 hl13 hl14 hl15 hl16 hl17 hl18 hl19 hl20 hl21 hl22 hl23 hl24 hl25 hl26 hl27 hl28 hl29 hl30
   obtain rfl : v30 = .bool false := hV 30 _ rfl
   have ha0 := HA0.out
   subst ha0
   clear HA0 hV hsz0 oe2 oe3 oe5
   simp only [putAll, Act.put, List.setIfInBounds_toArray, List.set_cons_zero, List.set_cons_succ]
   have KM3 := Lib.hid (KM2.out.trans hm (fun _ _ h => h))
   clear hm hG
   go_wp2
   go_ret
   exact ⟨congrArg (fun z => Ending.returned (Value.bool z)) (show false = validF k c by unfold validF; (simp only [E0.out, E1.out, Bool.false_and, Bool.true_and] <;> rfl)), KM3.out⟩
 ·have E0 := Lib.hid (decide_eq_false c0)
  clear c0
  go_upto_region 2 with (fail)
  generalize ha0 : Act.mk _ _ = a0
  have oe2 : a0.eval (.tmp 2) = .pointer (some ⟨w.heap.size, 0, none⟩) := by rw [← ha0]; rfl
  have oe3 : a0.eval (.tmp 3) = .pointer (some ⟨w.heap.size + 1, 0, none⟩) := by rw [← ha0]; rfl
  have oe5 : a0.eval (.tmp 5) = .pointer (some ⟨q0, 0, none⟩) := by rw [← ha0]; rfl
  have hsz0 : a0.tmps.size = 38 := by rw [← ha0]; rfl
  have HA0 := Lib.hid ha0
  clear ha0
  refine wp_region_G 38 hsz0 (by kernel_rfl) (by kernel_rfl) [8, 9, 10, 11, 12, 13, 14, 15, 16, 17, 18, 19, 20, 21, 22, 23, 24, 25, 26, 27, 28, 29, 30, 31, 32, 33, 34, 35, 36, 37, 4] (by kernel_rfl) (by decide) (fun _ => False) (fun _ _ => False) (fun _ _ h => h) Still (fun _ _ _ h => h) (fun _ _ _ hm h => hm.trans h (fun _ _ h => h.elim)) [gi (.pointer (some ⟨q0, 0, none⟩)), gi (.int .i64 c.cl), gi (.bool false), gi (.bool false), gi (undef), gi (undef), gi (undef), gi (undef), gi (undef), gi (.bool false), gi (.bool false), gi (undef), gi (undef), gi (undef), gi (.bool false), gi (.bool false), gi (undef), gi (undef), gi (undef), gi (.bool false), gi (.bool false), gi (undef), gi (undef), gi (undef), gi (.bool false), gi (.bool false), gi (undef), gi (undef), gi (undef), gi (.bool false), gi (.bool false)] ⟨gi_stable, gi_stable, gi_stable, gi_stable, gi_stable, gi_stable, gi_stable, gi_stable, gi_stable, gi_stable, gi_stable, gi_stable, gi_stable, gi_stable, gi_stable, gi_stable, gi_stable, gi_stable, gi_stable, gi_stable, gi_stable, gi_stable, gi_stable, gi_stable, gi_stable, gi_stable, gi_stable, gi_stable, gi_stable, gi_stable, gi_stable, trivial⟩ [] (by kernel_rfl) (by decide) (by kernel_rfl) (fun _ _ => True) (fun _ _ _ _ _ => trivial) trivial ⟨?_, ?_, ?_, ?_, ?_, ?_, ?_, ?_, ?_, ?_, ?_, ?_, ?_, ?_, ?_, ?_, ?_, ?_, ?_, ?_, ?_, ?_, ?_, ?_, ?_, ?_, ?_, ?_, ?_, ?_, ?_, trivial⟩ ?_
  ·intro tr act w' hm hout hsz hd hG hk hub
   refine jg_run (by rfl) rfl (wanted_none rfl) (ex_field rfl Try.underlying30 rfl (by kernel_rfl) ((hout 5 (by decide)).trans oe5)) (Mod.refl _ _) ?_
   rfl
  ·intro tr act w' hm hout hsz hd hG hk hub
   have h0 := hd ⟨0, .data⟩ (by simp) rfl _ rfl
   exact jg_run (by rfl) rfl (wanted_none rfl) (ex_load1 rfl Try.underlying3 rfl h0 (by rw [(KQ.out.mod hm (fun h => h)).cell]; rfl)) (Mod.refl _ _) rfl
  ·intro tr act w' hm hout hsz hd hG hk hub
   have h1 := hd ⟨1, .data⟩ (by simp) rfl _ rfl
   refine jg_run (by rfl) rfl (wanted_none rfl) (ex_bin rfl h1 rfl (guard_ints _ _ _ _ _ _) (run_geq_i _ _ _ Try.underlying3)) (Mod.refl _ _) ?_
   exact congrArg Value.bool E0.out
  ·intro tr act w' hm hout hsz hd hG hk hub
   have h2 := hd ⟨2, .data⟩ (by simp) rfl _ rfl
   exact jg_run (by rfl) rfl (wanted_none rfl) (ex_move rfl h2) (Mod.refl _ _) rfl
  ·intro tr act w' hm hout hsz hd hG hk hub
   have h3 := hd ⟨3, .guard⟩ (by simp) rfl _ rfl
   exact jg_skip (fun _ _ _ h => h) (by rfl) rfl ((wanted_of rfl rfl (hsz 11 (by decide)) h3).trans rfl) rfl
  ·intro tr act w' hm hout hsz hd hG hk hub
   have h3 := hd ⟨3, .guard⟩ (by simp) rfl _ rfl
   exact jg_skip (fun _ _ _ h => h) (by rfl) rfl ((wanted_of rfl rfl (hsz 11 (by decide)) h3).trans rfl) rfl
  ·intro tr act w' hm hout hsz hd hG hk hub
   have h3 := hd ⟨3, .guard⟩ (by simp) rfl _ rfl
   exact jg_skip (fun _ _ _ h => h) (by rfl) rfl ((wanted_of rfl rfl (hsz 11 (by decide)) h3).trans rfl) rfl
  ·intro tr act w' hm hout hsz hd hG hk hub
   have h3 := hd ⟨3, .guard⟩ (by simp) rfl _ rfl
   exact jg_skip (fun _ _ _ h => h) (by rfl) rfl ((wanted_of rfl rfl (hsz 11 (by decide)) h3).trans rfl) rfl
  ·intro tr act w' hm hout hsz hd hG hk hub
   have h3 := hd ⟨3, .guard⟩ (by simp) rfl _ rfl
   exact jg_skip (fun _ _ _ h => h) (by rfl) rfl ((wanted_of rfl rfl (hsz 11 (by decide)) h3).trans rfl) rfl
  ·intro tr act w' hm hout hsz hd hG hk hub
   have h3 := hd ⟨3, .data⟩ (by simp) rfl _ rfl
   have h8 := hd ⟨8, .data⟩ (by simp) rfl _ rfl
   exact jg_run (by rfl) rfl (wanted_none rfl) (ex_pick rfl h3 h8 rfl) (Mod.refl _ _) rfl
  ·intro tr act w' hm hout hsz hd hG hk hub
   have h9 := hd ⟨9, .data⟩ (by simp) rfl _ rfl
   exact jg_run (by rfl) rfl (wanted_none rfl) (ex_move rfl h9) (Mod.refl _ _) rfl
  ·intro tr act w' hm hout hsz hd hG hk hub
   have h10 := hd ⟨10, .guard⟩ (by simp) rfl _ rfl
   exact jg_skip (fun _ _ _ h => h) (by rfl) rfl ((wanted_of rfl rfl (hsz 18 (by decide)) h10).trans rfl) rfl
  ·intro tr act w' hm hout hsz hd hG hk hub
   have h10 := hd ⟨10, .guard⟩ (by simp) rfl _ rfl
   exact jg_skip (fun _ _ _ h => h) (by rfl) rfl ((wanted_of rfl rfl (hsz 18 (by decide)) h10).trans rfl) rfl
  ·intro tr act w' hm hout hsz hd hG hk hub
   have h10 := hd ⟨10, .guard⟩ (by simp) rfl _ rfl
   exact jg_skip (fun _ _ _ h => h) (by rfl) rfl ((wanted_of rfl rfl (hsz 18 (by decide)) h10).trans rfl) rfl
  ·intro tr act w' hm hout hsz hd hG hk hub
   have h10 := hd ⟨10, .data⟩ (by simp) rfl _ rfl
   have h13 := hd ⟨13, .data⟩ (by simp) rfl _ rfl
   exact jg_run (by rfl) rfl (wanted_none rfl) (ex_pick rfl h10 h13 rfl) (Mod.refl _ _) rfl
  ·intro tr act w' hm hout hsz hd hG hk hub
   have h14 := hd ⟨14, .data⟩ (by simp) rfl _ rfl
   exact jg_run (by rfl) rfl (wanted_none rfl) (ex_move rfl h14) (Mod.refl _ _) rfl
  ·intro tr act w' hm hout hsz hd hG hk hub
   have h15 := hd ⟨15, .guard⟩ (by simp) rfl _ rfl
   exact jg_skip (fun _ _ _ h => h) (by rfl) rfl ((wanted_of rfl rfl (hsz 23 (by decide)) h15).trans rfl) rfl
  ·intro tr act w' hm hout hsz hd hG hk hub
   have h15 := hd ⟨15, .guard⟩ (by simp) rfl _ rfl
   exact jg_skip (fun _ _ _ h => h) (by rfl) rfl ((wanted_of rfl rfl (hsz 23 (by decide)) h15).trans rfl) rfl
  ·intro tr act w' hm hout hsz hd hG hk hub
   have h15 := hd ⟨15, .guard⟩ (by simp) rfl _ rfl
   exact jg_skip (fun _ _ _ h => h) (by rfl) rfl ((wanted_of rfl rfl (hsz 23 (by decide)) h15).trans rfl) rfl
  ·intro tr act w' hm hout hsz hd hG hk hub
   have h15 := hd ⟨15, .data⟩ (by simp) rfl _ rfl
   have h18 := hd ⟨18, .data⟩ (by simp) rfl _ rfl
   exact jg_run (by rfl) rfl (wanted_none rfl) (ex_pick rfl h15 h18 rfl) (Mod.refl _ _) rfl
  ·intro tr act w' hm hout hsz hd hG hk hub
   have h19 := hd ⟨19, .data⟩ (by simp) rfl _ rfl
   exact jg_run (by rfl) rfl (wanted_none rfl) (ex_move rfl h19) (Mod.refl _ _) rfl
  ·intro tr act w' hm hout hsz hd hG hk hub
   have h20 := hd ⟨20, .guard⟩ (by simp) rfl _ rfl
   exact jg_skip (fun _ _ _ h => h) (by rfl) rfl ((wanted_of rfl rfl (hsz 28 (by decide)) h20).trans rfl) rfl
  ·intro tr act w' hm hout hsz hd hG hk hub
   have h20 := hd ⟨20, .guard⟩ (by simp) rfl _ rfl
   exact jg_skip (fun _ _ _ h => h) (by rfl) rfl ((wanted_of rfl rfl (hsz 28 (by decide)) h20).trans rfl) rfl
  ·intro tr act w' hm hout hsz hd hG hk hub
   have h20 := hd ⟨20, .guard⟩ (by simp) rfl _ rfl
   exact jg_skip (fun _ _ _ h => h) (by rfl) rfl ((wanted_of rfl rfl (hsz 28 (by decide)) h20).trans rfl) rfl
  ·intro tr act w' hm hout hsz hd hG hk hub
   have h20 := hd ⟨20, .data⟩ (by simp) rfl _ rfl
   have h23 := hd ⟨23, .data⟩ (by simp) rfl _ rfl
   exact jg_run (by rfl) rfl (wanted_none rfl) (ex_pick rfl h20 h23 rfl) (Mod.refl _ _) rfl
  ·intro tr act w' hm hout hsz hd hG hk hub
   have h24 := hd ⟨24, .data⟩ (by simp) rfl _ rfl
   exact jg_run (by rfl) rfl (wanted_none rfl) (ex_move rfl h24) (Mod.refl _ _) rfl
  ·intro tr act w' hm hout hsz hd hG hk hub
   have h25 := hd ⟨25, .guard⟩ (by simp) rfl _ rfl
   exact jg_skip (fun _ _ _ h => h) (by rfl) rfl ((wanted_of rfl rfl (hsz 33 (by decide)) h25).trans rfl) rfl
  ·intro tr act w' hm hout hsz hd hG hk hub
   have h25 := hd ⟨25, .guard⟩ (by simp) rfl _ rfl
   exact jg_skip (fun _ _ _ h => h) (by rfl) rfl ((wanted_of rfl rfl (hsz 33 (by decide)) h25).trans rfl) rfl
  ·intro tr act w' hm hout hsz hd hG hk hub
   have h25 := hd ⟨25, .guard⟩ (by simp) rfl _ rfl
   exact jg_skip (fun _ _ _ h => h) (by rfl) rfl ((wanted_of rfl rfl (hsz 33 (by decide)) h25).trans rfl) rfl
  ·intro tr act w' hm hout hsz hd hG hk hub
   have h25 := hd ⟨25, .data⟩ (by simp) rfl _ rfl
   have h28 := hd ⟨28, .data⟩ (by simp) rfl _ rfl
   exact jg_run (by rfl) rfl (wanted_none rfl) (ex_pick rfl h25 h28 rfl) (Mod.refl _ _) rfl
  ·intro tr act w' hm hout hsz hd hG hk hub
   have h29 := hd ⟨29, .data⟩ (by simp) rfl _ rfl
   exact jg_run (by rfl) rfl (wanted_none rfl) (ex_assign rfl h29) (Mod.refl _ _) rfl
  intro vs tr w3 hl htl hm hG hV
  obtain ⟨v0, vs0, rfl, hl0⟩ := list_cons hl
  obtain ⟨v1, vs1, rfl, hl1⟩ := list_cons hl0
  obtain ⟨v2, vs2, rfl, hl2⟩ := list_cons hl1
  obtain ⟨v3, vs3, rfl, hl3⟩ := list_cons hl2
  obtain ⟨v4, vs4, rfl, hl4⟩ := list_cons hl3
  obtain ⟨v5, vs5, rfl, hl5⟩ := list_cons hl4
  obtain ⟨v6, vs6, rfl, hl6⟩ := list_cons hl5
  obtain ⟨v7, vs7, rfl, hl7⟩ := list_cons hl6
  obtain ⟨v8, vs8, rfl, hl8⟩ := list_cons hl7
  obtain ⟨v9, vs9, rfl, hl9⟩ := list_cons hl8
  obtain ⟨v10, vs10, rfl, hl10⟩ := list_cons hl9
  obtain ⟨v11, vs11, rfl, hl11⟩ := list_cons hl10
  obtain ⟨v12, vs12, rfl, hl12⟩ := list_cons hl11
  obtain ⟨v13, vs13, rfl, hl13⟩ := list_cons hl12
  obtain ⟨v14, vs14, rfl, hl14⟩ := list_cons hl13
  obtain ⟨v15, vs15, rfl, hl15⟩ := list_cons hl14
  obtain ⟨v16, vs16, rfl, hl16⟩ := list_cons hl15
  obtain ⟨v17, vs17, rfl, hl17⟩ := list_cons hl16
  obtain ⟨v18, vs18, rfl, hl18⟩ := list_cons hl17
  obtain ⟨v19, vs19, rfl, hl19⟩ := list_cons hl18
  obtain ⟨v20, vs20, rfl, hl20⟩ := list_cons hl19
  obtain ⟨v21, vs21, rfl, hl21⟩ := list_cons hl20
  obtain ⟨v22, vs22, rfl, hl22⟩ := list_cons hl21
  obtain ⟨v23, vs23, rfl, hl23⟩ := list_cons hl22
  obtain ⟨v24, vs24, rfl, hl24⟩ := list_cons hl23
  obtain ⟨v25, vs25, rfl, hl25⟩ := list_cons hl24
  obtain ⟨v26, vs26, rfl, hl26⟩ := list_cons hl25
  obtain ⟨v27, vs27, rfl, hl27⟩ := list_cons hl26
  obtain ⟨v28, vs28, rfl, hl28⟩ := list_cons hl27
  obtain ⟨v29, vs29, rfl, hl29⟩ := list_cons hl28
  obtain ⟨v30, vs30, rfl, hl30⟩ := list_cons hl29
  obtain rfl := list_nil hl30
  clear hl hl0 hl1 hl2 hl3 hl4 hl5 hl6 hl7 hl8 hl9 hl10 hl11 hl12 hl13 hl14 hl15 hl16 hl17 hl18 hl19 hl20 hl21 hl22 hl23 hl24 hl25 hl26 hl27 hl28 hl29 hl30
  obtain rfl : v30 = .bool false := hV 30 _ rfl
  have ha0 := HA0.out
  subst ha0
  clear HA0 hV hsz0 oe2 oe3 oe5
  simp only [putAll, Act.put, List.setIfInBounds_toArray, List.set_cons_zero, List.set_cons_succ]
  have KM3 := Lib.hid (KM2.out.trans hm (fun _ _ h => h))
  clear hm hG
  go_wp2
  go_ret
  exact ⟨congrArg (fun z => Ending.returned (Value.bool z)) (show false = validF k c by unfold validF; (simp only [E0.out, Bool.false_and] <;> rfl)), KM3.out⟩
/-- an opening's cells -/
def opC (i : Int) (v : Value) (h : List Int) : List Value := [.int .i64 i, v] ++ h.map bv
theorem Op.hash {w : World} {g : Nat} {i : Int} {v : Value} {h : List Int} {T : TypeId} (hc : Cs w g (opC i v h).toArray T) : ∀ j u, (h.map bv)[j]? = some u → w.cell? ⟨g, 2 + j, none⟩ = some u := by
 intro j u hu
 rw [hc.cell]
 simp only [List.getElem?_toArray, opC]
 rw [List.getElem?_append_right (by simp)]
 simpa using hu
end Go.Proofs.Ytbifincepglilaa

/- commit.Make, Right. -/
namespace Go.Proofs.Ytbifincepglilaa
open Go Go.RowKit Go.Gv

theorem Cm.one (c : Cm) : ∀ u ∈ c.cells, u.oneCell' = true := by
  intro u hu
  simp only [Cm.cells, List.mem_append, List.mem_cons, List.not_mem_nil, or_false, List.mem_map] at hu
  rcases hu with (rfl | rfl) | ⟨x, -, rfl⟩ | rfl | rfl | rfl <;> rfl
theorem laid_commit (a b : Int) (X : List Int) (n : Int) (hX : X.length = 32) : laid [(0, 2), (2, 32), (34, 1), (35, 2)] [.int .i64 0, .int .i64 0, .int .u8 0, .int .u8 0, .int .u8 0, .int .u8 0, .int .u8 0, .int .u8 0, .int .u8 0, .int .u8 0, .int .u8 0, .int .u8 0, .int .u8 0, .int .u8 0, .int .u8 0, .int .u8 0, .int .u8 0, .int .u8 0, .int .u8 0, .int .u8 0, .int .u8 0, .int .u8 0, .int .u8 0, .int .u8 0, .int .u8 0, .int .u8 0, .int .u8 0, .int .u8 0, .int .u8 0, .int .u8 0, .int .u8 0, .int .u8 0, .int .u8 0, .int .u8 0, .int .i64 0, .int .i64 0, .int .i64 0] [(0, .agg #[.int .i64 a, .int .i64 b]), (1, hv X), (2, .int .i64 n)] = some (Cm.cells ⟨a, b, X, n, 0, 0⟩) := by
  have h1 : (hv X).cells.toList = X.map bv := by simp [hv, Value.cells]
  have h2 : (hv X).cells.size = 32 := by simp [hv, Value.cells, hX]
  unfold laid
  simp only [List.getElem?_cons_zero]
  rw [if_neg (by simp [Value.cells])]
  unfold laid
  simp only [List.getElem?_cons_succ, List.getElem?_cons_zero]
  rw [if_neg (by rw [h2]; simp [Value.cells]), h1]
  unfold laid
  simp only [List.getElem?_cons_succ, List.getElem?_cons_zero]
  rw [if_neg (by simp [Value.cells, hX])]
  unfold laid
  congr 1
  unfold Cm.cells
  have e : ∀ (A B : List Value) (u : Value), A.length = 34 → (A ++ u :: B).take 34 ++ [Value.int .i64 n] ++ (A ++ u :: B).drop 35 = A ++ .int .i64 n :: B := by
    intro A B u hA
    rw [List.take_append_of_le_length (by omega), List.take_of_length_le (by omega), List.drop_append, List.drop_eq_nil_of_le (by omega), show 35 - A.length = 1 by omega]
    simp
  have := e ([Value.int .i64 a, .int .i64 b] ++ X.map bv) [.int .i64 0, .int .i64 0] (.int .i64 0) (by simp [hX])
  simpa [Value.cells] using this
theorem lay_sig (c : Cm) (y m : Int) (hl : c.h.length = 32) : lay c.cells.toArray 35 [.int .i64 y, .int .i64 m] = (Cm.cells { c with sb := y, mr := m }).toArray := by
  unfold lay
  congr 1
  have e : c.cells = ([Value.int .i64 c.cl, .int .i64 c.sq] ++ c.h.map bv ++ [.int .i64 c.ln]) ++ [.int .i64 c.sb, .int .i64 c.mr] := by simp [Cm.cells]
  have hl2 : ([Value.int .i64 c.cl, .int .i64 c.sq] ++ c.h.map bv ++ [Value.int .i64 c.ln]).length = 35 := by simp [hl]
  simp only [List.length_cons, List.length_nil]
  rw [e, List.take_append_of_le_length (by omega), List.take_of_length_le (by omega), List.drop_eq_nil_of_le (by simp [hl])]
  simp [Cm.cells]
def SgSt (g b q : Nat) (L L' : List (Int × List Int)) (c0 c1 : Cm) : Nat → List Value → World → Prop := fun k _ w => match k with
  | 0 => BookIs w g b L ∧ Cs w q c0.cells.toArray 36
  | 1 => BookIs w g b L' ∧ Cs w q c0.cells.toArray 36
  | _ => BookIs w g b L' ∧ Cs w q c1.cells.toArray 36
theorem SgSt_still {g b q : Nat} {L L' : List (Int × List Int)} {c0 c1 : Cm} : ∀ k t w w', SgSt g b q L L' c0 c1 k t w → Mod (fun _ => False) w w' → SgSt g b q L L' c0 c1 k t w' := by
  intro k t w w' h hm
  match k, h with
  | 0, h | 1, h => exact ⟨h.1.mod hm (fun h => h) (fun h => h), h.2.mod hm (fun h => h)⟩
  | k + 2, h => exact ⟨h.1.mod hm (fun h => h) (fun h => h), h.2.mod hm (fun h => h)⟩
def cm0 (a b : Int) (h bs : List Int) : Cm := ⟨a, b, shaF (ofT a b h bs), bs.length, 0, 0⟩
def mkKey (a b : Int) (h bs : List Int) : Int × List Int := (1000 + a, txT (cm0 a b h bs))
def mkBook (L : List (Int × List Int)) (a b : Int) (h bs : List Int) : List (Int × List Int) := signF L (mkKey a b h bs)
def mkCm (L : List (Int × List Int)) (a b : Int) (h bs : List Int) : Cm := { cm0 a b h bs with sb := 1000 + a, mr := mkN (mkBook L a b h bs) (mkKey a b h bs) }
set_option maxHeartbeats 4000000 in
theorem Make_any {w : World} {g b' : Nat} {L : List (Int × List Int)} (hbk : BookIs w g b' L) (hLL : L.length ≤ 1000000) (a b : Int) (h bs : List Int) (v : Value) (ha : I64 a) (hsi : I64 (1000 + a)) (hb : I64 b) (hh : HK h) (hr : RdB w v bs) (hl : bs.length ≤ 800000) :
    Calls Try.prog 10 #[.pointer (some ⟨g, 0, none⟩), .agg #[.int .i64 a, .int .i64 b], hv h, v] w fun e w' => e = .returned (mkCm L a b h bs).val ∧ BookIs w' g b' (mkBook L a b h bs) ∧ Mod (fun k => k = b') w w' := by
  have zg := hbk.cell.lt
  have zb := hbk.map.lt
  have HNE := Lib.hid hbk.ne
  have HBK := Lib.hid hbk
  have HLL := Lib.hid hLL
  have HA := Lib.hid ha
  have HSI := Lib.hid hsi
  have HB := Lib.hid hb
  have HH := Lib.hid hh
  have HR := Lib.hid hr
  have HLB := Lib.hid hl
  have hbl := hr.block_lt
  obtain ⟨ao, cap, hv0, -, -⟩ := hr.shape
  have HV := Lib.hid hv0
  have h0k : (cm0 a b h bs).OK := ⟨⟨ha, hb, ⟨by simp only [cm0]; omega, by simp only [cm0]; omega⟩, ⟨by simp [cm0], by simp [cm0]⟩, ⟨by simp [cm0], by simp [cm0]⟩⟩, shaF_len _, shaF_bytes _⟩
  obtain ⟨c0, hc0⟩ : ∃ c, c = cm0 a b h bs := ⟨_, rfl⟩
  obtain ⟨c1, hc1⟩ : ∃ c, c = mkCm L a b h bs := ⟨_, rfl⟩
  have H0K := Lib.hid (show c0.OK by rw [hc0]; exact h0k)
  have H0L := Lib.hid (show c0.h.length = 32 by rw [hc0]; exact shaF_len _)
  have H1L := Lib.hid (show c1.h.length = 32 by rw [hc1]; exact shaF_len _)
  have H0 := Lib.hid (show c0 = ⟨a, b, shaF (ofT a b h bs), bs.length, 0, 0⟩ from hc0)
  have H1 := Lib.hid (show c1 = { c0 with sb := 1000 + a, mr := mkN (signF L (1000 + a, txT c0)) (1000 + a, txT c0) } by rw [hc1, hc0]; rfl)
  have HBN := Lib.hid (show mkBook L a b h bs = signF L (1000 + a, txT c0) by rw [hc0]; rfl)
  obtain ⟨zc, hzc⟩ : ∃ z : List Value, z = [.int .i64 0, .int .i64 0, .int .u8 0, .int .u8 0, .int .u8 0, .int .u8 0, .int .u8 0, .int .u8 0, .int .u8 0, .int .u8 0, .int .u8 0, .int .u8 0, .int .u8 0, .int .u8 0, .int .u8 0, .int .u8 0, .int .u8 0, .int .u8 0, .int .u8 0, .int .u8 0, .int .u8 0, .int .u8 0, .int .u8 0, .int .u8 0, .int .u8 0, .int .u8 0, .int .u8 0, .int .u8 0, .int .u8 0, .int .u8 0, .int .u8 0, .int .u8 0, .int .u8 0, .int .u8 0, .int .i64 0, .int .i64 0, .int .i64 0] := ⟨_, rfl⟩
  have HZC := Lib.hid hzc
  have HZL := Lib.hid (show zc.length = 37 by rw [hzc]; rfl)
  rw [← hc1]
  clear hbk hLL ha hsi hb hh hr hl hv0 h0k hc0 hc1 hzc
  change Calls _ _ #[.pointer (some ⟨g, 0, none⟩), .agg #[.int .i64 a, .int .i64 b], .agg (h.map bv).toArray, v] _ _
  go_enter Try.func10, Try.ntmps10
  go_upto_region 1 with (fail)
  obtain ⟨w1, hw1⟩ : ∃ z, z = ((w.alloc (.cells #[.int .i64 a, .int .i64 b] 30)).alloc (.cells (h.map bv).toArray 32)).alloc (.cells zc.toArray 36) := ⟨_, rfl⟩
  rw [HZC.out] at hw1
  change Code.wp _ _ _ _ (((w.alloc (.cells #[.int .i64 a, .int .i64 b] 30)).alloc (.cells (h.map bv).toArray 32)).alloc (.cells ([.int .i64 0, .int .i64 0, .int .u8 0, .int .u8 0, .int .u8 0, .int .u8 0, .int .u8 0, .int .u8 0, .int .u8 0, .int .u8 0, .int .u8 0, .int .u8 0, .int .u8 0, .int .u8 0, .int .u8 0, .int .u8 0, .int .u8 0, .int .u8 0, .int .u8 0, .int .u8 0, .int .u8 0, .int .u8 0, .int .u8 0, .int .u8 0, .int .u8 0, .int .u8 0, .int .u8 0, .int .u8 0, .int .u8 0, .int .u8 0, .int .u8 0, .int .u8 0, .int .u8 0, .int .u8 0, .int .i64 0, .int .i64 0, .int .i64 0] : List Value).toArray 36))
  rw [← hw1]
  rw [← HZC.out] at hw1
  have KN := Lib.hid (show Cs w1 w.heap.size #[.int .i64 a, .int .i64 b] 30 by rw [hw1]; exact ((Cs.new _ _ _).alloc _).alloc _)
  have KH := Lib.hid (show Cs w1 (w.heap.size + 1) (h.map bv).toArray 32 by rw [hw1]; exact (Cs_new1 _ _ _ _).alloc _)
  have KR := Lib.hid (show Cs w1 (w.heap.size + 1 + 1) zc.toArray 36 by
    rw [hw1]
    have := Cs_new1 (w.alloc (.cells #[.int .i64 a, .int .i64 b] 30)) (.cells (h.map bv).toArray 32) zc.toArray 36
    rwa [show (w.alloc (.cells #[.int .i64 a, .int .i64 b] 30)).heap.size = w.heap.size + 1 by simp] at this)
  have KM := Lib.hid (show Mod (fun _ => False) w w1 by rw [hw1]; exact (((Mod.refl _ _).alloc _).alloc _).alloc _)
  have hs1 : w1.heap.size = w.heap.size + 3 := by rw [hw1]; simp
  have HAP := Lib.hid (show Apart v bs.length (fun j => w1.heap.size ≤ j) from fun h0 g hg h => by have := hbl h0 g hg; omega)
  clear hw1 hbl
  generalize ha0 : Act.mk _ _ = a0
  have oe3 : a0.eval (.tmp 3) = v := by rw [← ha0]; rfl
  have oe5 : a0.eval (.tmp 5) = .pointer (some ⟨w.heap.size, 0, none⟩) := by rw [← ha0]; rfl
  have oe6 : a0.eval (.tmp 6) = .pointer (some ⟨w.heap.size + 1, 0, none⟩) := by rw [← ha0]; rfl
  have hsz0 : a0.tmps.size = 27 := by rw [← ha0]; rfl
  have HA0 := Lib.hid ha0
  clear ha0
  refine wp_region_A 27 hsz0 (by kernel_rfl) (by kernel_rfl) [10, 11, 12, 13, 14, 15, 16, 17, 9, 36] (by kernel_rfl) (by decide) (fun j => w1.heap.size ≤ j) (fun _ _ => False) (fun _ _ h => h.elim) Still (fun _ _ _ h => h) (fun _ _ _ hm h => hm.trans h (fun _ _ h => h.elim)) [gi (.agg #[.int .i64 a, .int .i64 b]), gi (.agg #[.int .i64 a, .int .i64 b]), gi (hv h), gi (v), gi (hv (shaF (ofT a b h bs))), gi (v), gi (.int .i64 bs.length), gi (c0.val), ga, ga] ⟨gi_stable, gi_stable, gi_stable, gi_stable, gi_stable, gi_stable, gi_stable, gi_stable, ga_stable, ga_stable, trivial⟩ [] (by kernel_rfl) (by decide) (by kernel_rfl) (fun _ _ => True) (fun _ _ _ _ _ => trivial) trivial [⟨8, 9, 36, [.int .i64 0, .int .i64 0, .int .u8 0, .int .u8 0, .int .u8 0, .int .u8 0, .int .u8 0, .int .u8 0, .int .u8 0, .int .u8 0, .int .u8 0, .int .u8 0, .int .u8 0, .int .u8 0, .int .u8 0, .int .u8 0, .int .u8 0, .int .u8 0, .int .u8 0, .int .u8 0, .int .u8 0, .int .u8 0, .int .u8 0, .int .u8 0, .int .u8 0, .int .u8 0, .int .u8 0, .int .u8 0, .int .u8 0, .int .u8 0, .int .u8 0, .int .u8 0, .int .u8 0, .int .u8 0, .int .i64 0, .int .i64 0, .int .i64 0], c0.cells⟩] (by kernel_rfl) (by intro r hr; simp only [List.mem_cons, List.not_mem_nil, or_false] at hr; rcases hr with rfl <;> exact ⟨rfl, rfl⟩) (fun _ _ h => h.elim) (fun _ h => h) stillA (fun _ _ _ _ _ _ => trivial) (AllEnd.get _ ⟨gi_end, gi_end, gi_end, gi_end, gi_end, gi_end, gi_end, gi_end, ga_end, ga_end, trivial⟩) (by intro r hr; simp only [List.mem_cons, List.not_mem_nil, or_false] at hr; rcases hr with rfl <;> exact ⟨of_decide_eq_true (by kernel_rfl), of_decide_eq_true (by kernel_rfl)⟩) (by intro r hr; simp only [List.mem_cons, List.not_mem_nil, or_false] at hr; rcases hr with rfl <;> exact fun _ _ _ => ⟨trivial, trivial⟩) ⟨?_, ?_, ?_, ?_, ?_, ?_, ?_, ?_, ?_, ?_, trivial⟩ ?_
  · refine ⟨fun r hr e => ?_, fun r hr e => ?_, fun hno => ?_⟩
    · simp only [List.mem_cons, List.not_mem_nil, or_false] at hr
      rcases hr with rfl
      · simp at e
    · simp only [List.mem_cons, List.not_mem_nil, or_false] at hr
      rcases hr with rfl
      · simp at e
    · intro tr act w' hm hout hsz hd hG hk hub
      exact jg_run (by rfl) rfl (wanted_none rfl) (ex_loadA rfl Try.underlying30 rfl (off := 0) (cs := [.int .i64 a, .int .i64 b]) (by kernel_rfl) ((hout 5 (by decide)).trans oe5) (Cs.whole (KN.out.mod hm (by omega)))) (Mod.refl _ _) rfl
  · refine ⟨fun r hr e => ?_, fun r hr e => ?_, fun hno => ?_⟩
    · simp only [List.mem_cons, List.not_mem_nil, or_false] at hr
      rcases hr with rfl
      · simp at e
    · simp only [List.mem_cons, List.not_mem_nil, or_false] at hr
      rcases hr with rfl
      · simp at e
    · intro tr act w' hm hout hsz hd hG hk hub
      exact jg_run (by rfl) rfl (wanted_none rfl) (ex_loadA rfl Try.underlying30 rfl (off := 0) (cs := [.int .i64 a, .int .i64 b]) (by kernel_rfl) ((hout 5 (by decide)).trans oe5) (Cs.whole (KN.out.mod hm (by omega)))) (Mod.refl _ _) rfl
  · refine ⟨fun r hr e => ?_, fun r hr e => ?_, fun hno => ?_⟩
    · simp only [List.mem_cons, List.not_mem_nil, or_false] at hr
      rcases hr with rfl
      · simp at e
    · simp only [List.mem_cons, List.not_mem_nil, or_false] at hr
      rcases hr with rfl
      · simp at e
    · intro tr act w' hm hout hsz hd hG hk hub
      exact jg_run (by rfl) rfl (wanted_none rfl) (ex_loadA rfl Try.underlying32 rfl (off := 0) (cs := h.map bv) (by rw [List.length_map, HH.out.1]; exact size_hash) ((hout 6 (by decide)).trans oe6) (Cs.whole (KH.out.mod hm (by omega)))) (Mod.refl _ _) rfl
  · refine ⟨fun r hr e => ?_, fun r hr e => ?_, fun hno => ?_⟩
    · simp only [List.mem_cons, List.not_mem_nil, or_false] at hr
      rcases hr with rfl
      · simp at e
    · simp only [List.mem_cons, List.not_mem_nil, or_false] at hr
      rcases hr with rfl
      · simp at e
    · intro tr act w' hm hout hsz hd hG hk hub
      exact jg_run (by rfl) rfl (wanted_none rfl) (ex_move rfl ((hout 3 (by decide)).trans oe3)) (Mod.refl _ _) rfl
  · refine ⟨fun r hr e => ?_, fun r hr e => ?_, fun hno => ?_⟩
    · simp only [List.mem_cons, List.not_mem_nil, or_false] at hr
      rcases hr with rfl
      · simp at e
    · simp only [List.mem_cons, List.not_mem_nil, or_false] at hr
      rcases hr with rfl
      · simp at e
    · intro tr act w' hm hout hsz hd hG hk hub
      have h1 := hd ⟨1, .data⟩ (by simp) rfl _ rfl
      have h2 := hd ⟨2, .data⟩ (by simp) rfl _ rfl
      have h3 := hd ⟨3, .data⟩ (by simp) rfl _ rfl
      refine jg_call (args := #[.agg #[.int .i64 a, .int .i64 b], hv h, v]) (by rfl) rfl (wanted_none rfl) (by rw [ex_callF rfl Try.func26 (by kernel_rfl) (by kernel_rfl)]; exact congrArg (fun z => Result.ok (Next.enter _ z) _) (by simp only [List.map_toArray, List.map_cons, List.map_nil, show act.eval (.tmp 11) = _ from h1, show act.eval (.tmp 12) = _ from h2, show act.eval (.tmp 13) = _ from h3]; try rfl)) (Of_any a b h bs v _ HA.out HB.out HH.out.1 HH.out.2 ((HR.out.mod KM.out (fun _ _ _ h => h)).mod hm HAP.out) HLB.out) ?_
      rintro e w2 ⟨rfl, hm2⟩
      exact ⟨_, rfl, hm2, rfl⟩
  · refine ⟨fun r hr e => ?_, fun r hr e => ?_, fun hno => ?_⟩
    · simp only [List.mem_cons, List.not_mem_nil, or_false] at hr
      rcases hr with rfl
      · simp at e
    · simp only [List.mem_cons, List.not_mem_nil, or_false] at hr
      rcases hr with rfl
      · simp at e
    · intro tr act w' hm hout hsz hd hG hk hub
      exact jg_run (by rfl) rfl (wanted_none rfl) (ex_move rfl ((hout 3 (by decide)).trans oe3)) (Mod.refl _ _) rfl
  · refine ⟨fun r hr e => ?_, fun r hr e => ?_, fun hno => ?_⟩
    · simp only [List.mem_cons, List.not_mem_nil, or_false] at hr
      rcases hr with rfl
      · simp at e
    · simp only [List.mem_cons, List.not_mem_nil, or_false] at hr
      rcases hr with rfl
      · simp at e
    · intro tr act w' hm hout hsz hd hG hk hub
      have h5 := hd ⟨5, .data⟩ (by simp) rfl _ rfl
      exact jg_run (by rfl) rfl (wanted_none rfl) (ex_lenS rfl (h5.trans HV.out) Try.underlying38) (Mod.refl _ _) rfl
  · refine ⟨fun r hr e => ?_, fun r hr e => ?_, fun hno => ?_⟩
    · simp only [List.mem_cons, List.not_mem_nil, or_false] at hr
      rcases hr with rfl
      · simp at e
    · simp only [List.mem_cons, List.not_mem_nil, or_false] at hr
      rcases hr with rfl
      · simp at e
    · intro tr act w' hm hout hsz hd hG hk hub
      have h0 := hd ⟨0, .data⟩ (by simp) rfl _ rfl
      have h4 := hd ⟨4, .data⟩ (by simp) rfl _ rfl
      have h6 := hd ⟨6, .data⟩ (by simp) rfl _ rfl
      exact jg_run (by rfl) rfl (wanted_none rfl) (ex_build rfl (z := [.int .i64 0, .int .i64 0, .int .u8 0, .int .u8 0, .int .u8 0, .int .u8 0, .int .u8 0, .int .u8 0, .int .u8 0, .int .u8 0, .int .u8 0, .int .u8 0, .int .u8 0, .int .u8 0, .int .u8 0, .int .u8 0, .int .u8 0, .int .u8 0, .int .u8 0, .int .u8 0, .int .u8 0, .int .u8 0, .int .u8 0, .int .u8 0, .int .u8 0, .int .u8 0, .int .u8 0, .int .u8 0, .int .u8 0, .int .u8 0, .int .u8 0, .int .u8 0, .int .u8 0, .int .u8 0, .int .i64 0, .int .i64 0, .int .i64 0]) (places := [(0, 2), (2, 32), (34, 1), (35, 2)]) (by kernel_rfl) (parts := [(0, .agg #[.int .i64 a, .int .i64 b]), (1, hv (shaF (ofT a b h bs))), (2, .int .i64 bs.length)]) (by simp only [List.map_toArray, List.map_cons, List.map_nil, show act.eval (.tmp 10) = _ from h0, show act.eval (.tmp 14) = _ from h4, show act.eval (.tmp 16) = _ from h6]; try rfl) (r := c0.cells) (by rw [H0.out]; exact laid_commit a b _ _ (shaF_len _))) (Mod.refl _ _) rfl
  · refine ⟨fun r hr e => ?_, fun r hr e => ?_, fun hno => ?_⟩
    · simp only [List.mem_cons, List.not_mem_nil, or_false] at hr
      rcases hr with rfl
      · exact ⟨rfl, rfl, by kernel_rfl, (by rw [Cm.len H0L.out]; rfl), (Cm.one c0), (by rw [Cm.len H0L.out]; exact size_commit)⟩
    · simp only [List.mem_cons, List.not_mem_nil, or_false] at hr
      rcases hr with rfl
      · simp at e
    · exact absurd rfl (hno ⟨8, 9, 36, [.int .i64 0, .int .i64 0, .int .u8 0, .int .u8 0, .int .u8 0, .int .u8 0, .int .u8 0, .int .u8 0, .int .u8 0, .int .u8 0, .int .u8 0, .int .u8 0, .int .u8 0, .int .u8 0, .int .u8 0, .int .u8 0, .int .u8 0, .int .u8 0, .int .u8 0, .int .u8 0, .int .u8 0, .int .u8 0, .int .u8 0, .int .u8 0, .int .u8 0, .int .u8 0, .int .u8 0, .int .u8 0, .int .u8 0, .int .u8 0, .int .u8 0, .int .u8 0, .int .u8 0, .int .u8 0, .int .i64 0, .int .i64 0, .int .i64 0], c0.cells⟩ (by simp)).1
  · refine ⟨fun r hr e => ?_, fun r hr e => ?_, fun hno => ?_⟩
    · simp only [List.mem_cons, List.not_mem_nil, or_false] at hr
      rcases hr with rfl
      · simp at e
    · simp only [List.mem_cons, List.not_mem_nil, or_false] at hr
      rcases hr with rfl
      · refine ⟨rfl, _, (.tmp 17), rfl, by decide, rfl, by kernel_rfl, by kernel_rfl, fun tr act w' hm hout hd hG => ?_⟩
        have h7 := hd ⟨7, .data⟩ (by simp) rfl _ rfl
        rw [show act.eval ((.tmp 17)) = _ from h7]
        rfl
    · exact absurd rfl (hno ⟨8, 9, 36, [.int .i64 0, .int .i64 0, .int .u8 0, .int .u8 0, .int .u8 0, .int .u8 0, .int .u8 0, .int .u8 0, .int .u8 0, .int .u8 0, .int .u8 0, .int .u8 0, .int .u8 0, .int .u8 0, .int .u8 0, .int .u8 0, .int .u8 0, .int .u8 0, .int .u8 0, .int .u8 0, .int .u8 0, .int .u8 0, .int .u8 0, .int .u8 0, .int .u8 0, .int .u8 0, .int .u8 0, .int .u8 0, .int .u8 0, .int .u8 0, .int .u8 0, .int .u8 0, .int .u8 0, .int .u8 0, .int .i64 0, .int .i64 0, .int .i64 0], c0.cells⟩ (by simp)).2
  intro vs tr w2 hl htl hm hG hV hAL hNE
  obtain ⟨v0, vs0, rfl, hl0⟩ := list_cons hl
  obtain ⟨v1, vs1, rfl, hl1⟩ := list_cons hl0
  obtain ⟨v2, vs2, rfl, hl2⟩ := list_cons hl1
  obtain ⟨v3, vs3, rfl, hl3⟩ := list_cons hl2
  obtain ⟨v4, vs4, rfl, hl4⟩ := list_cons hl3
  obtain ⟨v5, vs5, rfl, hl5⟩ := list_cons hl4
  obtain ⟨v6, vs6, rfl, hl6⟩ := list_cons hl5
  obtain ⟨v7, vs7, rfl, hl7⟩ := list_cons hl6
  obtain ⟨v8, vs8, rfl, hl8⟩ := list_cons hl7
  obtain ⟨v9, vs9, rfl, hl9⟩ := list_cons hl8
  obtain rfl := list_nil hl9
  obtain ⟨q0, fq0, hqB0, hqC0⟩ := hAL _ (by simp only [List.mem_cons, List.not_mem_nil, or_false]; trivial)
  obtain rfl : v8 = _ := Option.some.inj fq0
  clear hl hl0 hl1 hl2 hl3 hl4 hl5 hl6 hl7 hl8 hl9
  have ha0 := HA0.out
  subst ha0
  clear HA0 hV hsz0 oe3 oe5 oe6
  simp only [putAll, Act.put, List.setIfInBounds_toArray, List.set_cons_zero, List.set_cons_succ, List.set_nil]
  have KN2 := Lib.hid (KN.out.mod hm (by omega))
  have KR2a := Lib.hid (KR.out.mod hm (by omega))
  have KM2 := Lib.hid (KM.out.trans hm (fun k h1 h2 => by omega))
  have HG0 := Lib.hid (show ByLen (SgSt g b' q0 L (signF L (1000 + a, txT c0)) c0 c1) [] w2 from ⟨HBK.out.mod KM2.out (fun h => h) (fun h => h), hqC0⟩)
  clear hm hG hAL hNE hqC0 fq0 KN KH KR KM
  go_upto_region 2 with (fail)
  generalize ha0 : Act.mk _ _ = a0
  have oe0 : a0.eval (.tmp 0) = .pointer (some ⟨g, 0, none⟩) := by rw [← ha0]; rfl
  have oe5 : a0.eval (.tmp 5) = .pointer (some ⟨w.heap.size, 0, none⟩) := by rw [← ha0]; rfl
  have oe9 : a0.eval (.tmp 9) = .pointer (some ⟨q0, 0, none⟩) := by rw [← ha0]; rfl
  have hsz0 : a0.tmps.size = 27 := by rw [← ha0]; rfl
  have HA0 := Lib.hid ha0
  clear ha0
  refine wp_region_G 27 hsz0 (by kernel_rfl) (by kernel_rfl) [18, 19, 20, 21, 22, 23, 24, 25, 35] (by kernel_rfl) (by decide) (fun j => j = b' ∨ j = q0) (fun k j => (k = 0 ∧ j = b') ∨ (k = 1 ∧ j = q0)) (fun k j h => by omega) Still (fun _ _ _ h => h) (fun _ _ _ hm h => hm.trans h (fun _ _ h => h.elim)) [gi (.pointer (some ⟨g, 0, none⟩)), gi (.pointer (some ⟨w.heap.size, 0, none⟩)), gi (.int .i64 a), gi (.int .i64 (1000 + a)), gi (c0.val), (fun t v w => t.length = 0 → RdB w v (txT c0) ∧ (txT c0).length ≤ 500), gi (.agg #[.int .i64 (1000 + a), .int .i64 (mkN (signF L (1000 + a, txT c0)) (1000 + a, txT c0))]), gi (.pointer (some ⟨q0, 35, none⟩)), ga] ⟨gi_stable, gi_stable, gi_stable, gi_stable, gi_stable, ⟨fun _ _ _ _ h hr h0 => ⟨(h h0).1.mod hr (fun _ _ _ h => h), (h h0).2⟩, fun _ _ _ _ _ _ _ h0 => by simp at h0⟩, gi_stable, gi_stable, ga_stable, trivial⟩ [6, 8] (by kernel_rfl) (by decide) (by kernel_rfl) (ByLen (SgSt g b' q0 L (signF L (1000 + a, txT c0)) c0 c1)) (ByLen.still SgSt_still) HG0.out ⟨?_, ?_, ?_, ?_, ?_, ?_, ?_, ?_, ?_, trivial⟩ ?_
  · intro tr act w' hm hout hsz hd hG hk hub
    exact jg_run (by rfl) rfl (wanted_none rfl) (ex_move rfl ((hout 0 (by decide)).trans oe0)) (Mod.refl _ _) rfl
  · intro tr act w' hm hout hsz hd hG hk hub
    refine jg_run (by rfl) rfl (wanted_none rfl) (ex_field rfl Try.underlying30 rfl (by kernel_rfl) ((hout 5 (by decide)).trans oe5)) (Mod.refl _ _) ?_
    rfl
  · intro tr act w' hm hout hsz hd hG hk hub
    have h1 := hd ⟨1, .data⟩ (by simp) rfl _ rfl
    exact jg_run (by rfl) rfl (wanted_none rfl) (ex_load1 rfl Try.underlying3 rfl h1 (by rw [(KN2.out.mod hm (by omega)).cell]; rfl)) (Mod.refl _ _) rfl
  · intro tr act w' hm hout hsz hd hG hk hub
    have h2 := hd ⟨2, .data⟩ (by simp) rfl _ rfl
    refine jg_call (args := #[.int .i64 a]) (by rfl) rfl (wanted_none rfl) (by rw [ex_callF rfl Try.func28 (by kernel_rfl) (by kernel_rfl)]; exact congrArg (fun z => Result.ok (Next.enter _ z) _) (by simp only [List.map_toArray, List.map_cons, List.map_nil, show act.eval (.tmp 20) = _ from h2]; try rfl)) (signer_any a _ HSI.out) ?_
    rintro e w2 ⟨rfl, hm2⟩
    exact ⟨_, rfl, hm2, rfl⟩
  · intro tr act w' hm hout hsz hd hG hk hub
    exact jg_run (by rfl) rfl (wanted_none rfl) (ex_loadA rfl Try.underlying36 rfl (off := 0) (cs := c0.cells) (by rw [Cm.len H0L.out]; exact size_commit) ((hout 9 (by decide)).trans oe9) (Cs.whole (hG.at (show tr.length = 0 from Nat.le_zero.1 (hub 0 6 rfl (by kernel_rfl)))).2)) (Mod.refl _ _) rfl
  · intro tr act w' hm hout hsz hd hG hk hub
    have h4 := hd ⟨4, .data⟩ (by simp) rfl _ rfl
    refine jg_call (args := #[c0.val]) (by rfl) rfl (wanted_none rfl) (by rw [ex_callF rfl Try.func29 (by kernel_rfl) (by kernel_rfl)]; exact congrArg (fun z => Result.ok (Next.enter _ z) _) (by simp only [List.map_toArray, List.map_cons, List.map_nil, show act.eval (.tmp 22) = _ from h4]; try rfl)) (Text_any c0 _ H0K.out) ?_
    rintro e w2 ⟨u, rfl, ho, hm2⟩
    exact ⟨_, rfl, hm2, fun _ => ⟨ho.rd.1, ho.2.2⟩⟩
  · intro tr act w' hm hout hsz hd hG hk hub
    have h0 := hd ⟨0, .data⟩ (by simp) rfl _ rfl
    have h3 := hd ⟨3, .data⟩ (by simp) rfl _ rfl
    have h5 := hd ⟨5, .data⟩ (by simp) rfl _ rfl
    have hl := hk 0 rfl
    have hs := hG.at hl
    obtain ⟨u, hu0⟩ : ∃ u, u = act.eval (.tmp 23) := ⟨_, rfl⟩
    have hu : RdB w' u (txT c0) ∧ (txT c0).length ≤ 500 := by rw [hu0]; exact h5 hl
    refine jc_call (args := #[.pointer (some ⟨g, 0, none⟩), .int .i64 (1000 + a), u]) (by rfl) rfl (wanted_none rfl) (by rw [ex_callF rfl Try.func27 (by kernel_rfl) (by kernel_rfl)]; exact congrArg (fun z => Result.ok (Next.enter _ z) _) (by simp only [List.map_toArray, List.map_cons, List.map_nil, show act.eval (.tmp 18) = _ from h0, show act.eval (.tmp 21) = _ from h3, show act.eval (.tmp 23) = _ from hu0.symm]; try rfl)) (Book_sign hs.1 (1000 + a) hu.1 ⟨HSI.out, hu.1.1, Nat.le_trans hu.2 (by decide)⟩ HLL.out) ?_
    rintro e w2 ⟨m, rfl, rfl, hb2, hm2⟩
    exact ⟨_, rfl, hm2.mono (fun _ _ h => Or.inl ⟨hl, h⟩), rfl, ByLen.on hl ⟨hb2, hs.2.mod hm2 (by omega)⟩⟩
  · intro tr act w' hm hout hsz hd hG hk hub
    refine jg_run (by rfl) rfl (wanted_none rfl) (ex_field rfl Try.underlying36 rfl (by kernel_rfl) ((hout 9 (by decide)).trans oe9)) (Mod.refl _ _) ?_
    rfl
  · intro tr act w' hm hout hsz hd hG hk hub
    have h6 := hd ⟨6, .data⟩ (by simp) rfl _ rfl
    have h7 := hd ⟨7, .data⟩ (by simp) rfl _ rfl
    have hl := hk 1 rfl
    have hs := hG.at hl
    refine jc_turn (by rfl) rfl (wanted_none rfl) (ex_storeA rfl hs.2 (off := 35) (vs := [.int .i64 (1000 + a), .int .i64 (mkN (signF L (1000 + a, txT c0)) (1000 + a, txT c0))]) (by kernel_rfl) (by intro u hu; simp at hu; rcases hu with rfl | rfl <;> rfl) (by simp [Cm.len H0L.out]) h7 (by rw [show act.eval (.tmp 24) = _ from h6]; rfl)) (setRow_Mod.mono (fun _ _ h => Or.inr ⟨hl, h⟩)) trivial (ByLen.on hl ⟨hs.1.mod setRow_Mod (by omega) (by omega), ?_⟩)
    rw [lay_sig _ _ _ H0L.out, ← H1.out]
    exact setRow_Cs hs.2
  intro vs tr w3 hl htl hm hG hV
  obtain ⟨v0, vs0, rfl, hl0⟩ := list_cons hl
  obtain ⟨v1, vs1, rfl, hl1⟩ := list_cons hl0
  obtain ⟨v2, vs2, rfl, hl2⟩ := list_cons hl1
  obtain ⟨v3, vs3, rfl, hl3⟩ := list_cons hl2
  obtain ⟨v4, vs4, rfl, hl4⟩ := list_cons hl3
  obtain ⟨v5, vs5, rfl, hl5⟩ := list_cons hl4
  obtain ⟨v6, vs6, rfl, hl6⟩ := list_cons hl5
  obtain ⟨v7, vs7, rfl, hl7⟩ := list_cons hl6
  obtain ⟨v8, vs8, rfl, hl8⟩ := list_cons hl7
  obtain rfl := list_nil hl8
  clear hl hl0 hl1 hl2 hl3 hl4 hl5 hl6 hl7 hl8
  have ha0 := HA0.out
  subst ha0
  clear HA0 hV hsz0 oe0 oe5 oe9
  simp only [putAll, Act.put, List.setIfInBounds_toArray, List.set_cons_zero, List.set_cons_succ, List.set_nil]
  have hs := hG.at htl
  have HB3 := Lib.hid hs.1
  have KQ := Lib.hid (show Cs w3 q0 c1.cells.toArray 36 from hs.2)
  have KR2 := Lib.hid (show ByLen (ResSt (w.heap.size + 1 + 1) 36 zc c1.cells) [] w3 from KR2a.out.mod hm (by omega))
  have KM3 := Lib.hid ((KM2.out.mono (S' := fun k => k = b') (fun _ _ h => h.elim)).trans hm (fun k h1 h2 => by omega))
  clear hs hG hm htl KR2a KM2 HG0
  go_upto_region 3 with (fail)
  generalize ha0 : Act.mk _ _ = a0
  have oe8 : a0.eval (.tmp 8) = .pointer (some ⟨w.heap.size + 1 + 1, 0, none⟩) := by rw [← ha0]; rfl
  have oe9 : a0.eval (.tmp 9) = .pointer (some ⟨q0, 0, none⟩) := by rw [← ha0]; rfl
  have hsz0 : a0.tmps.size = 27 := by rw [← ha0]; rfl
  have HA0 := Lib.hid ha0
  clear ha0
  refine wp_region_G 27 hsz0 (by kernel_rfl) (by kernel_rfl) [26, 28] (by kernel_rfl) (by decide) (fun j => j = w.heap.size + 1 + 1) (fun _ j => j = w.heap.size + 1 + 1) (fun _ _ h => h) Still (fun _ _ _ h => h) (fun _ _ _ hm h => hm.trans h (fun _ _ h => h.elim)) [gi (c1.val), ga] ⟨gi_stable, ga_stable, trivial⟩ [1] (by kernel_rfl) (by decide) (by kernel_rfl) (ByLen (ResSt (w.heap.size + 1 + 1) 36 zc c1.cells)) (ByLen.still ResSt_still) KR2.out ⟨?_, ?_, trivial⟩ ?_
  · intro tr act w' hm hout hsz hd hG hk hub
    exact jg_run (by rfl) rfl (wanted_none rfl) (ex_loadA rfl Try.underlying36 rfl (off := 0) (cs := c1.cells) (by rw [Cm.len H1L.out]; exact size_commit) ((hout 9 (by decide)).trans oe9) (Cs.whole (KQ.out.mod hm (by omega)))) (Mod.refl _ _) rfl
  · intro tr act w' hm hout hsz hd hG hk hub
    have h0 := hd ⟨0, .data⟩ (by simp) rfl _ rfl
    have hl := hk 0 rfl
    refine jc_turn (by rfl) rfl (wanted_none rfl) (ex_storeA rfl (hG.at hl) (off := 0) (vs := c1.cells) (by rw [Cm.len H1L.out]; exact size_commit) (Cm.one c1) (by simp [HZL.out, Cm.len H1L.out]) ((hout 8 (by decide)).trans oe8) (by rw [show act.eval (.tmp 26) = _ from h0]; rfl)) setRow_Mod trivial (ByLen.on hl ?_)
    rw [lay_whole _ _ (by simp [HZL.out, Cm.len H1L.out])]
    exact setRow_Cs (hG.at hl)
  intro vs tr w4 hl htl hm hG hV
  obtain ⟨v0, vs0, rfl, hl0⟩ := list_cons hl
  obtain ⟨v1, vs1, rfl, hl1⟩ := list_cons hl0
  obtain rfl := list_nil hl1
  clear hl hl0 hl1
  have ha0 := HA0.out
  subst ha0
  clear HA0 hV hsz0 oe8 oe9
  simp only [putAll, Act.put, List.setIfInBounds_toArray, List.set_cons_zero, List.set_cons_succ, List.set_nil]
  have hres := hG.at htl
  go_wp2
  exact bodyPost_ret (results_cellA rfl _ _ (w.heap.size + 1 + 1) c1.cells rfl (fun k u hu => by rw [Cs.cell hres]; simpa using hu) Try.underlying36 rfl (by rw [Cm.len H1L.out]; exact size_commit)) rfl ⟨rfl, by rw [HBN.out]; exact HB3.out.mod hm (by omega) (by omega), KM3.out.trans hm (fun k h1 h2 => by omega)⟩
def rightC (L : List (Int × List Int)) (k : Int) (c : Cm) : Bool := validF k c && (c.sb == 1000 + c.cl) && rightF L (c.sb, txT c) c.mr
set_option maxHeartbeats 4000000 in
theorem Right_any {w : World} {g b : Nat} {L : List (Int × List Int)} (hbk : BookIs w g b L) (f k : Int) (c : Cm) (hc : c.OK) (hsi : I64 (1000 + c.cl)) :
    Calls Try.prog 32 #[.agg #[.int .i64 f, .int .i64 k], .pointer (some ⟨g, 0, none⟩), c.val] w fun e w' => e = .returned (.bool (rightC L k c)) ∧ Mod (fun _ => False) w w' := by
  have HBK := Lib.hid hbk
  have HC := Lib.hid hc
  have HSI := Lib.hid hsi
  clear hbk hc hsi
  change Calls _ _ #[.agg #[.int .i64 f, .int .i64 k], .pointer (some ⟨g, 0, none⟩), .agg c.cells.toArray] _ _
  go_enter Try.func32, Try.ntmps32
  go_upto_region 1 with (fail)
  obtain ⟨w1, hw1⟩ : ∃ x, x = (w.alloc (.cells #[.int .i64 f, .int .i64 k] 26)).alloc (.cells c.cells.toArray 36) := ⟨_, rfl⟩
  change Code.wp _ _ _ _ ((w.alloc (.cells #[.int .i64 f, .int .i64 k] 26)).alloc (.cells c.cells.toArray 36))
  rw [← hw1]
  have KF := Lib.hid (show Cs w1 w.heap.size #[.int .i64 f, .int .i64 k] 26 by rw [hw1]; exact (Cs.new _ _ _).alloc _)
  have KX := Lib.hid (show Cs w1 (w.heap.size + 1) c.cells.toArray 36 by rw [hw1]; exact Cs_new1 _ _ _ _)
  have KM := Lib.hid (show Mod (fun _ => False) w w1 by rw [hw1]; exact ((Mod.refl _ _).alloc _).alloc _)
  clear hw1
  cases hva : validF k c with
  | false =>
    have EV := Lib.hid hva
    clear hva
    generalize ha0 : Act.mk _ _ = a0
    have oe1 : a0.eval (.tmp 1) = .pointer (some ⟨g, 0, none⟩) := by rw [← ha0]; rfl
    have oe3 : a0.eval (.tmp 3) = .pointer (some ⟨w.heap.size, 0, none⟩) := by rw [← ha0]; rfl
    have oe5 : a0.eval (.tmp 5) = .pointer (some ⟨w.heap.size + 1, 0, none⟩) := by rw [← ha0]; rfl
    have hsz0 : a0.tmps.size = 28 := by rw [← ha0]; rfl
    have HA0 := Lib.hid ha0
    clear ha0
    refine wp_region_G 28 hsz0 (by kernel_rfl) (by kernel_rfl) [7, 8, 9, 10, 11, 12, 13, 14, 15, 16, 17, 18, 19, 20, 21, 22, 23, 24, 25, 26, 27, 6] (by kernel_rfl) (by decide) (fun _ => False) (fun _ _ => False) (fun _ _ h => h) Still (fun _ _ _ h => h) (fun _ _ _ hm h => hm.trans h (fun _ _ h => h.elim)) [gi (.agg #[.int .i64 f, .int .i64 k]), gi (c.val), gi (.bool false), gi (.bool false), gi (undef), gi (undef), gi (undef), gi (undef), gi (undef), gi (undef), gi (undef), gi (undef), gi (.bool false), gi (.bool false), gi (undef), gi (undef), gi (undef), gi (undef), gi (undef), gi (undef), gi (.bool false), gi (.bool false)] ⟨gi_stable, gi_stable, gi_stable, gi_stable, gi_stable, gi_stable, gi_stable, gi_stable, gi_stable, gi_stable, gi_stable, gi_stable, gi_stable, gi_stable, gi_stable, gi_stable, gi_stable, gi_stable, gi_stable, gi_stable, gi_stable, gi_stable, trivial⟩ [] (by kernel_rfl) (by decide) (by kernel_rfl) (fun _ _ => True) (fun _ _ _ _ _ => trivial) trivial ⟨?_, ?_, ?_, ?_, ?_, ?_, ?_, ?_, ?_, ?_, ?_, ?_, ?_, ?_, ?_, ?_, ?_, ?_, ?_, ?_, ?_, ?_, trivial⟩ ?_
    · intro tr act w' hm hout hsz hd hG hk hub
      exact jg_run (by rfl) rfl (wanted_none rfl) (ex_loadA rfl Try.underlying26 rfl (off := 0) (cs := [.int .i64 f, .int .i64 k]) (by kernel_rfl) ((hout 3 (by decide)).trans oe3) (Cs.whole (KF.out.mod hm (fun h => h)))) (Mod.refl _ _) rfl
    · intro tr act w' hm hout hsz hd hG hk hub
      exact jg_run (by rfl) rfl (wanted_none rfl) (ex_loadA rfl Try.underlying36 rfl (off := 0) (cs := c.cells) (by rw [Cm.len HC.out.2.1]; exact size_commit) ((hout 5 (by decide)).trans oe5) (Cs.whole (KX.out.mod hm (fun h => h)))) (Mod.refl _ _) rfl
    · intro tr act w' hm hout hsz hd hG hk hub
      have h0 := hd ⟨0, .data⟩ (by simp) rfl _ rfl
      have h1 := hd ⟨1, .data⟩ (by simp) rfl _ rfl
      refine jg_call (args := #[.agg #[.int .i64 f, .int .i64 k], c.val]) (by rfl) rfl (wanted_none rfl) (by rw [ex_callF rfl Try.func50 (by kernel_rfl) (by kernel_rfl)]; exact congrArg (fun z => Result.ok (Next.enter _ z) _) (by simp only [List.map_toArray, List.map_cons, List.map_nil, show act.eval (.tmp 7) = _ from h0, show act.eval (.tmp 8) = _ from h1]; try rfl)) (Valid_any f k c HC.out _) ?_
      rintro e w2 ⟨rfl, hm2⟩
      exact ⟨_, rfl, hm2, congrArg Value.bool EV.out⟩
    · intro tr act w' hm hout hsz hd hG hk hub
      have h2 := hd ⟨2, .data⟩ (by simp) rfl _ rfl
      exact jg_run (by rfl) rfl (wanted_none rfl) (ex_move rfl h2) (Mod.refl _ _) rfl
    · intro tr act w' hm hout hsz hd hG hk hub
      have h3 := hd ⟨3, .guard⟩ (by simp) rfl _ rfl
      exact jg_skip (fun _ _ _ h => h) (by rfl) rfl ((wanted_of rfl rfl (hsz 10 (by decide)) h3).trans rfl) rfl
    · intro tr act w' hm hout hsz hd hG hk hub
      have h3 := hd ⟨3, .guard⟩ (by simp) rfl _ rfl
      exact jg_skip (fun _ _ _ h => h) (by rfl) rfl ((wanted_of rfl rfl (hsz 10 (by decide)) h3).trans rfl) rfl
    · intro tr act w' hm hout hsz hd hG hk hub
      have h3 := hd ⟨3, .guard⟩ (by simp) rfl _ rfl
      exact jg_skip (fun _ _ _ h => h) (by rfl) rfl ((wanted_of rfl rfl (hsz 10 (by decide)) h3).trans rfl) rfl
    · intro tr act w' hm hout hsz hd hG hk hub
      have h3 := hd ⟨3, .guard⟩ (by simp) rfl _ rfl
      exact jg_skip (fun _ _ _ h => h) (by rfl) rfl ((wanted_of rfl rfl (hsz 10 (by decide)) h3).trans rfl) rfl
    · intro tr act w' hm hout hsz hd hG hk hub
      have h3 := hd ⟨3, .guard⟩ (by simp) rfl _ rfl
      exact jg_skip (fun _ _ _ h => h) (by rfl) rfl ((wanted_of rfl rfl (hsz 10 (by decide)) h3).trans rfl) rfl
    · intro tr act w' hm hout hsz hd hG hk hub
      have h3 := hd ⟨3, .guard⟩ (by simp) rfl _ rfl
      exact jg_skip (fun _ _ _ h => h) (by rfl) rfl ((wanted_of rfl rfl (hsz 10 (by decide)) h3).trans rfl) rfl
    · intro tr act w' hm hout hsz hd hG hk hub
      have h3 := hd ⟨3, .guard⟩ (by simp) rfl _ rfl
      exact jg_skip (fun _ _ _ h => h) (by rfl) rfl ((wanted_of rfl rfl (hsz 10 (by decide)) h3).trans rfl) rfl
    · intro tr act w' hm hout hsz hd hG hk hub
      have h3 := hd ⟨3, .guard⟩ (by simp) rfl _ rfl
      exact jg_skip (fun _ _ _ h => h) (by rfl) rfl ((wanted_of rfl rfl (hsz 10 (by decide)) h3).trans rfl) rfl
    · intro tr act w' hm hout hsz hd hG hk hub
      have h3 := hd ⟨3, .data⟩ (by simp) rfl _ rfl
      have h11 := hd ⟨11, .data⟩ (by simp) rfl _ rfl
      exact jg_run (by rfl) rfl (wanted_none rfl) (ex_pick rfl h3 h11 rfl) (Mod.refl _ _) rfl
    · intro tr act w' hm hout hsz hd hG hk hub
      have h12 := hd ⟨12, .data⟩ (by simp) rfl _ rfl
      exact jg_run (by rfl) rfl (wanted_none rfl) (ex_move rfl h12) (Mod.refl _ _) rfl
    · intro tr act w' hm hout hsz hd hG hk hub
      have h13 := hd ⟨13, .guard⟩ (by simp) rfl _ rfl
      exact jg_skip (fun _ _ _ h => h) (by rfl) rfl ((wanted_of rfl rfl (hsz 20 (by decide)) h13).trans rfl) rfl
    · intro tr act w' hm hout hsz hd hG hk hub
      have h13 := hd ⟨13, .guard⟩ (by simp) rfl _ rfl
      exact jg_skip (fun _ _ _ h => h) (by rfl) rfl ((wanted_of rfl rfl (hsz 20 (by decide)) h13).trans rfl) rfl
    · intro tr act w' hm hout hsz hd hG hk hub
      have h13 := hd ⟨13, .guard⟩ (by simp) rfl _ rfl
      exact jg_skip (fun _ _ _ h => h) (by rfl) rfl ((wanted_of rfl rfl (hsz 20 (by decide)) h13).trans rfl) rfl
    · intro tr act w' hm hout hsz hd hG hk hub
      have h13 := hd ⟨13, .guard⟩ (by simp) rfl _ rfl
      exact jg_skip (fun _ _ _ h => h) (by rfl) rfl ((wanted_of rfl rfl (hsz 20 (by decide)) h13).trans rfl) rfl
    · intro tr act w' hm hout hsz hd hG hk hub
      have h13 := hd ⟨13, .guard⟩ (by simp) rfl _ rfl
      exact jg_skip (fun _ _ _ h => h) (by rfl) rfl ((wanted_of rfl rfl (hsz 20 (by decide)) h13).trans rfl) rfl
    · intro tr act w' hm hout hsz hd hG hk hub
      have h13 := hd ⟨13, .guard⟩ (by simp) rfl _ rfl
      exact jg_skip (fun _ _ _ h => h) (by rfl) rfl ((wanted_of rfl rfl (hsz 20 (by decide)) h13).trans rfl) rfl
    · intro tr act w' hm hout hsz hd hG hk hub
      have h13 := hd ⟨13, .data⟩ (by simp) rfl _ rfl
      have h19 := hd ⟨19, .data⟩ (by simp) rfl _ rfl
      exact jg_run (by rfl) rfl (wanted_none rfl) (ex_pick rfl h13 h19 rfl) (Mod.refl _ _) rfl
    · intro tr act w' hm hout hsz hd hG hk hub
      have h20 := hd ⟨20, .data⟩ (by simp) rfl _ rfl
      exact jg_run (by rfl) rfl (wanted_none rfl) (ex_assign rfl h20) (Mod.refl _ _) rfl
    intro vs tr w2 hl htl hm hG hV
    obtain ⟨v0, vs0, rfl, hl0⟩ := list_cons hl
    obtain ⟨v1, vs1, rfl, hl1⟩ := list_cons hl0
    obtain ⟨v2, vs2, rfl, hl2⟩ := list_cons hl1
    obtain ⟨v3, vs3, rfl, hl3⟩ := list_cons hl2
    obtain ⟨v4, vs4, rfl, hl4⟩ := list_cons hl3
    obtain ⟨v5, vs5, rfl, hl5⟩ := list_cons hl4
    obtain ⟨v6, vs6, rfl, hl6⟩ := list_cons hl5
    obtain ⟨v7, vs7, rfl, hl7⟩ := list_cons hl6
    obtain ⟨v8, vs8, rfl, hl8⟩ := list_cons hl7
    obtain ⟨v9, vs9, rfl, hl9⟩ := list_cons hl8
    obtain ⟨v10, vs10, rfl, hl10⟩ := list_cons hl9
    obtain ⟨v11, vs11, rfl, hl11⟩ := list_cons hl10
    obtain ⟨v12, vs12, rfl, hl12⟩ := list_cons hl11
    obtain ⟨v13, vs13, rfl, hl13⟩ := list_cons hl12
    obtain ⟨v14, vs14, rfl, hl14⟩ := list_cons hl13
    obtain ⟨v15, vs15, rfl, hl15⟩ := list_cons hl14
    obtain ⟨v16, vs16, rfl, hl16⟩ := list_cons hl15
    obtain ⟨v17, vs17, rfl, hl17⟩ := list_cons hl16
    obtain ⟨v18, vs18, rfl, hl18⟩ := list_cons hl17
    obtain ⟨v19, vs19, rfl, hl19⟩ := list_cons hl18
    obtain ⟨v20, vs20, rfl, hl20⟩ := list_cons hl19
    obtain ⟨v21, vs21, rfl, hl21⟩ := list_cons hl20
    obtain rfl := list_nil hl21
    clear hl hl0 hl1 hl2 hl3 hl4 hl5 hl6 hl7 hl8 hl9 hl10 hl11 hl12 hl13 hl14 hl15 hl16 hl17 hl18 hl19 hl20 hl21
    obtain rfl : v21 = .bool false := hV 21 _ rfl
    have ha0 := HA0.out
    subst ha0
    clear HA0 hV hsz0 oe1 oe3 oe5
    simp only [putAll, Act.put, List.setIfInBounds_toArray, List.set_cons_zero, List.set_cons_succ]
    have KM2 := Lib.hid (KM.out.trans hm (fun _ _ h => h))
    clear hm hG
    go_wp2
    go_ret
    exact ⟨congrArg (fun z => Ending.returned (Value.bool z)) (show false = rightC L k c by unfold rightC; simp only [EV.out, Bool.false_and] <;> rfl), KM2.out⟩
  | true =>
    have EV := Lib.hid hva
    clear hva
    cases hsy : (c.sb == 1000 + c.cl) with
    | false =>
      have ES := Lib.hid hsy
      clear hsy
      generalize ha0 : Act.mk _ _ = a0
      have oe1 : a0.eval (.tmp 1) = .pointer (some ⟨g, 0, none⟩) := by rw [← ha0]; rfl
      have oe3 : a0.eval (.tmp 3) = .pointer (some ⟨w.heap.size, 0, none⟩) := by rw [← ha0]; rfl
      have oe5 : a0.eval (.tmp 5) = .pointer (some ⟨w.heap.size + 1, 0, none⟩) := by rw [← ha0]; rfl
      have hsz0 : a0.tmps.size = 28 := by rw [← ha0]; rfl
      have HA0 := Lib.hid ha0
      clear ha0
      refine wp_region_G 28 hsz0 (by kernel_rfl) (by kernel_rfl) [7, 8, 9, 10, 11, 12, 13, 14, 15, 16, 17, 18, 19, 20, 21, 22, 23, 24, 25, 26, 27, 6] (by kernel_rfl) (by decide) (fun _ => False) (fun _ _ => False) (fun _ _ h => h) Still (fun _ _ _ h => h) (fun _ _ _ hm h => hm.trans h (fun _ _ h => h.elim)) [gi (.agg #[.int .i64 f, .int .i64 k]), gi (c.val), gi (.bool true), gi (.bool true), gi (.pointer (some ⟨w.heap.size + 1, 35, none⟩)), gi (.pointer (some ⟨w.heap.size + 1, 35, none⟩)), gi (.int .i64 c.sb), gi (.pointer (some ⟨w.heap.size + 1, 0, none⟩)), gi (.pointer (some ⟨w.heap.size + 1, 0, none⟩)), gi (.int .i64 c.cl), gi (.int .i64 (1000 + c.cl)), gi (.bool false), gi (.bool false), gi (.bool false), gi (undef), gi (undef), gi (undef), gi (undef), gi (undef), gi (undef), gi (.bool false), gi (.bool false)] ⟨gi_stable, gi_stable, gi_stable, gi_stable, gi_stable, gi_stable, gi_stable, gi_stable, gi_stable, gi_stable, gi_stable, gi_stable, gi_stable, gi_stable, gi_stable, gi_stable, gi_stable, gi_stable, gi_stable, gi_stable, gi_stable, gi_stable, trivial⟩ [] (by kernel_rfl) (by decide) (by kernel_rfl) (fun _ _ => True) (fun _ _ _ _ _ => trivial) trivial ⟨?_, ?_, ?_, ?_, ?_, ?_, ?_, ?_, ?_, ?_, ?_, ?_, ?_, ?_, ?_, ?_, ?_, ?_, ?_, ?_, ?_, ?_, trivial⟩ ?_
      · intro tr act w' hm hout hsz hd hG hk hub
        exact jg_run (by rfl) rfl (wanted_none rfl) (ex_loadA rfl Try.underlying26 rfl (off := 0) (cs := [.int .i64 f, .int .i64 k]) (by kernel_rfl) ((hout 3 (by decide)).trans oe3) (Cs.whole (KF.out.mod hm (fun h => h)))) (Mod.refl _ _) rfl
      · intro tr act w' hm hout hsz hd hG hk hub
        exact jg_run (by rfl) rfl (wanted_none rfl) (ex_loadA rfl Try.underlying36 rfl (off := 0) (cs := c.cells) (by rw [Cm.len HC.out.2.1]; exact size_commit) ((hout 5 (by decide)).trans oe5) (Cs.whole (KX.out.mod hm (fun h => h)))) (Mod.refl _ _) rfl
      · intro tr act w' hm hout hsz hd hG hk hub
        have h0 := hd ⟨0, .data⟩ (by simp) rfl _ rfl
        have h1 := hd ⟨1, .data⟩ (by simp) rfl _ rfl
        refine jg_call (args := #[.agg #[.int .i64 f, .int .i64 k], c.val]) (by rfl) rfl (wanted_none rfl) (by rw [ex_callF rfl Try.func50 (by kernel_rfl) (by kernel_rfl)]; exact congrArg (fun z => Result.ok (Next.enter _ z) _) (by simp only [List.map_toArray, List.map_cons, List.map_nil, show act.eval (.tmp 7) = _ from h0, show act.eval (.tmp 8) = _ from h1]; try rfl)) (Valid_any f k c HC.out _) ?_
        rintro e w2 ⟨rfl, hm2⟩
        exact ⟨_, rfl, hm2, congrArg Value.bool EV.out⟩
      · intro tr act w' hm hout hsz hd hG hk hub
        have h2 := hd ⟨2, .data⟩ (by simp) rfl _ rfl
        exact jg_run (by rfl) rfl (wanted_none rfl) (ex_move rfl h2) (Mod.refl _ _) rfl
      · intro tr act w' hm hout hsz hd hG hk hub
        have h3 := hd ⟨3, .guard⟩ (by simp) rfl _ rfl
        refine jg_run (by rfl) rfl ((wanted_of rfl rfl (hsz 10 (by decide)) h3).trans rfl) (ex_field rfl Try.underlying36 rfl (by kernel_rfl) ((hout 5 (by decide)).trans oe5)) (Mod.refl _ _) ?_
        rfl
      · intro tr act w' hm hout hsz hd hG hk hub
        have h3 := hd ⟨3, .guard⟩ (by simp) rfl _ rfl
        have h4 := hd ⟨4, .data⟩ (by simp) rfl _ rfl
        refine jg_run (by rfl) rfl ((wanted_of rfl rfl (hsz 10 (by decide)) h3).trans rfl) (ex_field rfl Try.underlying34 rfl (by kernel_rfl) h4) (Mod.refl _ _) ?_
        rfl
      · intro tr act w' hm hout hsz hd hG hk hub
        have h3 := hd ⟨3, .guard⟩ (by simp) rfl _ rfl
        have h5 := hd ⟨5, .data⟩ (by simp) rfl _ rfl
        exact jg_run (by rfl) rfl ((wanted_of rfl rfl (hsz 10 (by decide)) h3).trans rfl) (ex_load1 rfl Try.underlying3 rfl h5 ((KX.out.mod hm (fun h => h)).c35 HC.out.2.1)) (Mod.refl _ _) rfl
      · intro tr act w' hm hout hsz hd hG hk hub
        have h3 := hd ⟨3, .guard⟩ (by simp) rfl _ rfl
        refine jg_run (by rfl) rfl ((wanted_of rfl rfl (hsz 10 (by decide)) h3).trans rfl) (ex_field rfl Try.underlying36 rfl (by kernel_rfl) ((hout 5 (by decide)).trans oe5)) (Mod.refl _ _) ?_
        rfl
      · intro tr act w' hm hout hsz hd hG hk hub
        have h3 := hd ⟨3, .guard⟩ (by simp) rfl _ rfl
        have h7 := hd ⟨7, .data⟩ (by simp) rfl _ rfl
        refine jg_run (by rfl) rfl ((wanted_of rfl rfl (hsz 10 (by decide)) h3).trans rfl) (ex_field rfl Try.underlying30 rfl (by kernel_rfl) h7) (Mod.refl _ _) ?_
        rfl
      · intro tr act w' hm hout hsz hd hG hk hub
        have h3 := hd ⟨3, .guard⟩ (by simp) rfl _ rfl
        have h8 := hd ⟨8, .data⟩ (by simp) rfl _ rfl
        exact jg_run (by rfl) rfl ((wanted_of rfl rfl (hsz 10 (by decide)) h3).trans rfl) (ex_load1 rfl Try.underlying3 rfl h8 (KX.out.mod hm (fun h => h)).c0) (Mod.refl _ _) rfl
      · intro tr act w' hm hout hsz hd hG hk hub
        have h3 := hd ⟨3, .guard⟩ (by simp) rfl _ rfl
        have h9 := hd ⟨9, .data⟩ (by simp) rfl _ rfl
        refine jg_call (args := #[.int .i64 c.cl]) (by rfl) rfl ((wanted_of rfl rfl (hsz 10 (by decide)) h3).trans rfl) (by rw [ex_callF rfl Try.func28 (by kernel_rfl) (by kernel_rfl)]; exact congrArg (fun z => Result.ok (Next.enter _ z) _) (by simp only [List.map_toArray, List.map_cons, List.map_nil, show act.eval (.tmp 16) = _ from h9]; try rfl)) (signer_any c.cl _ HSI.out) ?_
        rintro e w2 ⟨rfl, hm2⟩
        exact ⟨_, rfl, hm2, rfl⟩
      · intro tr act w' hm hout hsz hd hG hk hub
        have h3 := hd ⟨3, .guard⟩ (by simp) rfl _ rfl
        have h6 := hd ⟨6, .data⟩ (by simp) rfl _ rfl
        have h10 := hd ⟨10, .data⟩ (by simp) rfl _ rfl
        refine jg_run (by rfl) rfl ((wanted_of rfl rfl (hsz 10 (by decide)) h3).trans rfl) (ex_bin rfl h6 h10 (guard_ints _ _ _ _ _ _) (run_eql_i _ _ _ Try.underlying3)) (Mod.refl _ _) ?_
        exact congrArg Value.bool ES.out
      · intro tr act w' hm hout hsz hd hG hk hub
        have h3 := hd ⟨3, .data⟩ (by simp) rfl _ rfl
        have h11 := hd ⟨11, .data⟩ (by simp) rfl _ rfl
        exact jg_run (by rfl) rfl (wanted_none rfl) (ex_pick rfl h3 h11 rfl) (Mod.refl _ _) rfl
      · intro tr act w' hm hout hsz hd hG hk hub
        have h12 := hd ⟨12, .data⟩ (by simp) rfl _ rfl
        exact jg_run (by rfl) rfl (wanted_none rfl) (ex_move rfl h12) (Mod.refl _ _) rfl
      · intro tr act w' hm hout hsz hd hG hk hub
        have h13 := hd ⟨13, .guard⟩ (by simp) rfl _ rfl
        exact jg_skip (fun _ _ _ h => h) (by rfl) rfl ((wanted_of rfl rfl (hsz 20 (by decide)) h13).trans rfl) rfl
      · intro tr act w' hm hout hsz hd hG hk hub
        have h13 := hd ⟨13, .guard⟩ (by simp) rfl _ rfl
        exact jg_skip (fun _ _ _ h => h) (by rfl) rfl ((wanted_of rfl rfl (hsz 20 (by decide)) h13).trans rfl) rfl
      · intro tr act w' hm hout hsz hd hG hk hub
        have h13 := hd ⟨13, .guard⟩ (by simp) rfl _ rfl
        exact jg_skip (fun _ _ _ h => h) (by rfl) rfl ((wanted_of rfl rfl (hsz 20 (by decide)) h13).trans rfl) rfl
      · intro tr act w' hm hout hsz hd hG hk hub
        have h13 := hd ⟨13, .guard⟩ (by simp) rfl _ rfl
        exact jg_skip (fun _ _ _ h => h) (by rfl) rfl ((wanted_of rfl rfl (hsz 20 (by decide)) h13).trans rfl) rfl
      · intro tr act w' hm hout hsz hd hG hk hub
        have h13 := hd ⟨13, .guard⟩ (by simp) rfl _ rfl
        exact jg_skip (fun _ _ _ h => h) (by rfl) rfl ((wanted_of rfl rfl (hsz 20 (by decide)) h13).trans rfl) rfl
      · intro tr act w' hm hout hsz hd hG hk hub
        have h13 := hd ⟨13, .guard⟩ (by simp) rfl _ rfl
        exact jg_skip (fun _ _ _ h => h) (by rfl) rfl ((wanted_of rfl rfl (hsz 20 (by decide)) h13).trans rfl) rfl
      · intro tr act w' hm hout hsz hd hG hk hub
        have h13 := hd ⟨13, .data⟩ (by simp) rfl _ rfl
        have h19 := hd ⟨19, .data⟩ (by simp) rfl _ rfl
        exact jg_run (by rfl) rfl (wanted_none rfl) (ex_pick rfl h13 h19 rfl) (Mod.refl _ _) rfl
      · intro tr act w' hm hout hsz hd hG hk hub
        have h20 := hd ⟨20, .data⟩ (by simp) rfl _ rfl
        exact jg_run (by rfl) rfl (wanted_none rfl) (ex_assign rfl h20) (Mod.refl _ _) rfl
      intro vs tr w2 hl htl hm hG hV
      obtain ⟨v0, vs0, rfl, hl0⟩ := list_cons hl
      obtain ⟨v1, vs1, rfl, hl1⟩ := list_cons hl0
      obtain ⟨v2, vs2, rfl, hl2⟩ := list_cons hl1
      obtain ⟨v3, vs3, rfl, hl3⟩ := list_cons hl2
      obtain ⟨v4, vs4, rfl, hl4⟩ := list_cons hl3
      obtain ⟨v5, vs5, rfl, hl5⟩ := list_cons hl4
      obtain ⟨v6, vs6, rfl, hl6⟩ := list_cons hl5
      obtain ⟨v7, vs7, rfl, hl7⟩ := list_cons hl6
      obtain ⟨v8, vs8, rfl, hl8⟩ := list_cons hl7
      obtain ⟨v9, vs9, rfl, hl9⟩ := list_cons hl8
      obtain ⟨v10, vs10, rfl, hl10⟩ := list_cons hl9
      obtain ⟨v11, vs11, rfl, hl11⟩ := list_cons hl10
      obtain ⟨v12, vs12, rfl, hl12⟩ := list_cons hl11
      obtain ⟨v13, vs13, rfl, hl13⟩ := list_cons hl12
      obtain ⟨v14, vs14, rfl, hl14⟩ := list_cons hl13
      obtain ⟨v15, vs15, rfl, hl15⟩ := list_cons hl14
      obtain ⟨v16, vs16, rfl, hl16⟩ := list_cons hl15
      obtain ⟨v17, vs17, rfl, hl17⟩ := list_cons hl16
      obtain ⟨v18, vs18, rfl, hl18⟩ := list_cons hl17
      obtain ⟨v19, vs19, rfl, hl19⟩ := list_cons hl18
      obtain ⟨v20, vs20, rfl, hl20⟩ := list_cons hl19
      obtain ⟨v21, vs21, rfl, hl21⟩ := list_cons hl20
      obtain rfl := list_nil hl21
      clear hl hl0 hl1 hl2 hl3 hl4 hl5 hl6 hl7 hl8 hl9 hl10 hl11 hl12 hl13 hl14 hl15 hl16 hl17 hl18 hl19 hl20 hl21
      obtain rfl : v21 = .bool false := hV 21 _ rfl
      have ha0 := HA0.out
      subst ha0
      clear HA0 hV hsz0 oe1 oe3 oe5
      simp only [putAll, Act.put, List.setIfInBounds_toArray, List.set_cons_zero, List.set_cons_succ]
      have KM2 := Lib.hid (KM.out.trans hm (fun _ _ h => h))
      clear hm hG
      go_wp2
      go_ret
      exact ⟨congrArg (fun z => Ending.returned (Value.bool z)) (show false = rightC L k c by unfold rightC; simp only [EV.out, ES.out, Bool.true_and] <;> rfl), KM2.out⟩
    | true =>
      have ES := Lib.hid hsy
      clear hsy
      generalize ha0 : Act.mk _ _ = a0
      have oe1 : a0.eval (.tmp 1) = .pointer (some ⟨g, 0, none⟩) := by rw [← ha0]; rfl
      have oe3 : a0.eval (.tmp 3) = .pointer (some ⟨w.heap.size, 0, none⟩) := by rw [← ha0]; rfl
      have oe5 : a0.eval (.tmp 5) = .pointer (some ⟨w.heap.size + 1, 0, none⟩) := by rw [← ha0]; rfl
      have hsz0 : a0.tmps.size = 28 := by rw [← ha0]; rfl
      have HA0 := Lib.hid ha0
      clear ha0
      refine wp_region_G 28 hsz0 (by kernel_rfl) (by kernel_rfl) [7, 8, 9, 10, 11, 12, 13, 14, 15, 16, 17, 18, 19, 20, 21, 22, 23, 24, 25, 26, 27, 6] (by kernel_rfl) (by decide) (fun _ => False) (fun _ _ => False) (fun _ _ h => h) Still (fun _ _ _ h => h) (fun _ _ _ hm h => hm.trans h (fun _ _ h => h.elim)) [gi (.agg #[.int .i64 f, .int .i64 k]), gi (c.val), gi (.bool true), gi (.bool true), gi (.pointer (some ⟨w.heap.size + 1, 35, none⟩)), gi (.pointer (some ⟨w.heap.size + 1, 35, none⟩)), gi (.int .i64 c.sb), gi (.pointer (some ⟨w.heap.size + 1, 0, none⟩)), gi (.pointer (some ⟨w.heap.size + 1, 0, none⟩)), gi (.int .i64 c.cl), gi (.int .i64 (1000 + c.cl)), gi (.bool true), gi (.bool true), gi (.bool true), gi (.pointer (some ⟨g, 0, none⟩)), gi (.pointer (some ⟨w.heap.size + 1, 35, none⟩)), gi (.agg #[.int .i64 c.sb, .int .i64 c.mr]), gi (c.val), (fun t v w => RdB w v (txT c) ∧ (txT c).length ≤ 500), gi (.bool (rightF L (c.sb, txT c) c.mr)), gi (.bool (rightF L (c.sb, txT c) c.mr)), gi (.bool (rightF L (c.sb, txT c) c.mr))] ⟨gi_stable, gi_stable, gi_stable, gi_stable, gi_stable, gi_stable, gi_stable, gi_stable, gi_stable, gi_stable, gi_stable, gi_stable, gi_stable, gi_stable, gi_stable, gi_stable, gi_stable, gi_stable, ⟨fun _ _ _ _ h hr => ⟨h.1.mod hr (fun _ _ _ h => h), h.2⟩, fun _ _ _ _ _ h hr => ⟨h.1.mod hr (fun _ _ _ h => h), h.2⟩⟩, gi_stable, gi_stable, gi_stable, trivial⟩ [] (by kernel_rfl) (by decide) (by kernel_rfl) (fun _ _ => True) (fun _ _ _ _ _ => trivial) trivial ⟨?_, ?_, ?_, ?_, ?_, ?_, ?_, ?_, ?_, ?_, ?_, ?_, ?_, ?_, ?_, ?_, ?_, ?_, ?_, ?_, ?_, ?_, trivial⟩ ?_
      · intro tr act w' hm hout hsz hd hG hk hub
        exact jg_run (by rfl) rfl (wanted_none rfl) (ex_loadA rfl Try.underlying26 rfl (off := 0) (cs := [.int .i64 f, .int .i64 k]) (by kernel_rfl) ((hout 3 (by decide)).trans oe3) (Cs.whole (KF.out.mod hm (fun h => h)))) (Mod.refl _ _) rfl
      · intro tr act w' hm hout hsz hd hG hk hub
        exact jg_run (by rfl) rfl (wanted_none rfl) (ex_loadA rfl Try.underlying36 rfl (off := 0) (cs := c.cells) (by rw [Cm.len HC.out.2.1]; exact size_commit) ((hout 5 (by decide)).trans oe5) (Cs.whole (KX.out.mod hm (fun h => h)))) (Mod.refl _ _) rfl
      · intro tr act w' hm hout hsz hd hG hk hub
        have h0 := hd ⟨0, .data⟩ (by simp) rfl _ rfl
        have h1 := hd ⟨1, .data⟩ (by simp) rfl _ rfl
        refine jg_call (args := #[.agg #[.int .i64 f, .int .i64 k], c.val]) (by rfl) rfl (wanted_none rfl) (by rw [ex_callF rfl Try.func50 (by kernel_rfl) (by kernel_rfl)]; exact congrArg (fun z => Result.ok (Next.enter _ z) _) (by simp only [List.map_toArray, List.map_cons, List.map_nil, show act.eval (.tmp 7) = _ from h0, show act.eval (.tmp 8) = _ from h1]; try rfl)) (Valid_any f k c HC.out _) ?_
        rintro e w2 ⟨rfl, hm2⟩
        exact ⟨_, rfl, hm2, congrArg Value.bool EV.out⟩
      · intro tr act w' hm hout hsz hd hG hk hub
        have h2 := hd ⟨2, .data⟩ (by simp) rfl _ rfl
        exact jg_run (by rfl) rfl (wanted_none rfl) (ex_move rfl h2) (Mod.refl _ _) rfl
      · intro tr act w' hm hout hsz hd hG hk hub
        have h3 := hd ⟨3, .guard⟩ (by simp) rfl _ rfl
        refine jg_run (by rfl) rfl ((wanted_of rfl rfl (hsz 10 (by decide)) h3).trans rfl) (ex_field rfl Try.underlying36 rfl (by kernel_rfl) ((hout 5 (by decide)).trans oe5)) (Mod.refl _ _) ?_
        rfl
      · intro tr act w' hm hout hsz hd hG hk hub
        have h3 := hd ⟨3, .guard⟩ (by simp) rfl _ rfl
        have h4 := hd ⟨4, .data⟩ (by simp) rfl _ rfl
        refine jg_run (by rfl) rfl ((wanted_of rfl rfl (hsz 10 (by decide)) h3).trans rfl) (ex_field rfl Try.underlying34 rfl (by kernel_rfl) h4) (Mod.refl _ _) ?_
        rfl
      · intro tr act w' hm hout hsz hd hG hk hub
        have h3 := hd ⟨3, .guard⟩ (by simp) rfl _ rfl
        have h5 := hd ⟨5, .data⟩ (by simp) rfl _ rfl
        exact jg_run (by rfl) rfl ((wanted_of rfl rfl (hsz 10 (by decide)) h3).trans rfl) (ex_load1 rfl Try.underlying3 rfl h5 ((KX.out.mod hm (fun h => h)).c35 HC.out.2.1)) (Mod.refl _ _) rfl
      · intro tr act w' hm hout hsz hd hG hk hub
        have h3 := hd ⟨3, .guard⟩ (by simp) rfl _ rfl
        refine jg_run (by rfl) rfl ((wanted_of rfl rfl (hsz 10 (by decide)) h3).trans rfl) (ex_field rfl Try.underlying36 rfl (by kernel_rfl) ((hout 5 (by decide)).trans oe5)) (Mod.refl _ _) ?_
        rfl
      · intro tr act w' hm hout hsz hd hG hk hub
        have h3 := hd ⟨3, .guard⟩ (by simp) rfl _ rfl
        have h7 := hd ⟨7, .data⟩ (by simp) rfl _ rfl
        refine jg_run (by rfl) rfl ((wanted_of rfl rfl (hsz 10 (by decide)) h3).trans rfl) (ex_field rfl Try.underlying30 rfl (by kernel_rfl) h7) (Mod.refl _ _) ?_
        rfl
      · intro tr act w' hm hout hsz hd hG hk hub
        have h3 := hd ⟨3, .guard⟩ (by simp) rfl _ rfl
        have h8 := hd ⟨8, .data⟩ (by simp) rfl _ rfl
        exact jg_run (by rfl) rfl ((wanted_of rfl rfl (hsz 10 (by decide)) h3).trans rfl) (ex_load1 rfl Try.underlying3 rfl h8 (KX.out.mod hm (fun h => h)).c0) (Mod.refl _ _) rfl
      · intro tr act w' hm hout hsz hd hG hk hub
        have h3 := hd ⟨3, .guard⟩ (by simp) rfl _ rfl
        have h9 := hd ⟨9, .data⟩ (by simp) rfl _ rfl
        refine jg_call (args := #[.int .i64 c.cl]) (by rfl) rfl ((wanted_of rfl rfl (hsz 10 (by decide)) h3).trans rfl) (by rw [ex_callF rfl Try.func28 (by kernel_rfl) (by kernel_rfl)]; exact congrArg (fun z => Result.ok (Next.enter _ z) _) (by simp only [List.map_toArray, List.map_cons, List.map_nil, show act.eval (.tmp 16) = _ from h9]; try rfl)) (signer_any c.cl _ HSI.out) ?_
        rintro e w2 ⟨rfl, hm2⟩
        exact ⟨_, rfl, hm2, rfl⟩
      · intro tr act w' hm hout hsz hd hG hk hub
        have h3 := hd ⟨3, .guard⟩ (by simp) rfl _ rfl
        have h6 := hd ⟨6, .data⟩ (by simp) rfl _ rfl
        have h10 := hd ⟨10, .data⟩ (by simp) rfl _ rfl
        refine jg_run (by rfl) rfl ((wanted_of rfl rfl (hsz 10 (by decide)) h3).trans rfl) (ex_bin rfl h6 h10 (guard_ints _ _ _ _ _ _) (run_eql_i _ _ _ Try.underlying3)) (Mod.refl _ _) ?_
        exact congrArg Value.bool ES.out
      · intro tr act w' hm hout hsz hd hG hk hub
        have h3 := hd ⟨3, .data⟩ (by simp) rfl _ rfl
        have h11 := hd ⟨11, .data⟩ (by simp) rfl _ rfl
        exact jg_run (by rfl) rfl (wanted_none rfl) (ex_pick rfl h3 h11 rfl) (Mod.refl _ _) rfl
      · intro tr act w' hm hout hsz hd hG hk hub
        have h12 := hd ⟨12, .data⟩ (by simp) rfl _ rfl
        exact jg_run (by rfl) rfl (wanted_none rfl) (ex_move rfl h12) (Mod.refl _ _) rfl
      · intro tr act w' hm hout hsz hd hG hk hub
        have h13 := hd ⟨13, .guard⟩ (by simp) rfl _ rfl
        exact jg_run (by rfl) rfl ((wanted_of rfl rfl (hsz 20 (by decide)) h13).trans rfl) (ex_move rfl ((hout 1 (by decide)).trans oe1)) (Mod.refl _ _) rfl
      · intro tr act w' hm hout hsz hd hG hk hub
        have h13 := hd ⟨13, .guard⟩ (by simp) rfl _ rfl
        refine jg_run (by rfl) rfl ((wanted_of rfl rfl (hsz 20 (by decide)) h13).trans rfl) (ex_field rfl Try.underlying36 rfl (by kernel_rfl) ((hout 5 (by decide)).trans oe5)) (Mod.refl _ _) ?_
        rfl
      · intro tr act w' hm hout hsz hd hG hk hub
        have h13 := hd ⟨13, .guard⟩ (by simp) rfl _ rfl
        have h15 := hd ⟨15, .data⟩ (by simp) rfl _ rfl
        exact jg_run (by rfl) rfl ((wanted_of rfl rfl (hsz 20 (by decide)) h13).trans rfl) (ex_loadA rfl Try.underlying34 rfl (off := 35) (cs := [.int .i64 c.sb, .int .i64 c.mr]) (by kernel_rfl) h15 (Cs.sig (KX.out.mod hm (fun h => h)) HC.out.2.1)) (Mod.refl _ _) rfl
      · intro tr act w' hm hout hsz hd hG hk hub
        have h13 := hd ⟨13, .guard⟩ (by simp) rfl _ rfl
        exact jg_run (by rfl) rfl ((wanted_of rfl rfl (hsz 20 (by decide)) h13).trans rfl) (ex_loadA rfl Try.underlying36 rfl (off := 0) (cs := c.cells) (by rw [Cm.len HC.out.2.1]; exact size_commit) ((hout 5 (by decide)).trans oe5) (Cs.whole (KX.out.mod hm (fun h => h)))) (Mod.refl _ _) rfl
      · intro tr act w' hm hout hsz hd hG hk hub
        have h13 := hd ⟨13, .guard⟩ (by simp) rfl _ rfl
        have h17 := hd ⟨17, .data⟩ (by simp) rfl _ rfl
        refine jg_call (args := #[c.val]) (by rfl) rfl ((wanted_of rfl rfl (hsz 20 (by decide)) h13).trans rfl) (by rw [ex_callF rfl Try.func29 (by kernel_rfl) (by kernel_rfl)]; exact congrArg (fun z => Result.ok (Next.enter _ z) _) (by simp only [List.map_toArray, List.map_cons, List.map_nil, show act.eval (.tmp 24) = _ from h17]; try rfl)) (Text_any c _ HC.out) ?_
        rintro e w2 ⟨u, rfl, ho, hm2⟩
        exact ⟨_, rfl, hm2, ho.rd.1, ho.2.2⟩
      · intro tr act w' hm hout hsz hd hG hk hub
        have h13 := hd ⟨13, .guard⟩ (by simp) rfl _ rfl
        have h14 := hd ⟨14, .data⟩ (by simp) rfl _ rfl
        have h16 := hd ⟨16, .data⟩ (by simp) rfl _ rfl
        have h18 := hd ⟨18, .data⟩ (by simp) rfl _ rfl
        obtain ⟨u, hu0⟩ : ∃ u, u = act.eval (.tmp 25) := ⟨_, rfl⟩
        have hu : RdB w' u (txT c) ∧ (txT c).length ≤ 500 := by rw [hu0]; exact h18
        refine jg_call (args := #[.pointer (some ⟨g, 0, none⟩), .agg #[.int .i64 c.sb, .int .i64 c.mr], u]) (by rfl) rfl ((wanted_of rfl rfl (hsz 20 (by decide)) h13).trans rfl) (by rw [ex_callF rfl Try.func51 (by kernel_rfl) (by kernel_rfl)]; exact congrArg (fun z => Result.ok (Next.enter _ z) _) (by simp only [List.map_toArray, List.map_cons, List.map_nil, show act.eval (.tmp 21) = _ from h14, show act.eval (.tmp 23) = _ from h16, show act.eval (.tmp 25) = _ from hu0.symm]; try rfl)) (Book_right (HBK.out.mod (KM.out.trans hm (fun _ _ h => h)) (fun h => h) (fun h => h)) c.sb c.mr hu.1 ⟨HC.out.1.2.2.2.1, hu.1.1, Nat.le_trans hu.2 (by decide)⟩) ?_
        rintro e w2 ⟨rfl, hm2⟩
        exact ⟨_, rfl, hm2, rfl⟩
      · intro tr act w' hm hout hsz hd hG hk hub
        have h13 := hd ⟨13, .data⟩ (by simp) rfl _ rfl
        have h19 := hd ⟨19, .data⟩ (by simp) rfl _ rfl
        exact jg_run (by rfl) rfl (wanted_none rfl) (ex_pick rfl h13 h19 rfl) (Mod.refl _ _) rfl
      · intro tr act w' hm hout hsz hd hG hk hub
        have h20 := hd ⟨20, .data⟩ (by simp) rfl _ rfl
        exact jg_run (by rfl) rfl (wanted_none rfl) (ex_assign rfl h20) (Mod.refl _ _) rfl
      intro vs tr w2 hl htl hm hG hV
      obtain ⟨v0, vs0, rfl, hl0⟩ := list_cons hl
      obtain ⟨v1, vs1, rfl, hl1⟩ := list_cons hl0
      obtain ⟨v2, vs2, rfl, hl2⟩ := list_cons hl1
      obtain ⟨v3, vs3, rfl, hl3⟩ := list_cons hl2
      obtain ⟨v4, vs4, rfl, hl4⟩ := list_cons hl3
      obtain ⟨v5, vs5, rfl, hl5⟩ := list_cons hl4
      obtain ⟨v6, vs6, rfl, hl6⟩ := list_cons hl5
      obtain ⟨v7, vs7, rfl, hl7⟩ := list_cons hl6
      obtain ⟨v8, vs8, rfl, hl8⟩ := list_cons hl7
      obtain ⟨v9, vs9, rfl, hl9⟩ := list_cons hl8
      obtain ⟨v10, vs10, rfl, hl10⟩ := list_cons hl9
      obtain ⟨v11, vs11, rfl, hl11⟩ := list_cons hl10
      obtain ⟨v12, vs12, rfl, hl12⟩ := list_cons hl11
      obtain ⟨v13, vs13, rfl, hl13⟩ := list_cons hl12
      obtain ⟨v14, vs14, rfl, hl14⟩ := list_cons hl13
      obtain ⟨v15, vs15, rfl, hl15⟩ := list_cons hl14
      obtain ⟨v16, vs16, rfl, hl16⟩ := list_cons hl15
      obtain ⟨v17, vs17, rfl, hl17⟩ := list_cons hl16
      obtain ⟨v18, vs18, rfl, hl18⟩ := list_cons hl17
      obtain ⟨v19, vs19, rfl, hl19⟩ := list_cons hl18
      obtain ⟨v20, vs20, rfl, hl20⟩ := list_cons hl19
      obtain ⟨v21, vs21, rfl, hl21⟩ := list_cons hl20
      obtain rfl := list_nil hl21
      clear hl hl0 hl1 hl2 hl3 hl4 hl5 hl6 hl7 hl8 hl9 hl10 hl11 hl12 hl13 hl14 hl15 hl16 hl17 hl18 hl19 hl20 hl21
      obtain rfl : v21 = .bool (rightF L (c.sb, txT c) c.mr) := hV 21 _ rfl
      have ha0 := HA0.out
      subst ha0
      clear HA0 hV hsz0 oe1 oe3 oe5
      simp only [putAll, Act.put, List.setIfInBounds_toArray, List.set_cons_zero, List.set_cons_succ]
      have KM2 := Lib.hid (KM.out.trans hm (fun _ _ h => h))
      clear hm hG
      go_wp2
      go_ret
      exact ⟨congrArg (fun z => Ending.returned (Value.bool z)) (show rightF L (c.sb, txT c) c.mr = rightC L k c by unfold rightC; simp only [EV.out, ES.out, Bool.true_and] <;> rfl), KM2.out⟩
end Go.Proofs.Ytbifincepglilaa

/- gavellaw04.wakes. -/
namespace Go.Proofs.Ytbifincepglilaa
open Go Go.RowKit Go.Gv

theorem signF_pos (L : List (Int × List Int)) (k : Int × List Int) : mkN (signF L k) k ≠ 0 := by
  unfold signF
  by_cases h : mkN L k = 0
  · rw [if_pos h]
    have := marks_put 0 L k (mkN_none h)
    unfold mkN
    rw [← this, mlook_put, if_pos rfl]
    simp
  · rw [if_neg h]; exact h
theorem right_made (L : List (Int × List Int)) (a b : Int) (h bs : List Int) (k : Int) (hv : validF k (cm0 a b h bs) = true) : rightC (mkBook L a b h bs) k (mkCm L a b h bs) = true := by
  unfold rightC
  rw [show validF k (mkCm L a b h bs) = true from hv, show ((mkCm L a b h bs).sb == 1000 + (mkCm L a b h bs).cl) = true by simp [mkCm, cm0]]
  unfold rightF
  have e : ((mkCm L a b h bs).sb, txT (mkCm L a b h bs)) = mkKey a b h bs := rfl
  rw [e, decide_eq_true (show mkN (mkBook L a b h bs) (mkKey a b h bs) ≠ 0 from signF_pos _ _)]
  simp [mkCm]
theorem mkCm_ok (L : List (Int × List Int)) (a b : Int) (h bs : List Int) (ha : I64 a) (hs : I64 (1000 + a)) (hb : I64 b) (hl : bs.length ≤ 1000000) (hL : L.length ≤ 1000000) : (mkCm L a b h bs).OK := by
  refine ⟨⟨ha, hb, ?_, hs, ?_⟩, shaF_len _, shaF_bytes _⟩
  · simp only [mkCm, cm0, I64]; omega
  · have : mkN (mkBook L a b h bs) (mkKey a b h bs) ≤ 1000001 := by
      unfold mkN
      cases hq : mlook (marksFrom 0 (mkBook L a b h bs)) (mkKey a b h bs) with
      | none => simp
      | some m =>
        have := (marks_pos 0 _ _ m hq).2
        have h2 : (mkBook L a b h bs).length ≤ L.length + 1 := by unfold mkBook signF; split <;> simp
        simp; omega
    simp only [mkCm, I64]; omega
theorem BookIs.marked {B g b : Nat} {L : List (Int × List Int)} {w w' : World} (h : BookIs w g b L) (hm : Marked B 5 w w') : BookIs w' g b L := ⟨Cs_marked' h.cell hm (by decide), h.map.marked hm⟩
end Go.Proofs.Ytbifincepglilaa

/- The kinds of things that messages are made of: their cells, what reads as one. -/
namespace Go.Proofs.Ytbifincepglilaa
open Go Go.RowKit Go.Gv

/-- a stamp, or an ack -/
structure St where
 rp : Int
 cl : Int
 sq : Int
 h : List Int
 tm : Nat
 sb : Int
 mr : Int
abbrev St.cells (x : St) : List Value := [.int .i64 x.rp, .int .i64 x.cl, .int .i64 x.sq] ++ (x.h.map bv ++ [.int .u64 (x.tm : Nat), .int .i64 x.sb, .int .i64 x.mr])
abbrev St.val (x : St) : Value := .agg x.cells.toArray
structure St.OK (x : St) : Prop where
 rp : I64 x.rp
 cl : I64 x.cl
 sq : I64 x.sq
 h : HK x.h
 tm : x.tm < U64
 sb : I64 x.sb
 mr : I64 x.mr
theorem St.len {x : St} (h : x.OK) : x.cells.length = 38 := by simp [St.cells, h.h.1]
theorem St.one (x : St) : ∀ u ∈ x.cells, u.oneCell' = true := by
 intro u hu
 simp only [St.cells, List.mem_append, List.mem_cons, List.not_mem_nil, or_false, List.mem_map] at hu
 rcases hu with (rfl | rfl | rfl) | ⟨y, -, rfl⟩ | rfl | rfl | rfl <;> rfl
def StR : Rep St := Rep.flat 38 (by decide) St.cells St.OK (fun a h => St.len h) (fun a _ => St.one a)
/-- a vote -/
structure Vt where
 kd : Int
 ep : Int
 rd : Int
 rp : Int
 h : List Int
 sb : Int
 mr : Int
abbrev Vt.cells (x : Vt) : List Value := [.int .i64 x.kd, .int .i64 x.ep, .int .i64 x.rd, .int .i64 x.rp] ++ (x.h.map bv ++ [.int .i64 x.sb, .int .i64 x.mr])
abbrev Vt.val (x : Vt) : Value := .agg x.cells.toArray
structure Vt.OK (x : Vt) : Prop where
 kd : I64 x.kd
 ep : I64 x.ep
 rd : I64 x.rd
 rp : I64 x.rp
 h : HK x.h
 sb : I64 x.sb
 mr : I64 x.mr
theorem Vt.len {x : Vt} (h : x.OK) : x.cells.length = 38 := by simp [Vt.cells, h.h.1]
theorem Vt.one (x : Vt) : ∀ u ∈ x.cells, u.oneCell' = true := by
 intro u hu
 simp only [Vt.cells, List.mem_append, List.mem_cons, List.not_mem_nil, or_false, List.mem_map] at hu
 rcases hu with (rfl | rfl | rfl | rfl) | ⟨y, -, rfl⟩ | rfl | rfl <;> rfl
/-- a denial -/
structure Dn where
 rp : Int
 ix : Int
 sb : Int
 mr : Int
abbrev Dn.cells (x : Dn) : List Value := [.int .i64 x.rp, .int .i64 x.ix, .int .i64 x.sb, .int .i64 x.mr]
abbrev Dn.val (x : Dn) : Value := .agg x.cells.toArray
structure Dn.OK (x : Dn) : Prop where
 rp : I64 x.rp
 ix : I64 x.ix
 sb : I64 x.sb
 mr : I64 x.mr
theorem Dn.len {x : Dn} (h : x.OK) : x.cells.length = 4 := by rfl
theorem Dn.one (x : Dn) : ∀ u ∈ x.cells, u.oneCell' = true := by
 intro u hu
 simp only [Dn.cells, List.mem_cons, List.not_mem_nil, or_false] at hu
 rcases hu with rfl | rfl | rfl | rfl <;> rfl
def DnR : Rep Dn := Rep.flat 4 (by decide) Dn.cells Dn.OK (fun a h => Dn.len h) (fun a _ => Dn.one a)
/-- an entry -/
structure En where
 cl : Int
 sq : Int
 h : List Int
 tm : Nat
abbrev En.cells (x : En) : List Value := [.int .i64 x.cl, .int .i64 x.sq] ++ (x.h.map bv ++ [.int .u64 (x.tm : Nat)])
abbrev En.val (x : En) : Value := .agg x.cells.toArray
structure En.OK (x : En) : Prop where
 cl : I64 x.cl
 sq : I64 x.sq
 h : HK x.h
 tm : x.tm < U64
theorem En.len {x : En} (h : x.OK) : x.cells.length = 35 := by simp [En.cells, h.h.1]
theorem En.one (x : En) : ∀ u ∈ x.cells, u.oneCell' = true := by
 intro u hu
 simp only [En.cells, List.mem_append, List.mem_cons, List.not_mem_nil, or_false, List.mem_map] at hu
 rcases hu with (rfl | rfl) | ⟨y, -, rfl⟩ | rfl <;> rfl
theorem RdR_keep {R : Nat → Prop} {N : Nat} {w w' : World} {v : Value} {bs : List Int} (h : RdR R N w v bs) (hk : ∀ p u, R p.block → w.cell? p = some u → w'.cell? p = some u) : RdR R N w' v bs :=
 ⟨⟨h.1.1, h.1.2.keepc fun h0 g hg p u hp hc => hk p u (hp ▸ h.2.1 h0 g hg) hc⟩, h.2⟩
theorem RdR_tight {R : Nat → Prop} {N : Nat} {w : World} {v : Value} {bs : List Int} (h : RdR R N w v bs) : RdR (fun k => R k ∧ k < w.heap.size) N w v bs :=
 ⟨h.1, fun h0 g hg => ⟨h.2.1 h0 g hg, h.1.2.lt (by decide) h0 hg⟩, h.2.2⟩
theorem Cm_one (c : Cm) : ∀ u ∈ c.cells, u.oneCell' = true := by
 intro u hu
 simp only [Cm.cells, List.mem_append, List.mem_cons, List.not_mem_nil, or_false, List.mem_map] at hu
 rcases hu with (rfl | rfl) | ⟨x, -, rfl⟩ | rfl | rfl | rfl <;> rfl
/-- a certificate -/
structure Ce where
 c : Cm
 l : List St
abbrev Ce.cells (x : Ce) (v_l : Value) : List Value := x.c.cells ++ [v_l]
def Ce.OK (x : Ce) : Prop := x.c.OK
def Ce.rd (R : Nat → Prop) (w : World) (cs : List Value) (x : Ce) : Prop := ∃ v_l, cs = x.cells v_l ∧ x.OK ∧ RdS StR R w v_l x.l
def CeR : Rep Ce where
 sz := 38
 pos := by decide
 rd := Ce.rd
 len h := by
  obtain ⟨v_l, rfl, hok, h0⟩ := h
  simp [Ce.cells, Cm.len hok.2.1]
 one h := by
  obtain ⟨v_l, rfl, hok, h0⟩ := h
  obtain ⟨_, _, e_l⟩ := h0.shape
  subst e_l
  intro u hu
  simp only [Ce.cells, List.mem_append, List.mem_cons, List.not_mem_nil, or_false, List.mem_map] at hu
  rcases hu with hu | rfl
  ·exact Cm_one _ _ hu
  ·rfl
 keep h hk := by
  obtain ⟨v_l, rfl, hok, h0⟩ := h
  exact ⟨_, rfl, hok, h0.keep hk⟩
 wid h hs := by
  obtain ⟨v_l, rfl, hok, h0⟩ := h
  exact ⟨_, rfl, hok, h0.widen hs⟩
 tight h := by
  obtain ⟨v_l, rfl, hok, h0⟩ := h
  exact ⟨_, rfl, hok, h0.tight⟩
/-- a promise -/
structure Pm where
 rp : Int
 ep : Int
 fl : Nat
 l : List Ce
 sb : Int
 mr : Int
abbrev Pm.cells (x : Pm) (v_l : Value) : List Value := [.int .i64 x.rp, .int .i64 x.ep, .int .u64 (x.fl : Nat), v_l, .int .i64 x.sb, .int .i64 x.mr]
def Pm.OK (x : Pm) : Prop := I64 x.rp ∧ I64 x.ep ∧ x.fl < U64 ∧ I64 x.sb ∧ I64 x.mr
def Pm.rd (R : Nat → Prop) (w : World) (cs : List Value) (x : Pm) : Prop := ∃ v_l, cs = x.cells v_l ∧ x.OK ∧ RdS CeR R w v_l x.l
def PmR : Rep Pm where
 sz := 6
 pos := by decide
 rd := Pm.rd
 len h := by
  obtain ⟨v_l, rfl, hok, h0⟩ := h
  rfl
 one h := by
  obtain ⟨v_l, rfl, hok, h0⟩ := h
  obtain ⟨_, _, e_l⟩ := h0.shape
  subst e_l
  intro u hu
  simp only [Pm.cells, List.mem_append, List.mem_cons, List.not_mem_nil, or_false, List.mem_map] at hu
  rcases hu with rfl | rfl | rfl | rfl | rfl | rfl <;> rfl
 keep h hk := by
  obtain ⟨v_l, rfl, hok, h0⟩ := h
  exact ⟨_, rfl, hok, h0.keep hk⟩
 wid h hs := by
  obtain ⟨v_l, rfl, hok, h0⟩ := h
  exact ⟨_, rfl, hok, h0.widen hs⟩
 tight h := by
  obtain ⟨v_l, rfl, hok, h0⟩ := h
  exact ⟨_, rfl, hok, h0.tight⟩
/-- an opening -/
structure Op where
 ix : Int
 pl : List Int
 nc : List Int
abbrev Op.cells (x : Op) (v_pl : Value) : List Value := [.int .i64 x.ix, v_pl] ++ x.nc.map bv
def Op.OK (x : Op) : Prop := I64 x.ix ∧ HK x.nc
def Op.rd (R : Nat → Prop) (w : World) (cs : List Value) (x : Op) : Prop := ∃ v_pl, cs = x.cells v_pl ∧ x.OK ∧ RdR R x.pl.length w v_pl x.pl
def OpR : Rep Op where
 sz := 34
 pos := by decide
 rd := Op.rd
 len h := by
  obtain ⟨v_pl, rfl, hok, h0⟩ := h
  simp [Op.cells, hok.2.1]
 one h := by
  obtain ⟨v_pl, rfl, hok, h0⟩ := h
  obtain ⟨_, _, e_pl⟩ := h0.shape
  subst e_pl
  intro u hu
  simp only [Op.cells, List.mem_append, List.mem_cons, List.not_mem_nil, or_false, List.mem_map] at hu
  rcases hu with (rfl | rfl) | ⟨y, -, rfl⟩ <;> rfl
 keep h hk := by
  obtain ⟨v_pl, rfl, hok, h0⟩ := h
  exact ⟨_, rfl, hok, RdR_keep h0 hk⟩
 wid h hs := by
  obtain ⟨v_pl, rfl, hok, h0⟩ := h
  exact ⟨_, rfl, hok, h0.widen hs (Nat.le_refl _)⟩
 tight h := by
  obtain ⟨v_pl, rfl, hok, h0⟩ := h
  exact ⟨_, rfl, hok, RdR_tight h0⟩
/-- a tombstone -/
structure Tb where
 ix : Int
 l : List Dn
abbrev Tb.cells (x : Tb) (v_l : Value) : List Value := [.int .i64 x.ix, v_l]
def Tb.OK (x : Tb) : Prop := I64 x.ix
def Tb.rd (R : Nat → Prop) (w : World) (cs : List Value) (x : Tb) : Prop := ∃ v_l, cs = x.cells v_l ∧ x.OK ∧ RdS DnR R w v_l x.l
def TbR : Rep Tb where
 sz := 2
 pos := by decide
 rd := Tb.rd
 len h := by
  obtain ⟨v_l, rfl, hok, h0⟩ := h
  rfl
 one h := by
  obtain ⟨v_l, rfl, hok, h0⟩ := h
  obtain ⟨_, _, e_l⟩ := h0.shape
  subst e_l
  intro u hu
  simp only [Tb.cells, List.mem_append, List.mem_cons, List.not_mem_nil, or_false, List.mem_map] at hu
  rcases hu with rfl | rfl <;> rfl
 keep h hk := by
  obtain ⟨v_l, rfl, hok, h0⟩ := h
  exact ⟨_, rfl, hok, h0.keep hk⟩
 wid h hs := by
  obtain ⟨v_l, rfl, hok, h0⟩ := h
  exact ⟨_, rfl, hok, h0.widen hs⟩
 tight h := by
  obtain ⟨v_l, rfl, hok, h0⟩ := h
  exact ⟨_, rfl, hok, h0.tight⟩
/-- a batch -/
structure Ba where
 ep : Int
 tm : Nat
 ps : List Pm
 os : List Op
 ts : List Tb
abbrev Ba.cells (x : Ba) (v_ps v_os v_ts : Value) : List Value := [.int .i64 x.ep, .int .u64 (x.tm : Nat), v_ps, v_os, v_ts]
def Ba.OK (x : Ba) : Prop := I64 x.ep ∧ x.tm < U64
def Ba.rd (R : Nat → Prop) (w : World) (cs : List Value) (x : Ba) : Prop := ∃ v_ps v_os v_ts, cs = x.cells v_ps v_os v_ts ∧ x.OK ∧ RdS PmR R w v_ps x.ps ∧ RdS OpR R w v_os x.os ∧ RdS TbR R w v_ts x.ts
/-- a proposal -/
structure Pr where
 ep : Int
 rn : Int
 vl : Int
 rp : Int
 ba : Ba
 sb : Int
 mr : Int
abbrev Pr.cells (x : Pr) (v_ps v_os v_ts : Value) : List Value := [.int .i64 x.ep, .int .i64 x.rn, .int .i64 x.vl, .int .i64 x.rp, .int .i64 x.ba.ep, .int .u64 (x.ba.tm : Nat), v_ps, v_os, v_ts, .int .i64 x.sb, .int .i64 x.mr]
def Pr.OK (x : Pr) : Prop := I64 x.ep ∧ I64 x.rn ∧ I64 x.vl ∧ I64 x.rp ∧ x.ba.OK ∧ I64 x.sb ∧ I64 x.mr
def Pr.rd (R : Nat → Prop) (w : World) (cs : List Value) (x : Pr) : Prop := ∃ v_ps v_os v_ts, cs = x.cells v_ps v_os v_ts ∧ x.OK ∧ RdS PmR R w v_ps x.ba.ps ∧ RdS OpR R w v_os x.ba.os ∧ RdS TbR R w v_ts x.ba.ts
end Go.Proofs.Ytbifincepglilaa

/- Small parts of messages, put as bytes. -/
namespace Go.Proofs.Ytbifincepglilaa
open Go Go.RowKit Go.Gv


def nameB (a b : Int) : List Int := encI a ++ encI b
theorem WInt_Q {R : Nat → Prop} {g : Nat} {n : Int} {bs : List Int} {w : World} (hW : WrR R 900000 w g bs) (hn : I64 n) (hl : (bs ++ encI n).length ≤ 900000) :
    Calls Try.prog 45 #[.pointer (some ⟨g, 0, none⟩), .int .i64 n] w fun e w' => e = .returned (.pointer (some ⟨g, 0, none⟩)) ∧ WrR (fun k => R k ∨ New w w' k) 900000 w' g (bs ++ encI n) ∧ Mod R w w' := by
  obtain ⟨v, h1, h2, h3, h4⟩ := hW
  exact (WInt_any g n v bs w h1 hn (by unfold Room; omega)).mono fun _ _ ⟨he, h⟩ => ⟨he, WrTo_R _ h2 h3 h hl⟩
theorem WNum_Q {R : Nat → Prop} {g : Nat} {n : Nat} {bs : List Int} {w : World} (hW : WrR R 900000 w g bs) (hn : n < U64) (hl : (bs ++ encN n).length ≤ 900000) :
    Calls Try.prog 54 #[.pointer (some ⟨g, 0, none⟩), .int .u64 n] w fun e w' => e = .returned (.pointer (some ⟨g, 0, none⟩)) ∧ WrR (fun k => R k ∨ New w w' k) 900000 w' g (bs ++ encN n) ∧ Mod R w w' := by
  obtain ⟨v, h1, h2, h3, h4⟩ := hW
  exact (Num_any g n v bs w h1 hn (by unfold Room; omega)).mono fun _ _ ⟨he, h⟩ => ⟨he, WrTo_R _ h2 h3 h hl⟩
theorem WHash_Q {R : Nat → Prop} {g : Nat} {h bs : List Int} {w : World} (hW : WrR R 900000 w g bs) (hh : HK h) (hl : (bs ++ h).length ≤ 900000) :
    Calls Try.prog 47 #[.pointer (some ⟨g, 0, none⟩), hv h] w fun e w' => e = .returned (.pointer (some ⟨g, 0, none⟩)) ∧ WrR (fun k => R k ∨ New w w' k) 900000 w' g (bs ++ h) ∧ Mod R w w' := by
  obtain ⟨v, h1, h2, h3, h4⟩ := hW
  exact (WHash_any g v bs h w h1 hh.1 hh.2 (by unfold Room; omega)).mono fun _ _ ⟨he, h⟩ => ⟨he, WrTo_R _ h2 h3 h hl⟩
theorem WRow_Q {R R' : Nat → Prop} {M g : Nat} {bs : List Int} {v2 : Value} {cs : List Int} {w : World} (hW : WrR R 900000 w g bs) (hr : RdR R' M w v2 cs) (hs : ∀ k, R' k → R k → False) (hl : (bs ++ (encN cs.length ++ cs)).length ≤ 900000) :
    Calls Try.prog 44 #[.pointer (some ⟨g, 0, none⟩), v2] w fun e w' => e = .returned (.pointer (some ⟨g, 0, none⟩)) ∧ WrR (fun k => R k ∨ New w w' k) 900000 w' g (bs ++ (encN cs.length ++ cs)) ∧ Mod R w w' := by
  obtain ⟨v, h1, h2, h3, h4⟩ := hW
  obtain ⟨ao, cap, rfl⟩ := hr.shape
  have hlc : cs.length ≤ 900000 := by simp only [List.length_append] at hl; omega
  refine (WRow_any g v bs ao cap cs w h1 hr.1 ?_ (by unfold Room; omega)).mono fun _ _ ⟨he, h⟩ => ⟨he, WrTo_R _ h2 h3 h hl⟩
  intro h0 k hg hk
  rcases hk with rfl | hk
  · exact hs _ (hr.2.1 h0 _ hg) h2
  · exact hs _ (hr.2.1 h0 _ hg) (h3 k hk.symm)
set_option maxHeartbeats 2000000 in
theorem PutName_Q {R : Nat → Prop} {g : Nat} {bs : List Int} {a b : Int} {w : World} (hW : WrR R 900000 w g bs) (hB : ∀ k, R k → k < w.heap.size) (ha : I64 a) (hb : I64 b) (hl : (bs ++ nameB a b).length ≤ 900000) :
    Calls Try.prog 53 #[.pointer (some ⟨g, 0, none⟩), .agg #[.int .i64 a, .int .i64 b]] w fun e w' => e = .returned (.tuple #[]) ∧ WrR (fun k => R k ∨ New w w' k) 900000 w' g (bs ++ nameB a b) ∧ Mod R w w' := by
  have HW := Lib.hid hW
  have HBR := Lib.hid hB
  have HL := hid (show (bs ++ (encI a ++ encI b)).length ≤ 900000 from hl)
  have HA := Lib.hid ha
  have HB := Lib.hid hb
  clear hW hB hl ha hb
  change Calls _ _ #[.pointer (some ⟨g, 0, none⟩), .agg #[.int .i64 a, .int .i64 b]] _ _
  go_enter Try.func53, Try.ntmps53
  go_upto_region 1 with (fail)
  obtain ⟨w1, hw1⟩ : ∃ zz, zz = (w.alloc (.cells #[.int .i64 a, .int .i64 b] 30)) := ⟨_, rfl⟩
  change Code.wp _ _ _ _ (w.alloc (.cells #[.int .i64 a, .int .i64 b] 30))
  rw [← hw1]
  have HB3 := hid (show Cs w1 (w.heap.size) #[.int .i64 a, .int .i64 b] 30 by rw [hw1]; exact Cs.new _ _ _)
  have hm : Mod (fun _ => False) w w1 := by rw [hw1]; exact (Mod.refl _ _).alloc _
  have HM0 := hid (show Mod (fun k => (R k)) w w1 from hm.mono (fun _ _ h => h.elim))
  have hs1 : w1.heap.size = w.heap.size + 1 := by rw [hw1]; simp
  have Hx1 := hid (HW.out.mod hm (fun _ _ h => h))
  clear HW
  clear hw1 hm
  go_upto_region 1 with (fail)
  generalize ha0 : Act.mk _ _ = a0
  have oe0 : a0.eval (.tmp 0) = .pointer (some ⟨g, 0, none⟩) := by rw [← ha0]; rfl
  have oe3 : a0.eval (.tmp 3) = .pointer (some ⟨w.heap.size, 0, none⟩) := by rw [← ha0]; rfl
  have hsz0 : a0.tmps.size = 11 := by rw [← ha0]; rfl
  have HA0 := hid ha0
  clear ha0
  refine wp_region_Q1 11 hsz0 [4, 5, 6, 7, 8, 9, 10] (fun k => (R k)) (fun k j => (k = 0 ∧ ((R j))) ∨ (k = 1 ∧ ((R j)))) (by intro k j h; (try dsimp only at h ⊢); rcases h with ⟨-, h⟩ | ⟨-, h⟩; (exact h); (exact h)) [qi (.pointer (some ⟨g, 0, none⟩)), qi (.pointer (some ⟨w.heap.size, 0, none⟩)), qi (.int .i64 a), qi (.pointer (some ⟨g, 0, none⟩)), qi (.pointer (some ⟨w.heap.size, 1, none⟩)), qi (.int .i64 b), qi (.pointer (some ⟨g, 0, none⟩))] ⟨qi_stable, qi_stable, qi_stable, qi_stable, qi_stable, qi_stable, qi_stable, trivial⟩ [3, 6] ⟨?_, ?_, ?_, ?_, ?_, ?_, ?_, trivial⟩ ?_
  · exact stq (fun E => ex_move rfl (E.v oe0))
  · exact stq (fun E => ex_field rfl Try.underlying30 rfl (by kernel_rfl) (E.v oe3))
  · exact stq (fun E => ex_load1 rfl Try.underlying3 rfl (E.d 1) (Cs.lit1 (HB3.out.mod E.m (by intro h2; rcases h2 with ⟨h0, h2⟩ | h2 <;> first | omega | (have hb := HBR.out _ h2; omega))) rfl))
  · exact stepq_chain rfl
  · exact stq (fun E => ex_field rfl Try.underlying30 rfl (by kernel_rfl) (E.v oe3))
  · exact stq (fun E => ex_load1 rfl Try.underlying3 rfl (E.d 4) (Cs.lit1 (HB3.out.mod E.m (by intro h2; rcases h2 with ⟨h0, h2⟩ | h2 <;> first | omega | (have hb := HBR.out _ h2; omega))) rfl))
  · exact stepq_chain rfl
  intro u1_0 hr
  have zu1_0 := hr.size
  have Cx2 := hid (hr.new (S := (fun k => (R k))))
  have Hx3 := hid (Hx1.out.mod hr (by intro k h1 h2; have hb := HBR.out k h1; omega))
  clear Hx1
  clear hr
  refine QChain.go fun Z act E => ?_
  refine qc_callF (args := #[.pointer (some ⟨g, 0, none⟩), .int .i64 a]) rfl (wanted_none rfl) rfl Try.func45 (args2 (E.d 0) (E.d 2)) (WInt_Q Hx3.out HA.out (by have := HL.out; simp only [List.length_append] at this ⊢; omega)) ?_
  rintro e u1_1a ⟨rfl, qwr, hm⟩
  have zu1_1a := hm.size
  refine ⟨_, rfl, hm.mono (by intro k hk h; first | omega | exact Or.inl ⟨(by have hb := HBR.out k h; omega), Or.inl ⟨rfl, h⟩⟩), (fun _ => rfl), ?_⟩
  intro u1_1 hr
  have zu1_1 := hr.size
  have Hx4 := hid ((qwr.widen (R' := (fun k => (R k) ∨ (New u1_0 u1_1a k))) (fun _ h => h) (Nat.le_refl _)).mod hr (by intro k h1 h2; rcases h1 with h1 | h1 <;> first | omega | (have hb := HBR.out k h1; omega)))
  have Cx5 := hid (Cx2.out.goM hm hr (fun _ _ h => h))
  clear Cx2 hm hr Z act E qwr Hx3
  refine QChain.go fun Z act E => ?_
  refine qc_callF (args := #[.pointer (some ⟨g, 0, none⟩), .int .i64 b]) rfl (wanted_none rfl) rfl Try.func45 (args2 (E.d 3) (E.d 5)) (WInt_Q Hx4.out HB.out (by have := HL.out; simp only [List.length_append] at this ⊢; omega)) ?_
  rintro e u1_2a ⟨rfl, qwr, hm⟩
  have zu1_2a := hm.size
  refine ⟨_, rfl, hm.mono (by intro k hk h; rcases h with h | h <;> first | omega | exact Or.inl ⟨(by have hb := HBR.out k h; omega), Or.inr (⟨rfl, h⟩)⟩), (fun _ => rfl), ?_⟩
  intro u1_2 hr
  have zu1_2 := hr.size
  have Hx6 := hid ((qwr.widen (R' := (fun k => (R k) ∨ (New u1_0 u1_1a k) ∨ (New u1_1 u1_2a k))) (by intro k h1; simp only [or_assoc] at h1 ⊢; exact h1) (Nat.le_refl _)).mod hr (by intro k h1 h2; rcases h1 with h1 | h1 | h1 <;> first | omega | (have hb := HBR.out k h1; omega)))
  have Cx7 := hid (Cx5.out.goM hm hr (by intro k h0 h2; rcases h2 with h2 | h2 <;> first | omega | exact h2))
  clear Cx5 hm hr Z act E qwr Hx4
  refine QChain.nil fun vs hl hzz hrows hne => ?_
  obtain ⟨Z, hYZ, hZb, hV⟩ := hzz
  have f0 := fvi hV hl 0
  have f3 := fvi hV hl 3
  have f6 := fvi hV hl 6
  rw [show vs = [gw vs 0, gw vs 1, gw vs 2, gw vs 3, gw vs 4, gw vs 5, gw vs 6] from (gw_eta hl).trans rfl]
  have ha0 := HA0.out
  subst ha0
  clear HA0 hV hYZ hZb hsz0 hrows hne oe0 oe3
  simp only [putAll, Act.put, List.setIfInBounds_toArray, List.set_cons_zero, List.set_cons_succ, f0, f3, f6]
  clear hl f0 f3 f6
  go_wp2
  go_end0
  have hq := (Hx6.out.widen (R' := (fun k => R k ∨ New w u1_2 k)) (by intro k h1; rcases h1 with h1 | h1 | h1 <;> first | exact Or.inl h1 | (right; omega)) (Nat.le_refl _))
  simp only [List.append_assoc] at hq
  exact ⟨rfl, by simpa only [nameB, List.append_assoc] using hq, (HM0.out.trans Cx7.out (fun _ _ h => h))⟩
end Go.Proofs.Ytbifincepglilaa

/- Parts of messages, put as bytes. -/
namespace Go.Proofs.Ytbifincepglilaa
open Go Go.RowKit Go.Gv

end Go.Proofs.Ytbifincepglilaa
