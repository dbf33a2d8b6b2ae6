/- gavellaw07: the document's own example. -/
import Derived.Test.YtceojplopbjokaaDisk4
import Derived.Test.YtceojplopbjokaaNums
import Derived.Deep.RegionHeld3
set_option maxRecDepth 100000
set_option linter.unusedVariables false
namespace Go.Proofs.Ytceojplopbjokaa
open Go Go.RowKit Go.Gv

theorem wakes07 (w : World) : Calls Try.prog 44 #[] w fun e w' => e = .returned (.bool true) ∧ Mod (fun _ => False) w w' := by
  go_enter Try.func44, Try.ntmps44
  go_wp2_with fail
  refine (New_R _).mono ?_
  rintro e w1 ⟨p, rfl, qd, hm⟩
  have z1 := hm.size
  have H1 := Lib.hid (qd.widen (R' := (fun k => (w.heap.size ≤ k ∧ k < w1.heap.size))) (by intro k h; unfold New at h; (try dsimp only at h); (try dsimp only); omega) (Nat.le_refl _))
  have HM2 := Lib.hid ((Mod.refl (fun _ => False) w).trans hm (fun _ _ h => h))
  clear hm qd
  go_wp2_with fail
  obtain ⟨wl2, el, hrl, hm⟩ := RdR_new w1 [1, 2, 3] (by intro x hx; simp at hx; omega) (by simp) 5
  have EL_lit := Lib.hid (show (w1).alloc (.cells #[bv 1, bv 2, bv 3] 5) = wl2 from el)
  have z_wl2 := hm.size
  have HL_lit := Lib.hid (hrl.widen (R' := (fun k => (w1.heap.size ≤ k ∧ k < wl2.heap.size))) (by intro k h; exact h) (Nat.le_refl _))
  have H3 := Lib.hid (H1.out.mod hm (fun _ _ h => h))
  have HM4 := Lib.hid (HM2.out.trans hm (fun _ _ h => h))
  clear el hrl hm
  rw [EL_lit.out]
  have K5 := Append_R H3.out HL_lit.out (by intro k h1 h2; (try dsimp only at h1 h2); omega) (by simp)
  rw [show dErr dZero = 0 from rfl, show dAppend dZero [1, 2, 3] = ⟨[1, 2, 3], 0, 0, false, false⟩ from rfl] at K5
  have HK5 := Lib.hid K5
  clear K5
  refine (HK5.out).mono ?_
  rintro e w3 ⟨rfl, qd, hm⟩
  have z3 := hm.size
  have H6 := Lib.hid (qd.widen (R' := (fun k => (w.heap.size ≤ k ∧ k < w1.heap.size) ∨ (wl2.heap.size ≤ k ∧ k < w3.heap.size))) (by intro k h; unfold New at h; (try dsimp only at h); (try dsimp only); omega) (Nat.le_refl _))
  have H7 := Lib.hid (HL_lit.out.mod hm (by intro k h1 h2; (try dsimp only at h1 h2); omega))
  have HM8 := Lib.hid (HM4.out.trans hm (by intro k h1 h2; (try dsimp only at h2); omega))
  clear hm qd H3 HL_lit HM4
  have K9 := Crash_R (keep := 2) H6.out (by simp) (by omega)
  rw [show dCrash ⟨[1, 2, 3], 0, 0, false, false⟩ (2 : Int).toNat = ⟨[1, 2], 2, 0, false, false⟩ from rfl] at K9
  have HK9 := Lib.hid K9
  clear K9
  go_wp2_with fail
  refine (HK9.out).mono ?_
  rintro e w4 ⟨rfl, qd, hm⟩
  have z4 := hm.size
  have H10 := Lib.hid qd
  have HM11 := Lib.hid (HM8.out.trans hm (by intro k h1 h2; (try dsimp only at h2); omega))
  clear hm qd H6 HM8
  go_wp2_with fail
  refine (Read_R H10.out (by simp)).mono ?_
  rintro e w5 ⟨vr, rfl, qrd, hm⟩
  have z5 := hm.size
  have H12 := Lib.hid (qrd.widen (R' := (fun k => (w4.heap.size ≤ k ∧ k < w5.heap.size))) (by intro k h; unfold New at h; (try dsimp only at h); (try dsimp only); omega) (Nat.le_refl _))
  have H13 := Lib.hid (H10.out.mod hm (fun _ _ h => h))
  have HM14 := Lib.hid (HM11.out.trans hm (fun _ _ h => h))
  clear hm qrd H10 HM11
  go_wp2_with fail
  obtain ⟨wl6, el, hrl, hm⟩ := RdR_new w5 [1, 2] (by intro x hx; simp at hx; omega) (by simp) 5
  have EL_lit2 := Lib.hid (show (w5).alloc (.cells #[bv 1, bv 2] 5) = wl6 from el)
  have z_wl6 := hm.size
  have HL_lit2 := Lib.hid (hrl.widen (R' := (fun k => (w5.heap.size ≤ k ∧ k < wl6.heap.size))) (by intro k h; exact h) (Nat.le_refl _))
  have H15 := Lib.hid (H13.out.mod hm (fun _ _ h => h))
  have H16 := Lib.hid (H12.out.mod hm (fun _ _ h => h))
  have HM17 := Lib.hid (HM14.out.trans hm (fun _ _ h => h))
  clear el hrl hm
  rw [EL_lit2.out]
  have K18 := Same_R H16.out.rd HL_lit2.out
  rw [decide_eq_true rfl] at K18
  have HK18 := Lib.hid K18
  clear K18
  refine (HK18.out).mono ?_
  rintro e w7 ⟨rfl, hm⟩
  have z7 := hm.size
  have H19 := Lib.hid (H15.out.mod hm (fun _ _ h => h))
  have H20 := Lib.hid (H16.out.mod hm (fun _ _ h => h))
  have H21 := Lib.hid (HL_lit2.out.mod hm (fun _ _ h => h))
  have HM22 := Lib.hid (HM17.out.trans hm (fun _ _ h => h))
  clear hm H15 H16 HL_lit2 HM17
  go_wp2_with fail
  refine (Synced_R H19.out).mono ?_
  rintro e wx ⟨rfl, rfl⟩
  go_wp2
  go_ret
  exact ⟨rfl, HM22.out⟩
end Go.Proofs.Ytceojplopbjokaa
