/- DiskKeeps: the walk. -/
import Derived.Test.YtceojplopbjokaaStep
import Derived.IntWalk
import Derived.Deep.Cut
import Derived.Test.YtceojplopbjokaaNums
import Derived.Deep.RegionHeld3
set_option maxRecDepth 100000
set_option linter.unusedVariables false
namespace Go.Proofs.Ytceojplopbjokaa
open Go Go.RowKit Go.Gv

theorem dCrash_a (al : List Int) (k : Nat) : dCrash ⟨al, al.length, 0, true, true⟩ k = ⟨al, al.length, 0, false, false⟩ := by
  simp [dCrash]
theorem dCrash_b (al bl : List Int) (k : Nat) : dCrash ⟨al ++ bl, al.length, 0, true, true⟩ k = ⟨al ++ bl.take (min k bl.length), al.length + min k bl.length, 0, false, false⟩ := by
  unfold dCrash
  dsimp only
  rw [List.length_append, Nat.add_sub_cancel_left, List.take_append, List.take_of_length_le (by omega), Nat.add_sub_cancel_left]
theorem dCrash_c (al bl : List Int) (k : Nat) : dCrash ⟨al ++ bl, (al ++ bl).length, 0, true, false⟩ k = ⟨al ++ bl.take bl.length, al.length + bl.length, 0, false, false⟩ := by
  unfold dCrash
  dsimp only
  rw [Nat.sub_self, Nat.min_zero, Nat.add_zero, List.take_of_length_le (Nat.le_refl _), List.take_of_length_le (Nat.le_refl _), List.length_append]

set_option maxHeartbeats 20000000 in
theorem DiskKeeps_walk (va vb : Value) (xs ys : List Int) (keep fuse : Int) (hk : -9223372036854775808 ≤ keep ∧ keep ≤ 9223372036854775807) (hf : -9223372036854775808 ≤ fuse ∧ fuse ≤ 9223372036854775807) (w : World)
    (ha : RdR (fun k => k < w.heap.size) xs.length w va xs) (hb : RdR (fun k => k < w.heap.size) ys.length w vb ys) :
    Calls Try.prog 6 #[va, vb, .int .i64 keep, .int .i64 fuse] w fun e w' => e = .returned (.bool true) ∧ Mod (fun _ => False) w w' := by
  have HA := Lib.hid ha
  have HB := Lib.hid hb
  have HF := Lib.hid hf
  have HK := Lib.hid hk
  clear ha hb hf hk
  go_enter Try.func6, Try.ntmps6
  go_wp2_with fail
  refine (Cut_R 50 HA.out (by omega)).mono ?_
  rintro e w1 ⟨va1, rfl, qca, hm⟩
  have z1 := hm.size
  have H1 := Lib.hid (qca.widen (R' := (fun k => (w.heap.size ≤ k ∧ k < w1.heap.size))) (by intro k h; unfold New at h; (try dsimp only at h); (try dsimp only); omega) (Nat.le_refl _))
  have H2 := Lib.hid (HA.out.mod hm (fun _ _ h => h))
  have H3 := Lib.hid (HB.out.mod hm (fun _ _ h => h))
  have HM4 := Lib.hid ((Mod.refl (fun _ => False) w).trans hm (fun _ _ h => h))
  clear hm qca HA HB
  generalize xs.take 50 = al at *
  go_wp2_with fail
  refine (Cut_R 50 H3.out (by omega)).mono ?_
  rintro e w2 ⟨vb1, rfl, qcb, hm⟩
  have z2 := hm.size
  have H5 := Lib.hid (qcb.widen (R' := (fun k => (w1.heap.size ≤ k ∧ k < w2.heap.size))) (by intro k h; unfold New at h; (try dsimp only at h); (try dsimp only); omega) (Nat.le_refl _))
  have H6 := Lib.hid (H3.out.mod hm (fun _ _ h => h))
  have H7 := Lib.hid (H1.out.mod hm (fun _ _ h => h))
  have HM8 := Lib.hid (HM4.out.trans hm (fun _ _ h => h))
  clear hm qcb H3 H1 HM4
  generalize ys.take 50 = bl at *
  obtain ⟨aa, ac, rfl⟩ := H7.out.shape
  obtain ⟨ba, bc, rfl⟩ := H5.out.shape
  have hbl := H5.out.2.2
  have hal := H7.out.2.2
  have hbc := H5.out.rd.1.len
  rw [maxLen_val] at hbc
  go_wp2_with fail
  refine (New_R _).mono ?_
  rintro e w3 ⟨p, rfl, qd, hm⟩
  have z3 := hm.size
  have H9 := Lib.hid (qd.widen (R' := (fun k => (w2.heap.size ≤ k ∧ k < w3.heap.size))) (by intro k h; unfold New at h; (try dsimp only at h); (try dsimp only); omega) (Nat.le_refl _))
  have H10 := Lib.hid (H7.out.mod hm (fun _ _ h => h))
  have H11 := Lib.hid (H5.out.mod hm (fun _ _ h => h))
  have HM12 := Lib.hid (HM8.out.trans hm (fun _ _ h => h))
  clear hm qd H7 H5 HM8
  have K13 := Append_R H9.out H10.out.rd (by intro k h1 h2; (try dsimp only at h1 h2); omega) (by omega)
  rw [show dErr dZero = 0 from rfl, show dAppend dZero al = ⟨al, 0, 0, false, false⟩ from rfl] at K13
  have HK13 := Lib.hid K13
  clear K13
  go_wp2_with fail
  refine (HK13.out).mono ?_
  rintro e w4 ⟨rfl, qd, hm⟩
  have z4 := hm.size
  have H14 := Lib.hid (qd.widen (R' := (fun k => (w2.heap.size ≤ k ∧ k < w4.heap.size))) (by intro k h; unfold New at h; (try dsimp only at h); (try dsimp only); omega) (Nat.le_refl _))
  have H15 := Lib.hid (H10.out.mod hm (by intro k h1 h2; (try dsimp only at h1 h2); omega))
  have H16 := Lib.hid (H11.out.mod hm (by intro k h1 h2; (try dsimp only at h1 h2); omega))
  have HM17 := Lib.hid (HM12.out.trans hm (by intro k h1 h2; (try dsimp only at h2); omega))
  clear hm qd H9 H10 H11 HM12
  have K18 := Sync_R H14.out
  rw [show dErr ⟨al, 0, 0, false, false⟩ = 0 from rfl, show dSync ⟨al, 0, 0, false, false⟩ = ⟨al, al.length, 0, false, false⟩ from rfl] at K18
  have HK18 := Lib.hid K18
  clear K18
  go_wp2_with fail
  refine (HK18.out).mono ?_
  rintro e w5 ⟨rfl, qd, hm⟩
  have z5 := hm.size
  have H19 := Lib.hid qd
  have H20 := Lib.hid (H15.out.mod hm (by intro k h1 h2; (try dsimp only at h1 h2); omega))
  have H21 := Lib.hid (H16.out.mod hm (by intro k h1 h2; (try dsimp only at h1 h2); omega))
  have HM22 := Lib.hid (HM17.out.trans hm (by intro k h1 h2; (try dsimp only at h2); omega))
  clear hm qd H14 H15 H16 HM17
  have hw := Within_any fuse 3 (by omega) (by omega) HF.out
  have hw2 := within_range fuse 3 (by omega)
  generalize within fuse 3 = fz at *
  have HW := Lib.hid hw
  clear hw
  go_wp2_with fail
  refine (HW.out _).mono ?_
  rintro e wx ⟨rfl, rfl⟩
  have hz : fz = 0 ∨ fz = 1 ∨ fz = 2 := by omega
  clear hw2
  have hkk : keep < 0 ∨ (0 ≤ keep ∧ keep ≤ bl.length) ∨ (0 ≤ keep ∧ (bl.length : Int) < keep) := by omega
  rcases hz with rfl | rfl | rfl
  · have Ka23 := Fuse_R (n := 0) H19.out (by omega)
    rw [show dFuse (⟨al, al.length, 0, false, false⟩ : DS) (0 : Int).toNat = (⟨al, al.length, 0, true, false⟩ : DS) from rfl] at Ka23
    have HKa23 := Lib.hid Ka23
    clear Ka23
    go_wp2_with fail
    refine (HKa23.out).mono ?_
    rintro e aw6 ⟨rfl, qd, hm⟩
    have za6 := hm.size
    have Ha24 := Lib.hid qd
    have Ha25 := Lib.hid (H20.out.mod hm (by intro k h1 h2; (try dsimp only at h1 h2); omega))
    have Ha26 := Lib.hid (H21.out.mod hm (by intro k h1 h2; (try dsimp only at h1 h2); omega))
    have HMa27 := Lib.hid (HM22.out.trans hm (by intro k h1 h2; (try dsimp only at h2); omega))
    clear hm qd H19 H20 H21 HM22
    have Ka28 := Append_R Ha24.out Ha26.out.rd (by intro k h1 h2; (try dsimp only at h1 h2); omega) (by omega)
    rw [show dErr (⟨al, al.length, 0, true, false⟩ : DS) = 9 from rfl, show dAppend (⟨al, al.length, 0, true, false⟩ : DS) bl = (⟨al, al.length, 0, true, true⟩ : DS) from rfl] at Ka28
    have HKa28 := Lib.hid Ka28
    clear Ka28
    go_wp2_with fail
    refine (HKa28.out).mono ?_
    rintro e aw7 ⟨rfl, qd, hm⟩
    have za7 := hm.size
    have Ha29 := Lib.hid (qd.widen (R' := (fun k => (w2.heap.size ≤ k ∧ k < w4.heap.size) ∨ (aw6.heap.size ≤ k ∧ k < aw7.heap.size))) (by intro k h; unfold New at h; (try dsimp only at h); (try dsimp only); omega) (Nat.le_refl _))
    have Ha30 := Lib.hid (Ha25.out.mod hm (by intro k h1 h2; (try dsimp only at h1 h2); omega))
    have Ha31 := Lib.hid (Ha26.out.mod hm (by intro k h1 h2; (try dsimp only at h1 h2); omega))
    have HMa32 := Lib.hid (HMa27.out.trans hm (by intro k h1 h2; (try dsimp only at h2); omega))
    clear hm qd Ha24 Ha25 Ha26 HMa27
    have Ka33 := Sync_R Ha29.out
    rw [show dErr (⟨al, al.length, 0, true, true⟩ : DS) = 9 from rfl, show dSync (⟨al, al.length, 0, true, true⟩ : DS) = (⟨al, al.length, 0, true, true⟩ : DS) from rfl] at Ka33
    have HKa33 := Lib.hid Ka33
    clear Ka33
    go_wp2_with fail
    refine (HKa33.out).mono ?_
    rintro e aw8 ⟨rfl, qd, hm⟩
    have za8 := hm.size
    have Ha34 := Lib.hid qd
    have Ha35 := Lib.hid (Ha30.out.mod hm (by intro k h1 h2; (try dsimp only at h1 h2); omega))
    have Ha36 := Lib.hid (Ha31.out.mod hm (by intro k h1 h2; (try dsimp only at h1 h2); omega))
    have HMa37 := Lib.hid (HMa32.out.trans hm (by intro k h1 h2; (try dsimp only at h2); omega))
    clear hm qd Ha29 Ha30 Ha31 HMa32
    have Ka38 := Dead_R Ha34.out
    have HKa38 := Lib.hid Ka38
    clear Ka38
    go_wp2_with fail
    refine (HKa38.out).mono ?_
    rintro e wx ⟨rfl, rfl⟩
    have Ka39 := Crash_R (keep := keep) Ha34.out (by omega) HK.out
    rw [dCrash_a al keep.toNat] at Ka39
    have HKa39 := Lib.hid Ka39
    clear Ka39
    go_wp2_with fail
    refine (HKa39.out).mono ?_
    rintro e aw9 ⟨rfl, qd, hm⟩
    have za9 := hm.size
    have Ha40 := Lib.hid qd
    have Ha41 := Lib.hid (Ha35.out.mod hm (by intro k h1 h2; (try dsimp only at h1 h2); omega))
    have Ha42 := Lib.hid (Ha36.out.mod hm (by intro k h1 h2; (try dsimp only at h1 h2); omega))
    have HMa43 := Lib.hid (HMa37.out.trans hm (by intro k h1 h2; (try dsimp only at h2); omega))
    clear hm qd Ha34 Ha35 Ha36 HMa37
    obtain ⟨m, hm1⟩ : ∃ m : Nat, m = min keep.toNat bl.length := ⟨_, rfl⟩
    have HMM := Lib.hid hm1
    clear hm1
    go_upto_region 11 with (fail)
    go_cut [12] from 13 (fun t12 w' => t12 = .int .i64 m ∧ w' = aw9)
    case first =>
      rcases hkk with hk1 | ⟨hk1, hk2⟩ | ⟨hk1, hk2⟩
      · have hm2 : m = 0 := by have := HMM.out; omega
        subst hm2; go_wp2_with fail; go_meet; case rel => exact ⟨rfl, rfl⟩
      · have hm2 : keep = m := by have := HMM.out; omega
        subst hm2; go_wp2_with fail; go_meet; case rel => exact ⟨rfl, rfl⟩
      · have hm2 : m = bl.length := by have := HMM.out; omega
        subst hm2; go_wp2_with fail; go_meet; case rel => exact ⟨rfl, rfl⟩
    case rest =>
    obtain ⟨h12, hwc⟩ := hcut
    subst h12
    have hwc2 := hwc.symm
    clear hwc
    subst hwc2
    have hmb : m ≤ bl.length := by have := HMM.out; omega
    have hmc : m ≤ bc := by omega
    have HD := Ha40.out
    rw [show (⟨al, al.length, 0, false, false⟩ : DS) = ⟨al ++ bl.take 0, al.length + 0, 0, false, false⟩ by simp] at HD
    obtain ⟨bt, hbt⟩ : ∃ z, z = bl.take 0 := ⟨_, rfl⟩
    rw [← hbt, Nat.add_zero al.length] at HD
    have hws : IntKind.i64.wrap (al.length : Int) = (al.length : Int) := by rw [IntWalk.i64_in _ (by omega)]
    have HU := Lib.hid (Ha42.out.rd.upto 0 (by omega))
    rw [← hbt] at HU
    have HD2 := Lib.hid HD
    clear HD hbt Ha40
    go_wp2_with fail
    have zdax10 : ((aw9).drew).heap.size = (aw9).heap.size := rfl
    have Hax44 := Lib.hid (Ha41.out.mod ((Mod.refl (fun _ => False) aw9).drew) (fun _ _ h => h))
    have Hax45 := Lib.hid (HMa43.out.trans ((Mod.refl (fun _ => False) _).drew) (fun _ _ h => h))
    have Hax46 := Lib.hid (HD2.out.mod ((Mod.refl (fun _ => False) aw9).drew) (fun _ _ h => h))
    have Hax47 := Lib.hid (HU.out.mod ((Mod.refl (fun _ => False) aw9).drew) (fun _ _ h => h))
    go_region_law (first | (with_reducible show (if Region.wanted (Oper.mk (some 81) _ _ _ _ _) _ = true then _ else _); refine step_appR rfl (.tmp 77) (.tmp 80) rfl rfl Hax53.out rfl Hax56.out (by omega) ?_; intro ao13 cap13 axw13 qcp hm; have zax13 := hm.size; have Hax59 := Lib.hid (qcp.widen (R' := (fun k => (axw11.heap.size ≤ k ∧ k < axw13.heap.size))) (by intro k h; unfold New at h; (try dsimp only at h); (try dsimp only); omega) (Nat.le_refl _)); have Hax60 := Lib.hid (Hax54.out.mod hm (by intro k h1 h2; (try dsimp only at h1 h2); omega)); have Hax61 := Lib.hid (Hax55.out.mod hm (by intro k h1 h2; (try dsimp only at h1 h2); omega)); have Hax62 := Lib.hid (Hax56.out.mod hm (by intro k h1 h2; (try dsimp only at h1 h2); omega)); have Hax63 := Lib.hid (Hax57.out.mod hm (by intro k h1 h2; (try dsimp only at h1 h2); omega)); have HMax64 := Lib.hid (HMax58.out.trans hm (by intro k h1 h2; (try dsimp only at h2); omega)); clear hm qcp Hax53 Hax54 Hax55 Hax56 Hax57 HMax58; have HS := Same_R Hax63.out.rd Hax59.out.rd; rw [decide_eq_true rfl] at HS; have HSH := Lib.hid HS; clear HS) | (go_simp; (first | (go_at_call 41; go_must (refine (Read_R Hax46.out (by omega)).mono ?_); rintro e axw11 ⟨vr, rfl, qrd, hm⟩; have zax11 := hm.size; have Hax48 := Lib.hid (qrd.widen (R' := (fun k => ((aw9).drew.heap.size ≤ k ∧ k < axw11.heap.size))) (by intro k h; unfold New at h; (try dsimp only at h); (try dsimp only); omega) (Nat.le_refl _)); have Hax49 := Lib.hid (Hax44.out.mod hm (fun _ _ h => h)); have Hax50 := Lib.hid (Hax46.out.mod hm (fun _ _ h => h)); have Hax51 := Lib.hid (Hax47.out.mod hm (fun _ _ h => h)); have HMax52 := Lib.hid (Hax45.out.trans hm (fun _ _ h => h)); clear hm qrd Hax44 Hax46 Hax47 Hax45) | (go_at_call 42; go_must (refine (Copy_R Hax49.out.rd (by omega)).mono ?_); rintro e axw12 ⟨vcp, rfl, qcp, hm⟩; have zax12 := hm.size; have Hax53 := Lib.hid (qcp.widen (R' := (fun k => (axw11.heap.size ≤ k ∧ k < axw12.heap.size))) (by intro k h; unfold New at h; (try dsimp only at h); (try dsimp only); omega) (Nat.le_refl _)); have Hax54 := Lib.hid (Hax49.out.mod hm (fun _ _ h => h)); have Hax55 := Lib.hid (Hax50.out.mod hm (fun _ _ h => h)); have Hax56 := Lib.hid (Hax51.out.mod hm (fun _ _ h => h)); have Hax57 := Lib.hid (Hax48.out.mod hm (fun _ _ h => h)); have HMax58 := Lib.hid (HMax52.out.trans hm (fun _ _ h => h)); clear hm qcp Hax49 Hax50 Hax51 Hax48 HMax52) | (go_at_call 23; go_must (refine (HSH.out).mono ?_); rintro e axw14 ⟨rfl, hm⟩; have zax14 := hm.size; have Hax65 := Lib.hid (Hax60.out.mod hm (fun _ _ h => h)); have Hax66 := Lib.hid (Hax61.out.mod hm (fun _ _ h => h)); have Hax67 := Lib.hid (Hax62.out.mod hm (fun _ _ h => h)); have Hax68 := Lib.hid (Hax63.out.mod hm (fun _ _ h => h)); have Hax69 := Lib.hid (Hax59.out.mod hm (fun _ _ h => h)); have HMax70 := Lib.hid (HMax64.out.trans hm (fun _ _ h => h)); clear hm Hax60 Hax61 Hax62 Hax63 Hax59 HMax64; have HSY := Lib.hid (Synced_R Hax66.out); have HDE := Lib.hid (Dead_R Hax66.out); have KA := Append_R (v2 := .slice none 0 0) (cs := []) (R' := fun _ => False) (M := 0) Hax66.out ⟨RdB.nil _, (fun h => by simp at h), Nat.le_refl _⟩ (fun _ h _ => h) (by omega); rw [show dErr (⟨al ++ bt, al.length, 0, false, false⟩ : DS) = 0 from rfl] at KA; have HKA := Lib.hid KA; clear KA) | (go_at_call 43; go_must (refine (HSY.out).mono ?_); rintro e wx ⟨rfl, rfl⟩) | (go_at_call 39; go_must (refine (HDE.out).mono ?_); rintro e wx ⟨rfl, rfl⟩) | (go_at_call 36; go_must (refine (HKA.out).mono ?_); rintro e axw15 ⟨rfl, qd, hm⟩; have zax15 := hm.size; have Hax71 := Lib.hid (qd.widen (R' := (fun k => (w2.heap.size ≤ k ∧ k < w4.heap.size) ∨ (aw6.heap.size ≤ k ∧ k < aw7.heap.size) ∨ (axw14.heap.size ≤ k ∧ k < axw15.heap.size))) (by intro k h; unfold New at h; (try dsimp only at h); (try dsimp only); omega) (Nat.le_refl _)); have Hax72 := Lib.hid (Hax65.out.mod hm (by intro k h1 h2; (try dsimp only at h1 h2); omega)); have Hax73 := Lib.hid (Hax67.out.mod hm (by intro k h1 h2; (try dsimp only at h1 h2); omega)); have Hax74 := Lib.hid (Hax68.out.mod hm (by intro k h1 h2; (try dsimp only at h1 h2); omega)); have Hax75 := Lib.hid (Hax69.out.mod hm (by intro k h1 h2; (try dsimp only at h1 h2); omega)); have HMax76 := Lib.hid (HMax70.out.trans hm (by intro k h1 h2; (try dsimp only at h2); omega)); clear hm qd Hax66 Hax65 Hax67 Hax68 Hax69 HMax70) | (go_at_call 44; go_must (refine (wakes07 _).mono ?_); rintro e axw16 ⟨rfl, hm⟩; have zax16 := hm.size; have Hax77 := Lib.hid (Hax72.out.mod hm (fun _ _ h => h)); have Hax78 := Lib.hid (Hax71.out.mod hm (fun _ _ h => h)); have Hax79 := Lib.hid (Hax73.out.mod hm (fun _ _ h => h)); have Hax80 := Lib.hid (Hax74.out.mod hm (fun _ _ h => h)); have Hax81 := Lib.hid (Hax75.out.mod hm (fun _ _ h => h)); have HMax82 := Lib.hid (HMax76.out.trans hm (fun _ _ h => h)); clear hm Hax72 Hax71 Hax73 Hax74 Hax75 HMax76))))
    go_wp2
    go_ret
    exact ⟨rfl, HMax82.out⟩
  · have Kb23 := Fuse_R (n := 1) H19.out (by omega)
    rw [show dFuse (⟨al, al.length, 0, false, false⟩ : DS) (1 : Int).toNat = (⟨al, al.length, 1, true, false⟩ : DS) from rfl] at Kb23
    have HKb23 := Lib.hid Kb23
    clear Kb23
    go_wp2_with fail
    refine (HKb23.out).mono ?_
    rintro e bw6 ⟨rfl, qd, hm⟩
    have zb6 := hm.size
    have Hb24 := Lib.hid qd
    have Hb25 := Lib.hid (H20.out.mod hm (by intro k h1 h2; (try dsimp only at h1 h2); omega))
    have Hb26 := Lib.hid (H21.out.mod hm (by intro k h1 h2; (try dsimp only at h1 h2); omega))
    have HMb27 := Lib.hid (HM22.out.trans hm (by intro k h1 h2; (try dsimp only at h2); omega))
    clear hm qd H19 H20 H21 HM22
    have Kb28 := Append_R Hb24.out Hb26.out.rd (by intro k h1 h2; (try dsimp only at h1 h2); omega) (by omega)
    rw [show dErr (⟨al, al.length, 1, true, false⟩ : DS) = 0 from rfl, show dAppend (⟨al, al.length, 1, true, false⟩ : DS) bl = (⟨al ++ bl, al.length, 0, true, false⟩ : DS) from rfl] at Kb28
    have HKb28 := Lib.hid Kb28
    clear Kb28
    go_wp2_with fail
    refine (HKb28.out).mono ?_
    rintro e bw7 ⟨rfl, qd, hm⟩
    have zb7 := hm.size
    have Hb29 := Lib.hid (qd.widen (R' := (fun k => (w2.heap.size ≤ k ∧ k < w4.heap.size) ∨ (bw6.heap.size ≤ k ∧ k < bw7.heap.size))) (by intro k h; unfold New at h; (try dsimp only at h); (try dsimp only); omega) (Nat.le_refl _))
    have Hb30 := Lib.hid (Hb25.out.mod hm (by intro k h1 h2; (try dsimp only at h1 h2); omega))
    have Hb31 := Lib.hid (Hb26.out.mod hm (by intro k h1 h2; (try dsimp only at h1 h2); omega))
    have HMb32 := Lib.hid (HMb27.out.trans hm (by intro k h1 h2; (try dsimp only at h2); omega))
    clear hm qd Hb24 Hb25 Hb26 HMb27
    have Kb33 := Sync_R Hb29.out
    rw [show dErr (⟨al ++ bl, al.length, 0, true, false⟩ : DS) = 9 from rfl, show dSync (⟨al ++ bl, al.length, 0, true, false⟩ : DS) = (⟨al ++ bl, al.length, 0, true, true⟩ : DS) from rfl] at Kb33
    have HKb33 := Lib.hid Kb33
    clear Kb33
    go_wp2_with fail
    refine (HKb33.out).mono ?_
    rintro e bw8 ⟨rfl, qd, hm⟩
    have zb8 := hm.size
    have Hb34 := Lib.hid qd
    have Hb35 := Lib.hid (Hb30.out.mod hm (by intro k h1 h2; (try dsimp only at h1 h2); omega))
    have Hb36 := Lib.hid (Hb31.out.mod hm (by intro k h1 h2; (try dsimp only at h1 h2); omega))
    have HMb37 := Lib.hid (HMb32.out.trans hm (by intro k h1 h2; (try dsimp only at h2); omega))
    clear hm qd Hb29 Hb30 Hb31 HMb32
    have Kb38 := Dead_R Hb34.out
    have HKb38 := Lib.hid Kb38
    clear Kb38
    go_wp2_with fail
    refine (HKb38.out).mono ?_
    rintro e wx ⟨rfl, rfl⟩
    have Kb39 := Crash_R (keep := keep) Hb34.out (by omega) HK.out
    rw [dCrash_b al bl keep.toNat] at Kb39
    have HKb39 := Lib.hid Kb39
    clear Kb39
    go_wp2_with fail
    refine (HKb39.out).mono ?_
    rintro e bw9 ⟨rfl, qd, hm⟩
    have zb9 := hm.size
    have Hb40 := Lib.hid qd
    have Hb41 := Lib.hid (Hb35.out.mod hm (by intro k h1 h2; (try dsimp only at h1 h2); omega))
    have Hb42 := Lib.hid (Hb36.out.mod hm (by intro k h1 h2; (try dsimp only at h1 h2); omega))
    have HMb43 := Lib.hid (HMb37.out.trans hm (by intro k h1 h2; (try dsimp only at h2); omega))
    clear hm qd Hb34 Hb35 Hb36 HMb37
    obtain ⟨m, hm1⟩ : ∃ m : Nat, m = min keep.toNat bl.length := ⟨_, rfl⟩
    have HMM := Lib.hid hm1
    clear hm1
    go_upto_region 11 with (fail)
    go_cut [12] from 13 (fun t12 w' => t12 = .int .i64 m ∧ w' = bw9)
    case first =>
      rcases hkk with hk1 | ⟨hk1, hk2⟩ | ⟨hk1, hk2⟩
      · have hm2 : m = 0 := by have := HMM.out; omega
        subst hm2; go_wp2_with fail; go_meet; case rel => exact ⟨rfl, rfl⟩
      · have hm2 : keep = m := by have := HMM.out; omega
        subst hm2; go_wp2_with fail; go_meet; case rel => exact ⟨rfl, rfl⟩
      · have hm2 : m = bl.length := by have := HMM.out; omega
        subst hm2; go_wp2_with fail; go_meet; case rel => exact ⟨rfl, rfl⟩
    case rest =>
    obtain ⟨h12, hwc⟩ := hcut
    subst h12
    have hwc2 := hwc.symm
    clear hwc
    subst hwc2
    have hmb : m ≤ bl.length := by have := HMM.out; omega
    have hmc : m ≤ bc := by omega
    have HD := Hb40.out
    rw [← HMM.out] at HD
    obtain ⟨bt, hbt⟩ : ∃ z, z = bl.take m := ⟨_, rfl⟩
    obtain ⟨z, hz⟩ : ∃ z, z = al.length + m := ⟨_, rfl⟩
    rw [← hbt, ← hz] at HD
    have hws : IntKind.i64.wrap ((al.length : Int) + m) = (z : Int) := by rw [IntWalk.i64_in _ (by omega)]; omega
    have HU := Lib.hid (Hb42.out.rd.upto m (by omega))
    rw [← hbt] at HU
    have HD2 := Lib.hid HD
    clear HD hbt Hb40
    clear hz
    go_wp2_with fail
    have zdbx10 : ((bw9).drew).heap.size = (bw9).heap.size := rfl
    have Hbx44 := Lib.hid (Hb41.out.mod ((Mod.refl (fun _ => False) bw9).drew) (fun _ _ h => h))
    have Hbx45 := Lib.hid (HMb43.out.trans ((Mod.refl (fun _ => False) _).drew) (fun _ _ h => h))
    have Hbx46 := Lib.hid (HD2.out.mod ((Mod.refl (fun _ => False) bw9).drew) (fun _ _ h => h))
    have Hbx47 := Lib.hid (HU.out.mod ((Mod.refl (fun _ => False) bw9).drew) (fun _ _ h => h))
    go_region_law (first | (with_reducible show (if Region.wanted (Oper.mk (some 81) _ _ _ _ _) _ = true then _ else _); refine step_appR rfl (.tmp 77) (.tmp 80) rfl rfl Hbx53.out rfl Hbx56.out (by omega) ?_; intro ao13 cap13 bxw13 qcp hm; have zbx13 := hm.size; have Hbx59 := Lib.hid (qcp.widen (R' := (fun k => (bxw11.heap.size ≤ k ∧ k < bxw13.heap.size))) (by intro k h; unfold New at h; (try dsimp only at h); (try dsimp only); omega) (Nat.le_refl _)); have Hbx60 := Lib.hid (Hbx54.out.mod hm (by intro k h1 h2; (try dsimp only at h1 h2); omega)); have Hbx61 := Lib.hid (Hbx55.out.mod hm (by intro k h1 h2; (try dsimp only at h1 h2); omega)); have Hbx62 := Lib.hid (Hbx56.out.mod hm (by intro k h1 h2; (try dsimp only at h1 h2); omega)); have Hbx63 := Lib.hid (Hbx57.out.mod hm (by intro k h1 h2; (try dsimp only at h1 h2); omega)); have HMbx64 := Lib.hid (HMbx58.out.trans hm (by intro k h1 h2; (try dsimp only at h2); omega)); clear hm qcp Hbx53 Hbx54 Hbx55 Hbx56 Hbx57 HMbx58; have HS := Same_R Hbx63.out.rd Hbx59.out.rd; rw [decide_eq_true rfl] at HS; have HSH := Lib.hid HS; clear HS) | (go_simp; (first | (go_at_call 41; go_must (refine (Read_R Hbx46.out (by omega)).mono ?_); rintro e bxw11 ⟨vr, rfl, qrd, hm⟩; have zbx11 := hm.size; have Hbx48 := Lib.hid (qrd.widen (R' := (fun k => ((bw9).drew.heap.size ≤ k ∧ k < bxw11.heap.size))) (by intro k h; unfold New at h; (try dsimp only at h); (try dsimp only); omega) (Nat.le_refl _)); have Hbx49 := Lib.hid (Hbx44.out.mod hm (fun _ _ h => h)); have Hbx50 := Lib.hid (Hbx46.out.mod hm (fun _ _ h => h)); have Hbx51 := Lib.hid (Hbx47.out.mod hm (fun _ _ h => h)); have HMbx52 := Lib.hid (Hbx45.out.trans hm (fun _ _ h => h)); clear hm qrd Hbx44 Hbx46 Hbx47 Hbx45) | (go_at_call 42; go_must (refine (Copy_R Hbx49.out.rd (by omega)).mono ?_); rintro e bxw12 ⟨vcp, rfl, qcp, hm⟩; have zbx12 := hm.size; have Hbx53 := Lib.hid (qcp.widen (R' := (fun k => (bxw11.heap.size ≤ k ∧ k < bxw12.heap.size))) (by intro k h; unfold New at h; (try dsimp only at h); (try dsimp only); omega) (Nat.le_refl _)); have Hbx54 := Lib.hid (Hbx49.out.mod hm (fun _ _ h => h)); have Hbx55 := Lib.hid (Hbx50.out.mod hm (fun _ _ h => h)); have Hbx56 := Lib.hid (Hbx51.out.mod hm (fun _ _ h => h)); have Hbx57 := Lib.hid (Hbx48.out.mod hm (fun _ _ h => h)); have HMbx58 := Lib.hid (HMbx52.out.trans hm (fun _ _ h => h)); clear hm qcp Hbx49 Hbx50 Hbx51 Hbx48 HMbx52) | (go_at_call 23; go_must (refine (HSH.out).mono ?_); rintro e bxw14 ⟨rfl, hm⟩; have zbx14 := hm.size; have Hbx65 := Lib.hid (Hbx60.out.mod hm (fun _ _ h => h)); have Hbx66 := Lib.hid (Hbx61.out.mod hm (fun _ _ h => h)); have Hbx67 := Lib.hid (Hbx62.out.mod hm (fun _ _ h => h)); have Hbx68 := Lib.hid (Hbx63.out.mod hm (fun _ _ h => h)); have Hbx69 := Lib.hid (Hbx59.out.mod hm (fun _ _ h => h)); have HMbx70 := Lib.hid (HMbx64.out.trans hm (fun _ _ h => h)); clear hm Hbx60 Hbx61 Hbx62 Hbx63 Hbx59 HMbx64; have HSY := Lib.hid (Synced_R Hbx66.out); have HDE := Lib.hid (Dead_R Hbx66.out); have KA := Append_R (v2 := .slice none 0 0) (cs := []) (R' := fun _ => False) (M := 0) Hbx66.out ⟨RdB.nil _, (fun h => by simp at h), Nat.le_refl _⟩ (fun _ h _ => h) (by omega); rw [show dErr (⟨al ++ bt, z, 0, false, false⟩ : DS) = 0 from rfl] at KA; have HKA := Lib.hid KA; clear KA) | (go_at_call 43; go_must (refine (HSY.out).mono ?_); rintro e wx ⟨rfl, rfl⟩) | (go_at_call 39; go_must (refine (HDE.out).mono ?_); rintro e wx ⟨rfl, rfl⟩) | (go_at_call 36; go_must (refine (HKA.out).mono ?_); rintro e bxw15 ⟨rfl, qd, hm⟩; have zbx15 := hm.size; have Hbx71 := Lib.hid (qd.widen (R' := (fun k => (w2.heap.size ≤ k ∧ k < w4.heap.size) ∨ (bw6.heap.size ≤ k ∧ k < bw7.heap.size) ∨ (bxw14.heap.size ≤ k ∧ k < bxw15.heap.size))) (by intro k h; unfold New at h; (try dsimp only at h); (try dsimp only); omega) (Nat.le_refl _)); have Hbx72 := Lib.hid (Hbx65.out.mod hm (by intro k h1 h2; (try dsimp only at h1 h2); omega)); have Hbx73 := Lib.hid (Hbx67.out.mod hm (by intro k h1 h2; (try dsimp only at h1 h2); omega)); have Hbx74 := Lib.hid (Hbx68.out.mod hm (by intro k h1 h2; (try dsimp only at h1 h2); omega)); have Hbx75 := Lib.hid (Hbx69.out.mod hm (by intro k h1 h2; (try dsimp only at h1 h2); omega)); have HMbx76 := Lib.hid (HMbx70.out.trans hm (by intro k h1 h2; (try dsimp only at h2); omega)); clear hm qd Hbx66 Hbx65 Hbx67 Hbx68 Hbx69 HMbx70) | (go_at_call 44; go_must (refine (wakes07 _).mono ?_); rintro e bxw16 ⟨rfl, hm⟩; have zbx16 := hm.size; have Hbx77 := Lib.hid (Hbx72.out.mod hm (fun _ _ h => h)); have Hbx78 := Lib.hid (Hbx71.out.mod hm (fun _ _ h => h)); have Hbx79 := Lib.hid (Hbx73.out.mod hm (fun _ _ h => h)); have Hbx80 := Lib.hid (Hbx74.out.mod hm (fun _ _ h => h)); have Hbx81 := Lib.hid (Hbx75.out.mod hm (fun _ _ h => h)); have HMbx82 := Lib.hid (HMbx76.out.trans hm (fun _ _ h => h)); clear hm Hbx72 Hbx71 Hbx73 Hbx74 Hbx75 HMbx76))))
    go_wp2
    go_ret
    exact ⟨rfl, HMbx82.out⟩
  · have Kc23 := Fuse_R (n := 2) H19.out (by omega)
    rw [show dFuse (⟨al, al.length, 0, false, false⟩ : DS) (2 : Int).toNat = (⟨al, al.length, 2, true, false⟩ : DS) from rfl] at Kc23
    have HKc23 := Lib.hid Kc23
    clear Kc23
    go_wp2_with fail
    refine (HKc23.out).mono ?_
    rintro e cw6 ⟨rfl, qd, hm⟩
    have zc6 := hm.size
    have Hc24 := Lib.hid qd
    have Hc25 := Lib.hid (H20.out.mod hm (by intro k h1 h2; (try dsimp only at h1 h2); omega))
    have Hc26 := Lib.hid (H21.out.mod hm (by intro k h1 h2; (try dsimp only at h1 h2); omega))
    have HMc27 := Lib.hid (HM22.out.trans hm (by intro k h1 h2; (try dsimp only at h2); omega))
    clear hm qd H19 H20 H21 HM22
    have Kc28 := Append_R Hc24.out Hc26.out.rd (by intro k h1 h2; (try dsimp only at h1 h2); omega) (by omega)
    rw [show dErr (⟨al, al.length, 2, true, false⟩ : DS) = 0 from rfl, show dAppend (⟨al, al.length, 2, true, false⟩ : DS) bl = (⟨al ++ bl, al.length, 1, true, false⟩ : DS) from rfl] at Kc28
    have HKc28 := Lib.hid Kc28
    clear Kc28
    go_wp2_with fail
    refine (HKc28.out).mono ?_
    rintro e cw7 ⟨rfl, qd, hm⟩
    have zc7 := hm.size
    have Hc29 := Lib.hid (qd.widen (R' := (fun k => (w2.heap.size ≤ k ∧ k < w4.heap.size) ∨ (cw6.heap.size ≤ k ∧ k < cw7.heap.size))) (by intro k h; unfold New at h; (try dsimp only at h); (try dsimp only); omega) (Nat.le_refl _))
    have Hc30 := Lib.hid (Hc25.out.mod hm (by intro k h1 h2; (try dsimp only at h1 h2); omega))
    have Hc31 := Lib.hid (Hc26.out.mod hm (by intro k h1 h2; (try dsimp only at h1 h2); omega))
    have HMc32 := Lib.hid (HMc27.out.trans hm (by intro k h1 h2; (try dsimp only at h2); omega))
    clear hm qd Hc24 Hc25 Hc26 HMc27
    have Kc33 := Sync_R Hc29.out
    rw [show dErr (⟨al ++ bl, al.length, 1, true, false⟩ : DS) = 0 from rfl, show dSync (⟨al ++ bl, al.length, 1, true, false⟩ : DS) = (⟨al ++ bl, (al ++ bl).length, 0, true, false⟩ : DS) from rfl] at Kc33
    have HKc33 := Lib.hid Kc33
    clear Kc33
    go_wp2_with fail
    refine (HKc33.out).mono ?_
    rintro e cw8 ⟨rfl, qd, hm⟩
    have zc8 := hm.size
    have Hc34 := Lib.hid qd
    have Hc35 := Lib.hid (Hc30.out.mod hm (by intro k h1 h2; (try dsimp only at h1 h2); omega))
    have Hc36 := Lib.hid (Hc31.out.mod hm (by intro k h1 h2; (try dsimp only at h1 h2); omega))
    have HMc37 := Lib.hid (HMc32.out.trans hm (by intro k h1 h2; (try dsimp only at h2); omega))
    clear hm qd Hc29 Hc30 Hc31 HMc32
    have Kc38 := Dead_R Hc34.out
    have HKc38 := Lib.hid Kc38
    clear Kc38
    go_wp2_with fail
    refine (HKc38.out).mono ?_
    rintro e wx ⟨rfl, rfl⟩
    have Kc39 := Crash_R (keep := keep) Hc34.out (by omega) HK.out
    rw [dCrash_c al bl keep.toNat] at Kc39
    have HKc39 := Lib.hid Kc39
    clear Kc39
    go_wp2_with fail
    refine (HKc39.out).mono ?_
    rintro e cw9 ⟨rfl, qd, hm⟩
    have zc9 := hm.size
    have Hc40 := Lib.hid qd
    have Hc41 := Lib.hid (Hc35.out.mod hm (by intro k h1 h2; (try dsimp only at h1 h2); omega))
    have Hc42 := Lib.hid (Hc36.out.mod hm (by intro k h1 h2; (try dsimp only at h1 h2); omega))
    have HMc43 := Lib.hid (HMc37.out.trans hm (by intro k h1 h2; (try dsimp only at h2); omega))
    clear hm qd Hc34 Hc35 Hc36 HMc37
    obtain ⟨m, hm1⟩ : ∃ m : Nat, m = min keep.toNat bl.length := ⟨_, rfl⟩
    have HMM := Lib.hid hm1
    clear hm1
    go_upto_region 11 with (fail)
    go_cut [12] from 13 (fun t12 w' => t12 = .int .i64 m ∧ w' = cw9)
    case first =>
      rcases hkk with hk1 | ⟨hk1, hk2⟩ | ⟨hk1, hk2⟩
      · have hm2 : m = 0 := by have := HMM.out; omega
        subst hm2; go_wp2_with fail; go_meet; case rel => exact ⟨rfl, rfl⟩
      · have hm2 : keep = m := by have := HMM.out; omega
        subst hm2; go_wp2_with fail; go_meet; case rel => exact ⟨rfl, rfl⟩
      · have hm2 : m = bl.length := by have := HMM.out; omega
        subst hm2; go_wp2_with fail; go_meet; case rel => exact ⟨rfl, rfl⟩
    case rest =>
    obtain ⟨h12, hwc⟩ := hcut
    subst h12
    have hwc2 := hwc.symm
    clear hwc
    subst hwc2
    have hmb : m ≤ bl.length := by have := HMM.out; omega
    have hmc : m ≤ bc := by omega
    have HD := Hc40.out
    obtain ⟨bt, hbt⟩ : ∃ z, z = bl.take bl.length := ⟨_, rfl⟩
    obtain ⟨z, hz⟩ : ∃ z, z = al.length + bl.length := ⟨_, rfl⟩
    rw [← hbt, ← hz] at HD
    have hws : IntKind.i64.wrap ((al.length : Int) + bl.length) = (z : Int) := by rw [IntWalk.i64_in _ (by omega)]; omega
    have HU := Lib.hid (Hc42.out.rd.upto bl.length (by omega))
    rw [← hbt] at HU
    have HD2 := Lib.hid HD
    clear HD hbt Hc40
    clear hz
    go_wp2_with fail
    have zdcx10 : ((cw9).drew).heap.size = (cw9).heap.size := rfl
    have Hcx44 := Lib.hid (Hc41.out.mod ((Mod.refl (fun _ => False) cw9).drew) (fun _ _ h => h))
    have Hcx45 := Lib.hid (HMc43.out.trans ((Mod.refl (fun _ => False) _).drew) (fun _ _ h => h))
    have Hcx46 := Lib.hid (HD2.out.mod ((Mod.refl (fun _ => False) cw9).drew) (fun _ _ h => h))
    have Hcx47 := Lib.hid (HU.out.mod ((Mod.refl (fun _ => False) cw9).drew) (fun _ _ h => h))
    go_region_law (first | (with_reducible show (if Region.wanted (Oper.mk (some 81) _ _ _ _ _) _ = true then _ else _); refine step_appR rfl (.tmp 77) (.tmp 80) rfl rfl Hcx53.out rfl Hcx56.out (by omega) ?_; intro ao13 cap13 cxw13 qcp hm; have zcx13 := hm.size; have Hcx59 := Lib.hid (qcp.widen (R' := (fun k => (cxw11.heap.size ≤ k ∧ k < cxw13.heap.size))) (by intro k h; unfold New at h; (try dsimp only at h); (try dsimp only); omega) (Nat.le_refl _)); have Hcx60 := Lib.hid (Hcx54.out.mod hm (by intro k h1 h2; (try dsimp only at h1 h2); omega)); have Hcx61 := Lib.hid (Hcx55.out.mod hm (by intro k h1 h2; (try dsimp only at h1 h2); omega)); have Hcx62 := Lib.hid (Hcx56.out.mod hm (by intro k h1 h2; (try dsimp only at h1 h2); omega)); have Hcx63 := Lib.hid (Hcx57.out.mod hm (by intro k h1 h2; (try dsimp only at h1 h2); omega)); have HMcx64 := Lib.hid (HMcx58.out.trans hm (by intro k h1 h2; (try dsimp only at h2); omega)); clear hm qcp Hcx53 Hcx54 Hcx55 Hcx56 Hcx57 HMcx58; have HS := Same_R Hcx63.out.rd Hcx59.out.rd; rw [decide_eq_true rfl] at HS; have HSH := Lib.hid HS; clear HS) | (go_simp; (first | (go_at_call 41; go_must (refine (Read_R Hcx46.out (by omega)).mono ?_); rintro e cxw11 ⟨vr, rfl, qrd, hm⟩; have zcx11 := hm.size; have Hcx48 := Lib.hid (qrd.widen (R' := (fun k => ((cw9).drew.heap.size ≤ k ∧ k < cxw11.heap.size))) (by intro k h; unfold New at h; (try dsimp only at h); (try dsimp only); omega) (Nat.le_refl _)); have Hcx49 := Lib.hid (Hcx44.out.mod hm (fun _ _ h => h)); have Hcx50 := Lib.hid (Hcx46.out.mod hm (fun _ _ h => h)); have Hcx51 := Lib.hid (Hcx47.out.mod hm (fun _ _ h => h)); have HMcx52 := Lib.hid (Hcx45.out.trans hm (fun _ _ h => h)); clear hm qrd Hcx44 Hcx46 Hcx47 Hcx45) | (go_at_call 42; go_must (refine (Copy_R Hcx49.out.rd (by omega)).mono ?_); rintro e cxw12 ⟨vcp, rfl, qcp, hm⟩; have zcx12 := hm.size; have Hcx53 := Lib.hid (qcp.widen (R' := (fun k => (cxw11.heap.size ≤ k ∧ k < cxw12.heap.size))) (by intro k h; unfold New at h; (try dsimp only at h); (try dsimp only); omega) (Nat.le_refl _)); have Hcx54 := Lib.hid (Hcx49.out.mod hm (fun _ _ h => h)); have Hcx55 := Lib.hid (Hcx50.out.mod hm (fun _ _ h => h)); have Hcx56 := Lib.hid (Hcx51.out.mod hm (fun _ _ h => h)); have Hcx57 := Lib.hid (Hcx48.out.mod hm (fun _ _ h => h)); have HMcx58 := Lib.hid (HMcx52.out.trans hm (fun _ _ h => h)); clear hm qcp Hcx49 Hcx50 Hcx51 Hcx48 HMcx52) | (go_at_call 23; go_must (refine (HSH.out).mono ?_); rintro e cxw14 ⟨rfl, hm⟩; have zcx14 := hm.size; have Hcx65 := Lib.hid (Hcx60.out.mod hm (fun _ _ h => h)); have Hcx66 := Lib.hid (Hcx61.out.mod hm (fun _ _ h => h)); have Hcx67 := Lib.hid (Hcx62.out.mod hm (fun _ _ h => h)); have Hcx68 := Lib.hid (Hcx63.out.mod hm (fun _ _ h => h)); have Hcx69 := Lib.hid (Hcx59.out.mod hm (fun _ _ h => h)); have HMcx70 := Lib.hid (HMcx64.out.trans hm (fun _ _ h => h)); clear hm Hcx60 Hcx61 Hcx62 Hcx63 Hcx59 HMcx64; have HSY := Lib.hid (Synced_R Hcx66.out); have HDE := Lib.hid (Dead_R Hcx66.out); have KA := Append_R (v2 := .slice none 0 0) (cs := []) (R' := fun _ => False) (M := 0) Hcx66.out ⟨RdB.nil _, (fun h => by simp at h), Nat.le_refl _⟩ (fun _ h _ => h) (by omega); rw [show dErr (⟨al ++ bt, z, 0, false, false⟩ : DS) = 0 from rfl] at KA; have HKA := Lib.hid KA; clear KA) | (go_at_call 43; go_must (refine (HSY.out).mono ?_); rintro e wx ⟨rfl, rfl⟩) | (go_at_call 39; go_must (refine (HDE.out).mono ?_); rintro e wx ⟨rfl, rfl⟩) | (go_at_call 36; go_must (refine (HKA.out).mono ?_); rintro e cxw15 ⟨rfl, qd, hm⟩; have zcx15 := hm.size; have Hcx71 := Lib.hid (qd.widen (R' := (fun k => (w2.heap.size ≤ k ∧ k < w4.heap.size) ∨ (cw6.heap.size ≤ k ∧ k < cw7.heap.size) ∨ (cxw14.heap.size ≤ k ∧ k < cxw15.heap.size))) (by intro k h; unfold New at h; (try dsimp only at h); (try dsimp only); omega) (Nat.le_refl _)); have Hcx72 := Lib.hid (Hcx65.out.mod hm (by intro k h1 h2; (try dsimp only at h1 h2); omega)); have Hcx73 := Lib.hid (Hcx67.out.mod hm (by intro k h1 h2; (try dsimp only at h1 h2); omega)); have Hcx74 := Lib.hid (Hcx68.out.mod hm (by intro k h1 h2; (try dsimp only at h1 h2); omega)); have Hcx75 := Lib.hid (Hcx69.out.mod hm (by intro k h1 h2; (try dsimp only at h1 h2); omega)); have HMcx76 := Lib.hid (HMcx70.out.trans hm (by intro k h1 h2; (try dsimp only at h2); omega)); clear hm qd Hcx66 Hcx65 Hcx67 Hcx68 Hcx69 HMcx70) | (go_at_call 44; go_must (refine (wakes07 _).mono ?_); rintro e cxw16 ⟨rfl, hm⟩; have zcx16 := hm.size; have Hcx77 := Lib.hid (Hcx72.out.mod hm (fun _ _ h => h)); have Hcx78 := Lib.hid (Hcx71.out.mod hm (fun _ _ h => h)); have Hcx79 := Lib.hid (Hcx73.out.mod hm (fun _ _ h => h)); have Hcx80 := Lib.hid (Hcx74.out.mod hm (fun _ _ h => h)); have Hcx81 := Lib.hid (Hcx75.out.mod hm (fun _ _ h => h)); have HMcx82 := Lib.hid (HMcx76.out.trans hm (fun _ _ h => h)); clear hm Hcx72 Hcx71 Hcx73 Hcx74 Hcx75 HMcx76))))
    go_wp2
    go_ret
    exact ⟨rfl, HMcx82.out⟩
end Go.Proofs.Ytceojplopbjokaa
