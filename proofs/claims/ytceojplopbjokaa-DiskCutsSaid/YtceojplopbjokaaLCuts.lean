/- DiskCuts: the walk. -/
import Derived.Test.YtceojplopbjokaaStep
import Derived.IntWalk
import Derived.Deep.Cut
import Derived.Test.YtceojplopbjokaaNums
import Derived.Deep.RegionHeld3
set_option maxRecDepth 100000
set_option linter.unusedVariables false
namespace Go.Proofs.Ytceojplopbjokaa
open Go Go.RowKit Go.Gv

set_option maxHeartbeats 20000000 in
theorem DiskCuts_walk (va vb : Value) (xs ys : List Int) (n keep bad : Int) (hn : -9223372036854775808 ≤ n ∧ n ≤ 9223372036854775807) (hk : -9223372036854775808 ≤ keep ∧ keep ≤ 9223372036854775807) (w : World)
    (ha : RdR (fun k => k < w.heap.size) xs.length w va xs) (hb : RdR (fun k => k < w.heap.size) ys.length w vb ys) :
    Calls Try.prog 8 #[va, vb, .int .i64 n, .int .i64 keep, .int .i64 bad] w fun e w' => e = .returned (.bool true) ∧ Mod (fun _ => False) w w' := by
  have HA := Lib.hid ha
  have HB := Lib.hid hb
  have HN := Lib.hid hn
  have HK := Lib.hid hk
  clear ha hb hn hk
  go_enter Try.func8, Try.ntmps8
  go_wp2_with fail
  refine (Cut_R 40 HA.out (by omega)).mono ?_
  rintro e w1 ⟨va1, rfl, qca, hm⟩
  have z1 := hm.size
  have H1 := Lib.hid (qca.widen (R' := (fun k => (w.heap.size ≤ k ∧ k < w1.heap.size))) (by intro k h; unfold New at h; (try dsimp only at h); (try dsimp only); omega) (Nat.le_refl _))
  have H2 := Lib.hid (HA.out.mod hm (fun _ _ h => h))
  have H3 := Lib.hid (HB.out.mod hm (fun _ _ h => h))
  have HM4 := Lib.hid ((Mod.refl (fun _ => False) w).trans hm (fun _ _ h => h))
  clear hm qca HA HB
  generalize xs.take 40 = al at *
  go_wp2_with fail
  refine (Cut_R 40 H3.out (by omega)).mono ?_
  rintro e w2 ⟨vb1, rfl, qcb, hm⟩
  have z2 := hm.size
  have H5 := Lib.hid (qcb.widen (R' := (fun k => (w1.heap.size ≤ k ∧ k < w2.heap.size))) (by intro k h; unfold New at h; (try dsimp only at h); (try dsimp only); omega) (Nat.le_refl _))
  have H6 := Lib.hid (H3.out.mod hm (fun _ _ h => h))
  have H7 := Lib.hid (H1.out.mod hm (fun _ _ h => h))
  have HM8 := Lib.hid (HM4.out.trans hm (fun _ _ h => h))
  clear hm qcb H3 H1 HM4
  generalize ys.take 40 = bl at *
  obtain ⟨aa, ac, rfl⟩ := H7.out.shape
  obtain ⟨ba, bc, rfl⟩ := H5.out.shape
  have hbl := H5.out.2.2
  have hal := H7.out.2.2
  go_wp2_with fail
  refine (New_R _).mono ?_
  rintro e w3 ⟨p, rfl, qd, hm⟩
  have z3 := hm.size
  have H9 := Lib.hid (qd.widen (R' := (fun k => (w2.heap.size ≤ k ∧ k < w3.heap.size))) (by intro k h; unfold New at h; (try dsimp only at h); (try dsimp only); omega) (Nat.le_refl _))
  have H10 := Lib.hid (H7.out.mod hm (fun _ _ h => h))
  have H11 := Lib.hid (H5.out.mod hm (fun _ _ h => h))
  have HM12 := Lib.hid (HM8.out.trans hm (fun _ _ h => h))
  clear hm qd H7 H5 HM8
  have K13 := Append_R H9.out H10.out.rd (by intro k h1 h2; (try dsimp only at h1 h2); omega) (by omega)
  rw [show dErr dZero = 0 from rfl, show dAppend dZero al = (⟨al, 0, 0, false, false⟩ : DS) from rfl] at K13
  have HK13 := Lib.hid K13
  clear K13
  go_wp2_with fail
  refine (HK13.out).mono ?_
  rintro e w4 ⟨rfl, qd, hm⟩
  have z4 := hm.size
  have H14 := Lib.hid (qd.widen (R' := (fun k => (w2.heap.size ≤ k ∧ k < w4.heap.size))) (by intro k h; unfold New at h; (try dsimp only at h); (try dsimp only); omega) (Nat.le_refl _))
  have H15 := Lib.hid (H10.out.mod hm (by intro k h1 h2; (try dsimp only at h1 h2); omega))
  have H16 := Lib.hid (H11.out.mod hm (by intro k h1 h2; (try dsimp only at h1 h2); omega))
  have HM17 := Lib.hid (HM12.out.trans hm (by intro k h1 h2; (try dsimp only at h2); omega))
  clear hm qd H9 H10 H11 HM12
  have K18 := Sync_R H14.out
  rw [show dErr (⟨al, 0, 0, false, false⟩ : DS) = 0 from rfl, show dSync (⟨al, 0, 0, false, false⟩ : DS) = (⟨al, al.length, 0, false, false⟩ : DS) from rfl] at K18
  have HK18 := Lib.hid K18
  clear K18
  go_wp2_with fail
  refine (HK18.out).mono ?_
  rintro e w5 ⟨rfl, qd, hm⟩
  have z5 := hm.size
  have H19 := Lib.hid qd
  have H20 := Lib.hid (H15.out.mod hm (by intro k h1 h2; (try dsimp only at h1 h2); omega))
  have H21 := Lib.hid (H16.out.mod hm (by intro k h1 h2; (try dsimp only at h1 h2); omega))
  have HM22 := Lib.hid (HM17.out.trans hm (by intro k h1 h2; (try dsimp only at h2); omega))
  clear hm qd H14 H15 H16 HM17
  have K23 := Append_R H19.out H21.out.rd (by intro k h1 h2; (try dsimp only at h1 h2); omega) (by omega)
  rw [show dErr (⟨al, al.length, 0, false, false⟩ : DS) = 0 from rfl, show dAppend (⟨al, al.length, 0, false, false⟩ : DS) bl = (⟨al ++ bl, al.length, 0, false, false⟩ : DS) from rfl] at K23
  have HK23 := Lib.hid K23
  clear K23
  go_wp2_with fail
  refine (HK23.out).mono ?_
  rintro e w6 ⟨rfl, qd, hm⟩
  have z6 := hm.size
  have H24 := Lib.hid (qd.widen (R' := (fun k => (w2.heap.size ≤ k ∧ k < w4.heap.size) ∨ (w5.heap.size ≤ k ∧ k < w6.heap.size))) (by intro k h; unfold New at h; (try dsimp only at h); (try dsimp only); omega) (Nat.le_refl _))
  have H25 := Lib.hid (H20.out.mod hm (by intro k h1 h2; (try dsimp only at h1 h2); omega))
  have H26 := Lib.hid (H21.out.mod hm (by intro k h1 h2; (try dsimp only at h1 h2); omega))
  have HM27 := Lib.hid (HM22.out.trans hm (by intro k h1 h2; (try dsimp only at h2); omega))
  clear hm qd H19 H20 H21 HM22
  go_wp2_with fail
  refine (Copy_R H25.out.rd (by omega)).mono ?_
  rintro e w7 ⟨vcp, rfl, qall, hm⟩
  have z7 := hm.size
  have H28 := Lib.hid (qall.widen (R' := (fun k => (w6.heap.size ≤ k ∧ k < w7.heap.size))) (by intro k h; unfold New at h; (try dsimp only at h); (try dsimp only); omega) (Nat.le_refl _))
  have H29 := Lib.hid (H25.out.mod hm (fun _ _ h => h))
  have H30 := Lib.hid (H26.out.mod hm (fun _ _ h => h))
  have H31 := Lib.hid (H24.out.mod hm (fun _ _ h => h))
  have HM32 := Lib.hid (HM27.out.trans hm (fun _ _ h => h))
  clear hm qall H25 H26 H24 HM27
  go_wp2_with (at_builtin; go_must (refine wpList_appR rfl (.tmp 39) (.tmp 40) rfl rfl H28.out rfl H30.out.rd (by omega) ?_))
  intro ao8 cap8 w8 qall hm
  have z8 := hm.size
  have H33 := Lib.hid (qall.widen (R' := (fun k => (w6.heap.size ≤ k ∧ k < w8.heap.size))) (by intro k h; unfold New at h; (try dsimp only at h); (try dsimp only); omega) (Nat.le_refl _))
  have H34 := Lib.hid (H29.out.mod hm (by intro k h1 h2; (try dsimp only at h1 h2); omega))
  have H35 := Lib.hid (H30.out.mod hm (by intro k h1 h2; (try dsimp only at h1 h2); omega))
  have H36 := Lib.hid (H31.out.mod hm (by intro k h1 h2; (try dsimp only at h1 h2); omega))
  have HM37 := Lib.hid (HM32.out.trans hm (by intro k h1 h2; (try dsimp only at h2); omega))
  clear hm qall H28 H29 H30 H31 HM32
  have HD := H36.out
  have HAL := H33.out
  have hLl : (al ++ bl).length = al.length + bl.length := by simp
  obtain ⟨a, ha⟩ : ∃ a, a = al.length := ⟨_, rfl⟩
  rw [← hLl] at HAL
  simp only [← hLl]
  rw [← ha] at HD hLl hal
  simp only [← ha]
  generalize al ++ bl = L at HD HAL hLl ⊢
  have HD2 := Lib.hid HD
  have HAL2 := Lib.hid HAL
  have hal2 : a ≤ L.length := by omega
  have hlb : L.length ≤ 80 := by omega
  have hlc := HAL2.out.rd.1.len
  clear HD HAL hLl ha H36 H33
  obtain ⟨inb, hinb⟩ : ∃ b : Bool, b = decide (0 ≤ bad ∧ bad ≤ L.length) := ⟨_, rfl⟩
  have HIN := Lib.hid hinb
  clear hinb
  go_upto_region 6 with (fail)
  go_cut [49] from 14 (fun t49 w' => t49 = .bool inb ∧ w' = w8)
  case first =>
    by_cases hb0 : bad < 0
    · go_wp2_with fail; go_meet; case rel => exact ⟨congrArg Value.bool (by rw [HIN.out]; exact (decide_eq_false (by omega)).symm), rfl⟩
    · by_cases hb1 : bad ≤ L.length
      · go_wp2_with fail; go_meet; case rel => exact ⟨congrArg Value.bool (by rw [HIN.out]; exact (decide_eq_true (by omega)).symm), rfl⟩
      · go_wp2_with fail; go_meet; case rel => exact ⟨congrArg Value.bool (by rw [HIN.out]; exact (decide_eq_false (by omega)).symm), rfl⟩
  case rest =>
    obtain ⟨rfl, hwc⟩ := hcut
    have hwc2 := hwc.symm
    clear hwc
    subst hwc2
    go_upto_if 49 with (fail)
    go_cut [4] from 14 (fun t4 w' => (∃ b : Int, t4 = .int .i64 b ∧ (b < 0 ∨ (L.length : Int) < b)) ∧ w' = w8)
    case first =>
      cases inb
      · have hb2 : bad < 0 ∨ (L.length : Int) < bad := by have := of_decide_eq_false HIN.out.symm; omega
        have HB2 := Lib.hid hb2; clear hb2; go_wp2_with fail; go_meet; case rel => exact ⟨⟨bad, rfl, HB2.out⟩, rfl⟩
      · go_wp2_with fail; go_meet; case rel => exact ⟨⟨-1, rfl, Or.inl (by omega)⟩, rfl⟩
    case rest =>
      obtain ⟨⟨b, rfl, hb⟩, hwc⟩ := hcut
      have hwc2 := hwc.symm
      clear hwc
      subst hwc2
      have K38 := Cut_bad HD2.out rfl rfl hb (by omega)
      have HK38 := Lib.hid K38
      clear K38
      go_wp2_with fail
      refine (HK38.out).mono ?_
      rintro e wx ⟨rfl, rfl⟩
      go_wp2_with fail
      refine (Read_R HD2.out (by omega)).mono ?_
      rintro e w9 ⟨vr, rfl, qrd, hm⟩
      have z9 := hm.size
      have H39 := Lib.hid (qrd.widen (R' := (fun k => (w8.heap.size ≤ k ∧ k < w9.heap.size))) (by intro k h; unfold New at h; (try dsimp only at h); (try dsimp only); omega) (Nat.le_refl _))
      have H40 := Lib.hid (HD2.out.mod hm (fun _ _ h => h))
      have H41 := Lib.hid (HAL2.out.mod hm (fun _ _ h => h))
      have HM42 := Lib.hid (HM37.out.trans hm (fun _ _ h => h))
      clear hm qrd HD2 HAL2 HM37
      have K43 := Same_R H39.out.rd H41.out.rd
      rw [decide_eq_true rfl] at K43
      have HK43 := Lib.hid K43
      clear K43
      go_wp2_with fail
      refine (HK43.out).mono ?_
      rintro e w10 ⟨rfl, hm⟩
      have z10 := hm.size
      have H44 := Lib.hid (H40.out.mod hm (fun _ _ h => h))
      have H45 := Lib.hid (H41.out.mod hm (fun _ _ h => h))
      have H46 := Lib.hid (H39.out.mod hm (fun _ _ h => h))
      have HM47 := Lib.hid (HM42.out.trans hm (fun _ _ h => h))
      clear hm H40 H41 H39 HM42
      have hw := Within_any n ((L.length : Int) + 1) (by omega) (by omega) HN.out
      have hw2 := within_range n ((L.length : Int) + 1) (by omega)
      generalize within n ((L.length : Int) + 1) = k' at *
      obtain ⟨k, rfl⟩ : ∃ k : Nat, k' = k := ⟨k'.toNat, by omega⟩
      have HW := Lib.hid hw
      clear hw
      have hkL : k ≤ L.length := by omega
      clear hw2
      go_wp2_with fail
      refine (HW.out _).mono ?_
      rintro e wx ⟨rfl, rfl⟩
      have HU := Lib.hid (H45.out.rd.upto k hkL)
      have hkc : k ≤ cap8 := by omega
      by_cases hmi : a < k
      · have hmin : min a k = a := by omega
        have KC := Cut_ok (n := k) H44.out rfl rfl hkL (by omega)
        rw [show dCut (⟨L, a, 0, false, false⟩ : DS) k = (⟨L.take k, min a k, 0, false, false⟩ : DS) from rfl, hmin] at KC
        clear KC
        have hlt : (L.take k).length = k := by simp; omega
        have HLT := Lib.hid hlt
        clear hlt
        go_upto_region 11 with (fail)
        go_cut [93] from 14 (fun t93 w' => (t93 = .bool false) ∧ w10.heap.size ≤ w'.heap.size ∧ DkR (fun k => (w2.heap.size ≤ k ∧ k < w4.heap.size) ∨ (w5.heap.size ≤ k ∧ k < w6.heap.size)) 80 w' p (⟨L.take k, a, 0, false, false⟩ : DS) ∧ OwR (fun k => (w6.heap.size ≤ k ∧ k < w8.heap.size)) 80 w' (.slice ao8 L.length cap8) L ∧ Mod (fun _ => False) w w')
        case first =>
          go_wp2_with fail
          have zdxc11 : ((w10).drew).heap.size = (w10).heap.size := rfl
          have Hxc48 := Lib.hid (HM47.out.trans ((Mod.refl (fun _ => False) _).drew) (fun _ _ h => h))
          have Hxc49 := Lib.hid (H44.out.mod ((Mod.refl (fun _ => False) w10).drew) (fun _ _ h => h))
          have Hxc50 := Lib.hid (H45.out.mod ((Mod.refl (fun _ => False) w10).drew) (fun _ _ h => h))
          have Hxc51 := Lib.hid (HU.out.mod ((Mod.refl (fun _ => False) w10).drew) (fun _ _ h => h))
          have KC := Cut_ok (n := k) Hxc49.out rfl rfl hkL (by omega)
          rw [show dCut (⟨L, a, 0, false, false⟩ : DS) k = (⟨L.take k, min a k, 0, false, false⟩ : DS) from rfl, hmin] at KC
          have HKC := Lib.hid KC
          clear KC hmin
          go_region_held3 (fun w' => True) (go_keep)
            (first | (go_at_call 49; go_must (refine (HKC.out).mono ?_); rintro e xcw12 ⟨rfl, qd, hm⟩; have zxc12 := hm.size; have Hxc52 := Lib.hid qd; have Hxc53 := Lib.hid (Hxc50.out.mod hm (by intro k h1 h2; (try dsimp only at h1 h2); omega)); have Hxc54 := Lib.hid (Hxc51.out.mod hm (by intro k h1 h2; (try dsimp only at h1 h2); omega)); have HMxc55 := Lib.hid (Hxc48.out.trans hm (by intro k h1 h2; (try dsimp only at h2); omega)); clear hm qd Hxc49 Hxc50 Hxc51 Hxc48) | (go_at_call 41; go_must (refine (Read_R Hxc52.out (by omega)).mono ?_); rintro e xcw13 ⟨vr2, rfl, qrd, hm⟩; have zxc13 := hm.size; have Hxc56 := Lib.hid (qrd.widen (R' := (fun k => (xcw12.heap.size ≤ k ∧ k < xcw13.heap.size))) (by intro k h; unfold New at h; (try dsimp only at h); (try dsimp only); omega) (Nat.le_refl _)); have Hxc57 := Lib.hid (Hxc52.out.mod hm (fun _ _ h => h)); have Hxc58 := Lib.hid (Hxc53.out.mod hm (fun _ _ h => h)); have Hxc59 := Lib.hid (Hxc54.out.mod hm (fun _ _ h => h)); have HMxc60 := Lib.hid (HMxc55.out.trans hm (fun _ _ h => h)); clear hm qrd Hxc52 Hxc53 Hxc54 HMxc55; have HS := Same_R Hxc56.out.rd Hxc59.out; rw [decide_eq_true rfl] at HS; have HSH := Lib.hid HS; clear HS) | (go_at_call 23; go_must (refine (HSH.out).mono ?_); rintro e xcw14 ⟨rfl, hm⟩; have zxc14 := hm.size; have Hxc61 := Lib.hid (Hxc57.out.mod hm (fun _ _ h => h)); have Hxc62 := Lib.hid (Hxc58.out.mod hm (fun _ _ h => h)); have Hxc63 := Lib.hid (Hxc59.out.mod hm (fun _ _ h => h)); have Hxc64 := Lib.hid (Hxc56.out.mod hm (fun _ _ h => h)); have HMxc65 := Lib.hid (HMxc60.out.trans hm (fun _ _ h => h)); clear hm Hxc57 Hxc58 Hxc59 Hxc56 HMxc60; have HSY := Lib.hid (Synced_R Hxc61.out); have HLE := Len_R Hxc61.out; rw [HLT.out] at HLE; have HLEN := Lib.hid HLE; clear HLE) | (go_at_call 43; go_must (refine (HSY.out).mono ?_); rintro e wx ⟨rfl, rfl⟩) | (go_at_call 50; go_must (refine (HLEN.out).mono ?_); rintro e wx ⟨rfl, rfl⟩))
          all_goals (go_wp2_with fail; go_meet; case rel => exact ⟨rfl, (by omega), Hxc61.out, Hxc62.out, HMxc65.out⟩)
        case rest =>
          obtain ⟨xw11, rfl⟩ : ∃ x, x = wc := ⟨_, rfl⟩
          obtain ⟨rfl, zx11, qd, qall, hm⟩ := hcut
          have Hx48 := Lib.hid qd
          have Hx49 := Lib.hid qall
          have HMx50 := Lib.hid hm
          clear hm qd qall
          try clear HM47 H44 H45 HU
          obtain ⟨m, hm⟩ : ∃ m, m = a + min keep.toNat ((L.take k).length - a) := ⟨_, rfl⟩
          have Kx51 := Crash_R (keep := keep) Hx48.out (by omega) HK.out
          rw [show dCrash (⟨L.take k, a, 0, false, false⟩ : DS) keep.toNat = (⟨(L.take k).take (a + min keep.toNat ((L.take k).length - a)), a + min keep.toNat ((L.take k).length - a), 0, false, false⟩ : DS) from rfl, ← hm] at Kx51
          have HKx51 := Lib.hid Kx51
          clear Kx51
          go_wp2_with fail
          refine (HKx51.out).mono ?_
          rintro e xw12 ⟨rfl, qd, hm⟩
          have zx12 := hm.size
          have Hx52 := Lib.hid qd
          have Hx53 := Lib.hid (Hx49.out.mod hm (by intro k h1 h2; (try dsimp only at h1 h2); omega))
          have HMx54 := Lib.hid (HMx50.out.trans hm (by intro k h1 h2; (try dsimp only at h2); omega))
          clear hm qd Hx48 Hx49 HMx50
          rw [HLT.out] at hm
          have hmk : m ≤ k ∧ a ≤ m := by omega
          clear hm
          have HD3 := Hx52.out
          rw [List.take_take, Nat.min_eq_left hmk.1] at HD3
          obtain ⟨T, hT⟩ : ∃ T, T = L.take m := ⟨_, rfl⟩
          have hTl : T.length = m := by rw [hT]; simp; omega
          rw [← hT] at HD3
          subst hTl
          have HD4 := Lib.hid HD3
          have HT := Lib.hid hT
          clear HD3 hT Hx52
          go_wp2_with fail
          refine (Read_R HD4.out (by omega)).mono ?_
          rintro e xw13 ⟨vl, rfl, qrd, hm⟩
          have zx13 := hm.size
          have Hx55 := Lib.hid (qrd.widen (R' := (fun k => (xw12.heap.size ≤ k ∧ k < xw13.heap.size))) (by intro k h; unfold New at h; (try dsimp only at h); (try dsimp only); omega) (Nat.le_refl _))
          have Hx56 := Lib.hid (HD4.out.mod hm (fun _ _ h => h))
          have Hx57 := Lib.hid (Hx53.out.mod hm (fun _ _ h => h))
          have HMx58 := Lib.hid (HMx54.out.trans hm (fun _ _ h => h))
          clear hm qrd HD4 Hx53 HMx54
          obtain ⟨al2, cl2, rfl⟩ := Hx55.out.shape
          have HU2 := Hx57.out.rd.upto T.length (by omega)
          rw [← HT.out] at HU2
          have HU3 := Lib.hid HU2
          clear HU2
          have hTc : T.length ≤ cap8 := by omega
          have htk : T.length ≤ k := by omega
          have htm : a ≤ T.length := by omega
          have Kx59 := Same_R Hx55.out.rd HU3.out
          rw [decide_eq_true rfl] at Kx59
          have HKx59 := Lib.hid Kx59
          clear Kx59
          go_wp2_with fail
          refine (HKx59.out).mono ?_
          rintro e xw14 ⟨rfl, hm⟩
          have zx14 := hm.size
          have Hx60 := Lib.hid (Hx56.out.mod hm (fun _ _ h => h))
          have Hx61 := Lib.hid (Hx57.out.mod hm (fun _ _ h => h))
          have Hx62 := Lib.hid (Hx55.out.mod hm (fun _ _ h => h))
          have Hx63 := Lib.hid (HU3.out.mod hm (fun _ _ h => h))
          have HMx64 := Lib.hid (HMx58.out.trans hm (fun _ _ h => h))
          clear hm Hx56 Hx57 Hx55 HU3 HMx58
          go_wp2_with fail
          refine (Synced_R Hx60.out).mono ?_
          rintro e wx ⟨rfl, rfl⟩
          go_wp2_with fail
          refine (wakes07 _).mono ?_
          rintro e xw15 ⟨rfl, hm⟩
          have zx15 := hm.size
          have Hx65 := Lib.hid (Hx60.out.mod hm (fun _ _ h => h))
          have Hx66 := Lib.hid (Hx61.out.mod hm (fun _ _ h => h))
          have HMx67 := Lib.hid (HMx64.out.trans hm (fun _ _ h => h))
          clear hm Hx60 Hx61 HMx64
          go_wp2
          go_ret
          exact ⟨rfl, HMx67.out⟩
      · have hmin : min a k = k := by omega
        have KC := Cut_ok (n := k) H44.out rfl rfl hkL (by omega)
        rw [show dCut (⟨L, a, 0, false, false⟩ : DS) k = (⟨L.take k, min a k, 0, false, false⟩ : DS) from rfl, hmin] at KC
        clear KC
        have hlt : (L.take k).length = k := by simp; omega
        have HLT := Lib.hid hlt
        clear hlt
        go_upto_region 11 with (fail)
        go_cut [93] from 14 (fun t93 w' => (t93 = .bool false) ∧ w10.heap.size ≤ w'.heap.size ∧ DkR (fun k => (w2.heap.size ≤ k ∧ k < w4.heap.size) ∨ (w5.heap.size ≤ k ∧ k < w6.heap.size)) 80 w' p (⟨L.take k, k, 0, false, false⟩ : DS) ∧ OwR (fun k => (w6.heap.size ≤ k ∧ k < w8.heap.size)) 80 w' (.slice ao8 L.length cap8) L ∧ Mod (fun _ => False) w w')
        case first =>
          go_wp2_with fail
          have zdyc11 : ((w10).drew).heap.size = (w10).heap.size := rfl
          have Hyc48 := Lib.hid (HM47.out.trans ((Mod.refl (fun _ => False) _).drew) (fun _ _ h => h))
          have Hyc49 := Lib.hid (H44.out.mod ((Mod.refl (fun _ => False) w10).drew) (fun _ _ h => h))
          have Hyc50 := Lib.hid (H45.out.mod ((Mod.refl (fun _ => False) w10).drew) (fun _ _ h => h))
          have Hyc51 := Lib.hid (HU.out.mod ((Mod.refl (fun _ => False) w10).drew) (fun _ _ h => h))
          have KC := Cut_ok (n := k) Hyc49.out rfl rfl hkL (by omega)
          rw [show dCut (⟨L, a, 0, false, false⟩ : DS) k = (⟨L.take k, min a k, 0, false, false⟩ : DS) from rfl, hmin] at KC
          have HKC := Lib.hid KC
          clear KC hmin
          go_region_held3 (fun w' => True) (go_keep)
            (first | (go_at_call 49; go_must (refine (HKC.out).mono ?_); rintro e ycw12 ⟨rfl, qd, hm⟩; have zyc12 := hm.size; have Hyc52 := Lib.hid qd; have Hyc53 := Lib.hid (Hyc50.out.mod hm (by intro k h1 h2; (try dsimp only at h1 h2); omega)); have Hyc54 := Lib.hid (Hyc51.out.mod hm (by intro k h1 h2; (try dsimp only at h1 h2); omega)); have HMyc55 := Lib.hid (Hyc48.out.trans hm (by intro k h1 h2; (try dsimp only at h2); omega)); clear hm qd Hyc49 Hyc50 Hyc51 Hyc48) | (go_at_call 41; go_must (refine (Read_R Hyc52.out (by omega)).mono ?_); rintro e ycw13 ⟨vr2, rfl, qrd, hm⟩; have zyc13 := hm.size; have Hyc56 := Lib.hid (qrd.widen (R' := (fun k => (ycw12.heap.size ≤ k ∧ k < ycw13.heap.size))) (by intro k h; unfold New at h; (try dsimp only at h); (try dsimp only); omega) (Nat.le_refl _)); have Hyc57 := Lib.hid (Hyc52.out.mod hm (fun _ _ h => h)); have Hyc58 := Lib.hid (Hyc53.out.mod hm (fun _ _ h => h)); have Hyc59 := Lib.hid (Hyc54.out.mod hm (fun _ _ h => h)); have HMyc60 := Lib.hid (HMyc55.out.trans hm (fun _ _ h => h)); clear hm qrd Hyc52 Hyc53 Hyc54 HMyc55; have HS := Same_R Hyc56.out.rd Hyc59.out; rw [decide_eq_true rfl] at HS; have HSH := Lib.hid HS; clear HS) | (go_at_call 23; go_must (refine (HSH.out).mono ?_); rintro e ycw14 ⟨rfl, hm⟩; have zyc14 := hm.size; have Hyc61 := Lib.hid (Hyc57.out.mod hm (fun _ _ h => h)); have Hyc62 := Lib.hid (Hyc58.out.mod hm (fun _ _ h => h)); have Hyc63 := Lib.hid (Hyc59.out.mod hm (fun _ _ h => h)); have Hyc64 := Lib.hid (Hyc56.out.mod hm (fun _ _ h => h)); have HMyc65 := Lib.hid (HMyc60.out.trans hm (fun _ _ h => h)); clear hm Hyc57 Hyc58 Hyc59 Hyc56 HMyc60; have HSY := Lib.hid (Synced_R Hyc61.out); have HLE := Len_R Hyc61.out; rw [HLT.out] at HLE; have HLEN := Lib.hid HLE; clear HLE) | (go_at_call 43; go_must (refine (HSY.out).mono ?_); rintro e wx ⟨rfl, rfl⟩) | (go_at_call 50; go_must (refine (HLEN.out).mono ?_); rintro e wx ⟨rfl, rfl⟩))
          all_goals (go_wp2_with fail; go_meet; case rel => exact ⟨rfl, (by omega), Hyc61.out, Hyc62.out, HMyc65.out⟩)
        case rest =>
          obtain ⟨yw11, rfl⟩ : ∃ x, x = wc := ⟨_, rfl⟩
          obtain ⟨rfl, zy11, qd, qall, hm⟩ := hcut
          have Hy48 := Lib.hid qd
          have Hy49 := Lib.hid qall
          have HMy50 := Lib.hid hm
          clear hm qd qall
          try clear HM47 H44 H45 HU
          obtain ⟨m, hm⟩ : ∃ m, m = k + min keep.toNat ((L.take k).length - k) := ⟨_, rfl⟩
          have Ky51 := Crash_R (keep := keep) Hy48.out (by omega) HK.out
          rw [show dCrash (⟨L.take k, k, 0, false, false⟩ : DS) keep.toNat = (⟨(L.take k).take (k + min keep.toNat ((L.take k).length - k)), k + min keep.toNat ((L.take k).length - k), 0, false, false⟩ : DS) from rfl, ← hm] at Ky51
          have HKy51 := Lib.hid Ky51
          clear Ky51
          go_wp2_with fail
          refine (HKy51.out).mono ?_
          rintro e yw12 ⟨rfl, qd, hm⟩
          have zy12 := hm.size
          have Hy52 := Lib.hid qd
          have Hy53 := Lib.hid (Hy49.out.mod hm (by intro k h1 h2; (try dsimp only at h1 h2); omega))
          have HMy54 := Lib.hid (HMy50.out.trans hm (by intro k h1 h2; (try dsimp only at h2); omega))
          clear hm qd Hy48 Hy49 HMy50
          rw [HLT.out] at hm
          have hmk : m ≤ k ∧ k ≤ m := by omega
          clear hm
          have HD3 := Hy52.out
          rw [List.take_take, Nat.min_eq_left hmk.1] at HD3
          obtain ⟨T, hT⟩ : ∃ T, T = L.take m := ⟨_, rfl⟩
          have hTl : T.length = m := by rw [hT]; simp; omega
          rw [← hT] at HD3
          subst hTl
          have HD4 := Lib.hid HD3
          have HT := Lib.hid hT
          clear HD3 hT Hy52
          go_wp2_with fail
          refine (Read_R HD4.out (by omega)).mono ?_
          rintro e yw13 ⟨vl, rfl, qrd, hm⟩
          have zy13 := hm.size
          have Hy55 := Lib.hid (qrd.widen (R' := (fun k => (yw12.heap.size ≤ k ∧ k < yw13.heap.size))) (by intro k h; unfold New at h; (try dsimp only at h); (try dsimp only); omega) (Nat.le_refl _))
          have Hy56 := Lib.hid (HD4.out.mod hm (fun _ _ h => h))
          have Hy57 := Lib.hid (Hy53.out.mod hm (fun _ _ h => h))
          have HMy58 := Lib.hid (HMy54.out.trans hm (fun _ _ h => h))
          clear hm qrd HD4 Hy53 HMy54
          obtain ⟨al2, cl2, rfl⟩ := Hy55.out.shape
          have HU2 := Hy57.out.rd.upto T.length (by omega)
          rw [← HT.out] at HU2
          have HU3 := Lib.hid HU2
          clear HU2
          have hTc : T.length ≤ cap8 := by omega
          have htk : T.length ≤ k := by omega
          have htm : k ≤ T.length := by omega
          have Ky59 := Same_R Hy55.out.rd HU3.out
          rw [decide_eq_true rfl] at Ky59
          have HKy59 := Lib.hid Ky59
          clear Ky59
          go_wp2_with fail
          refine (HKy59.out).mono ?_
          rintro e yw14 ⟨rfl, hm⟩
          have zy14 := hm.size
          have Hy60 := Lib.hid (Hy56.out.mod hm (fun _ _ h => h))
          have Hy61 := Lib.hid (Hy57.out.mod hm (fun _ _ h => h))
          have Hy62 := Lib.hid (Hy55.out.mod hm (fun _ _ h => h))
          have Hy63 := Lib.hid (HU3.out.mod hm (fun _ _ h => h))
          have HMy64 := Lib.hid (HMy58.out.trans hm (fun _ _ h => h))
          clear hm Hy56 Hy57 Hy55 HU3 HMy58
          go_wp2_with fail
          refine (Synced_R Hy60.out).mono ?_
          rintro e wx ⟨rfl, rfl⟩
          go_wp2_with fail
          refine (wakes07 _).mono ?_
          rintro e yw15 ⟨rfl, hm⟩
          have zy15 := hm.size
          have Hy65 := Lib.hid (Hy60.out.mod hm (fun _ _ h => h))
          have Hy66 := Lib.hid (Hy61.out.mod hm (fun _ _ h => h))
          have HMy67 := Lib.hid (HMy64.out.trans hm (fun _ _ h => h))
          clear hm Hy60 Hy61 HMy64
          go_wp2
          go_ret
          exact ⟨rfl, HMy67.out⟩
end Go.Proofs.Ytceojplopbjokaa
