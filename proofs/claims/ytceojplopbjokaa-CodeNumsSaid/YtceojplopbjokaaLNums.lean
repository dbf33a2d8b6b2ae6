/- CodeNums: the walk. -/
import Derived.Test.YtceojplopbjokaaNums
import Derived.IntWalk
set_option maxRecDepth 100000
set_option linter.unusedVariables false
namespace Go.Proofs.Ytceojplopbjokaa
open Go Go.RowKit Go.Gv

set_option maxHeartbeats 2000000 in
theorem CodeNums_walk (u : Nat) (hu : u < U64) (most : Int) (hmost : -9223372036854775808 ≤ most ∧ most ≤ 9223372036854775807) (w : World) :
    Calls Try.prog 7 #[.int .u64 u, .int .i64 most] w fun e w' => e = .returned (.bool true) ∧ Mod (fun _ => False) w w' := by
  obtain ⟨ini, d, hini, hd0, hd1, hlong⟩ := encN_last u
  have hil : ini.length ≤ 9 := by have := encN_len10 hu; rw [hini] at this; simp at this; omega
  have hor := or128b hd0 hd1
  have HU := Lib.hid hu
  have HI := Lib.hid hini
  have HLONG := Lib.hid (hlong 0 0)
  have HE := Lib.hid (rInt_enc hu)
  unfold U64 at hu
  clear hini hlong
  go_enter Try.func7, Try.ntmps7
  go_wp2_with fail
  refine (NewWriter_R _).mono ?_
  rintro e w1 ⟨b, rfl, qwr, hm⟩
  have z1 := hm.size
  have H1 := Lib.hid (qwr.widen (R' := (fun k => (w.heap.size ≤ k ∧ k < w1.heap.size))) (by intro k h; unfold New at h; (try dsimp only at h); (try dsimp only); omega) (Nat.le_refl _))
  have HM2 := Lib.hid ((Mod.refl (fun _ => False) w).trans hm (fun _ _ h => h))
  clear hm qwr
  go_wp2_with fail
  refine (Num_R H1.out HU.out (by omega)).mono ?_
  rintro e w2 ⟨rfl, qwr, hm⟩
  have z2 := hm.size
  have H3 := Lib.hid (qwr.widen (R' := (fun k => (w.heap.size ≤ k ∧ k < w2.heap.size))) (by intro k h; unfold New at h; (try dsimp only at h); (try dsimp only); omega) (Nat.le_refl _))
  have HM4 := Lib.hid (HM2.out.trans hm (by intro k h1 h2; (try dsimp only at h2); omega))
  clear hm qwr H1 HM2
  go_wp2_with fail
  refine (WBytes_R H3.out (by omega)).mono ?_
  rintro e w3 ⟨vb, rfl, qby, hm⟩
  have z3 := hm.size
  have H5 := Lib.hid (qby.widen (R' := (fun k => (w2.heap.size ≤ k ∧ k < w3.heap.size))) (by intro k h; unfold New at h; (try dsimp only at h); (try dsimp only); omega) (Nat.le_refl _))
  have H6 := Lib.hid (H3.out.mod hm (fun _ _ h => h))
  have HM7 := Lib.hid (HM4.out.trans hm (fun _ _ h => h))
  clear hm qby H3 HM4
  rw [List.nil_append, HI.out] at H5
  obtain ⟨ab, cb, rfl⟩ : ∃ ao cap, vb = .slice ao (ini.length + 1) cap := by obtain ⟨a, c, e⟩ := H5.out.shape; exact ⟨a, c, by rw [e]; simp⟩
  have HLEN := Lib.hid (show (encN u).length = ini.length + 1 by rw [HI.out]; simp)
  have HSTEP := Lib.hid encN_len_step
  go_wp2
  go_loop [7, 8] (fun t7 t8 => ∃ (m k : Nat), t8 = .int .u64 m ∧ t7 = .int .i64 k ∧ m < U64 ∧ 1 ≤ k ∧ k + (if m = 0 then 0 else (encN m).length) = ini.length + 1) (fun _ t8 => (intOf t8).toNat)
  case atStart => exact ⟨u / 128, 1, by go_num, rfl, by unfold U64; omega, by omega, by rw [← HLEN.out, HSTEP.out u]⟩
  case round =>
    obtain ⟨m, k, rfl, rfl, hm, hk1, hk⟩ := hrel
    have hkb : k ≤ 10 := by omega
    unfold U64 at hm
    have HK := Lib.hid hk
    clear hk
    by_cases h0 : 0 < m
    · have hk2 := HK.out
      rw [if_neg (by omega), HSTEP.out m] at hk2
      have HK2 := Lib.hid hk2
      clear hk2
      go_wp2
      go_round
      case rel => exact ⟨m / 128, k + 1, by go_num, by go_num, by unfold U64; omega, by omega, by have := HK2.out; omega⟩
      case measure => simp [intOf]; omega
    · obtain rfl : m = 0 := by omega
      have hkk := HK.out
      rw [if_pos rfl] at hkk
      obtain rfl : k = ini.length + 1 := by omega
      clear hkk hkb hk1 hm h0 HK
      go_wp2_with fail
      refine (Copy_R H5.out.rd (by omega)).mono ?_
      rintro e rew4 ⟨vc, rfl, qlg, hm⟩
      have zre4 := hm.size
      have Hre8 := Lib.hid (qlg.widen (R' := (fun k => (w3.heap.size ≤ k ∧ k < rew4.heap.size))) (by intro k h; unfold New at h; (try dsimp only at h); (try dsimp only); omega) (Nat.le_refl _))
      have Hre9 := Lib.hid (H5.out.mod hm (fun _ _ h => h))
      have HMre10 := Lib.hid (HM7.out.trans hm (fun _ _ h => h))
      clear hm qlg H5 HM7
      obtain ⟨gc, cc, rfl, hRg, hglt, hcl, hfr, hset⟩ := Hre8.out.last
      have HSET := Lib.hid (hset (d + 128) (by omega) (by omega))
      clear hset
      have hm : Mod (fun k => (w3.heap.size ≤ k ∧ k < rew4.heap.size)) rew4 (rew4.setCell ⟨gc, ini.length, none⟩ (Value.int .u8 (d + 128))) := (Mod.refl _ _).setCell (fun _ => hRg) _
      have zset : (rew4.setCell ⟨gc, ini.length, none⟩ (Value.int .u8 (d + 128))).heap.size = rew4.heap.size := by simp
      have Hre11 := Lib.hid (Hre9.out.mod hm (by intro k h1 h2; (try dsimp only at h1 h2); omega))
      have HMre12 := Lib.hid (HMre10.out.trans hm (by intro k h1 h2; (try dsimp only at h2); omega))
      clear hm
      go_wp2_with (at_builtin; go_must (refine wpList_appR1 rfl (.tmp 43) (.tmp 44) rfl rfl HSET.out (by rw [zset]; rfl) (by omega) (by omega) (by omega) ?_))
      intro aa ca rew6 qlg hm
      have hsh := qlg.shape
      generalize ini.length + 1 + 1 = lz at qlg ⊢
      clear hsh
      have zre6 := hm.size
      have HLG := Lib.hid (qlg.widen (R' := (fun k => (w3.heap.size ≤ k ∧ k < rew4.heap.size) ∨ ((rew4.setCell ⟨gc, ini.length, none⟩ (Value.int .u8 (d + 128))).heap.size ≤ k ∧ k < rew6.heap.size))) (by intro k h; unfold New at h; (try dsimp only at h); (try dsimp only); omega) (Nat.le_refl _))
      have Hre13 := Lib.hid (Hre11.out.mod hm (by intro k h1 h2; (try dsimp only at h1 h2); omega))
      have HMre14 := Lib.hid (HMre12.out.trans hm (by intro k h1 h2; (try dsimp only at h2); omega))
      clear hm qlg hcl hfr HSET
      go_wp2_with fail
      refine (NewReader_R Hre13.out.rd (by omega)).mono ?_
      rintro e rew7 ⟨r, rfl, qr_, hm⟩
      have zre7 := hm.size
      have Hre15 := Lib.hid (qr_.widen (R' := (fun k => (rew6.heap.size ≤ k ∧ k < rew7.heap.size))) (by intro k h; unfold New at h; (try dsimp only at h); (try dsimp only); omega))
      have Hre16 := Lib.hid (Hre13.out.mod hm (fun _ _ h => h))
      have Hre17 := Lib.hid (HLG.out.mod hm (fun _ _ h => h))
      have HMre18 := Lib.hid (HMre14.out.trans hm (fun _ _ h => h))
      clear hm qr_ Hre13 HLG HMre14
      go_wp2_with fail
      refine (NewReader_R Hre17.out.rd (by omega)).mono ?_
      rintro e rew8 ⟨s, rfl, qr_s, hm⟩
      have zre8 := hm.size
      have Hre19 := Lib.hid (qr_s.widen (R' := (fun k => (rew7.heap.size ≤ k ∧ k < rew8.heap.size))) (by intro k h; unfold New at h; (try dsimp only at h); (try dsimp only); omega))
      have Hre20 := Lib.hid (Hre17.out.mod hm (fun _ _ h => h))
      have Hre21 := Lib.hid (Hre15.out.mod hm (fun _ _ h => h))
      have HMre22 := Lib.hid (HMre18.out.trans hm (fun _ _ h => h))
      clear hm qr_s Hre17 Hre15 HMre18
      obtain ⟨wl, el, hrl, hm⟩ := RdR_new rew8 [255, 255, 255, 255, 255, 255, 255, 255, 255, 2] (by intro x hx; simp at hx; omega) (by simp) 5
      have EL := Lib.hid (show rew8.alloc (.cells #[bv 255, bv 255, bv 255, bv 255, bv 255, bv 255, bv 255, bv 255, bv 255, bv 2] 5) = wl from el)
      have HRL := Lib.hid hrl
      have zl := hm.size
      have Hre23 := Lib.hid (Hre21.out.mod hm (fun _ _ h => h))
      have Hre24 := Lib.hid (Hre19.out.mod hm (fun _ _ h => h))
      have HMre25 := Lib.hid (HMre22.out.trans hm (fun _ _ h => h))
      clear el hrl hm
      go_wp2_with fail
      rw [EL.out]
      refine (NewReader_R HRL.out (by simp)).mono ?_
      rintro e rew10 ⟨t, rfl, qr_t, hm⟩
      have zre10 := hm.size
      have Hre26 := Lib.hid (qr_t.widen (R' := (fun k => (wl.heap.size ≤ k ∧ k < rew10.heap.size))) (by intro k h; unfold New at h; (try dsimp only at h); (try dsimp only); omega))
      have Hre27 := Lib.hid (Hre23.out.mod hm (fun _ _ h => h))
      have Hre28 := Lib.hid (Hre24.out.mod hm (fun _ _ h => h))
      have Hre29 := Lib.hid (HRL.out.mod hm (fun _ _ h => h))
      have HMre30 := Lib.hid (HMre25.out.trans hm (fun _ _ h => h))
      clear hm qr_t Hre23 Hre24 HRL HMre25
      have K := RNum_R Hre28.out
      rw [rNum_none (by have := HLONG.out; simpa only [List.append_assoc, List.cons_append, List.nil_append] using this)] at K
      have HK1 := Lib.hid K
      clear K
      go_wp2_with fail
      refine (HK1.out).mono ?_
      rintro e rew11 ⟨rfl, qr_s, hm⟩
      have zre11 := hm.size
      have Hre31 := Lib.hid qr_s
      have Hre32 := Lib.hid (Hre27.out.mod hm (by intro k h1 h2; (try dsimp only at h1 h2); omega))
      have Hre33 := Lib.hid (Hre26.out.mod hm (by intro k h1 h2; (try dsimp only at h1 h2); omega))
      have HMre34 := Lib.hid (HMre30.out.trans hm (by intro k h1 h2; (try dsimp only at h2); omega))
      clear hm qr_s Hre28 Hre27 Hre26 HMre30
      go_wp2_with fail
      refine (OK_R Hre31.out).mono ?_
      rintro e wx ⟨rfl, rfl⟩
      have K := RNum_R Hre33.out
      rw [rNum_none dec_255] at K
      have HK2 := Lib.hid K
      clear K
      go_wp2_with fail
      refine (HK2.out).mono ?_
      rintro e rew12 ⟨rfl, qr_t, hm⟩
      have zre12 := hm.size
      have Hre35 := Lib.hid qr_t
      have Hre36 := Lib.hid (Hre32.out.mod hm (by intro k h1 h2; (try dsimp only at h1 h2); omega))
      have Hre37 := Lib.hid (Hre31.out.mod hm (by intro k h1 h2; (try dsimp only at h1 h2); omega))
      have HMre38 := Lib.hid (HMre34.out.trans hm (by intro k h1 h2; (try dsimp only at h2); omega))
      clear hm qr_t Hre33 Hre32 Hre31 HMre34
      go_wp2_with fail
      refine (OK_R Hre35.out).mono ?_
      rintro e wx ⟨rfl, rfl⟩
      have K := RInt_R (most := most) Hre36.out hmost
      have he := HE.out most []
      rw [List.append_nil, HI.out] at he
      have HMO := Lib.hid hmost
      obtain ⟨hmo0, hmo1⟩ := hmost
      by_cases h1 : most < 0
      · rw [rInt_below _ h1] at K
        have HK3 := Lib.hid K
        clear K he
        go_wp2_with fail
        refine (HK3.out).mono ?_
        rintro e rexw13 ⟨rfl, qr_, hm⟩
        have zrex13 := hm.size
        have Hrex39 := Lib.hid qr_
        have HMrex40 := Lib.hid (HMre38.out.trans hm (by intro k h1 h2; (try dsimp only at h2); omega))
        clear hm qr_ Hre36 HMre38
        go_wp2_with fail
        refine (OK_R Hrex39.out).mono ?_
        rintro e wx ⟨rfl, rfl⟩
        go_wp2_with fail
        refine (wakes_R _).mono ?_
        rintro e rexw14 ⟨rfl, hm⟩
        have zrex14 := hm.size
        have HMrex41 := Lib.hid (HMrex40.out.trans hm (fun _ _ h => h))
        clear hm HMrex40
        go_wp2
        go_ret
        exact ⟨rfl, HMrex41.out⟩
      by_cases h2 : most < u
      · rw [he, if_pos h2] at K
        have HK3 := Lib.hid K
        clear K he
        go_wp2_with fail
        refine (HK3.out).mono ?_
        rintro e reyw13 ⟨rfl, qr_, hm⟩
        have zrey13 := hm.size
        have Hrey39 := Lib.hid qr_
        have HMrey40 := Lib.hid (HMre38.out.trans hm (by intro k h1 h2; (try dsimp only at h2); omega))
        clear hm qr_ Hre36 HMre38
        go_wp2_with fail
        refine (OK_R Hrey39.out).mono ?_
        rintro e wx ⟨rfl, rfl⟩
        go_wp2_with fail
        refine (wakes_R _).mono ?_
        rintro e reyw14 ⟨rfl, hm⟩
        have zrey14 := hm.size
        have HMrey41 := Lib.hid (HMrey40.out.trans hm (fun _ _ h => h))
        clear hm HMrey40
        go_wp2
        go_ret
        exact ⟨rfl, HMrey41.out⟩
      · rw [he, if_neg h2] at K
        have HK3 := Lib.hid K
        clear K he
        go_wp2_with fail
        refine (HK3.out).mono ?_
        rintro e rezw13 ⟨rfl, qr_, hm⟩
        have zrez13 := hm.size
        have Hrez39 := Lib.hid qr_
        have HMrez40 := Lib.hid (HMre38.out.trans hm (by intro k h1 h2; (try dsimp only at h2); omega))
        clear hm qr_ Hre36 HMre38
        go_wp2_with fail
        refine (OK_R Hrez39.out).mono ?_
        rintro e wx ⟨rfl, rfl⟩
        go_wp2_with fail
        refine (wakes_R _).mono ?_
        rintro e rezw14 ⟨rfl, hm⟩
        have zrez14 := hm.size
        have HMrez41 := Lib.hid (HMrez40.out.trans hm (fun _ _ h => h))
        clear hm HMrez40
        go_wp2
        go_ret
        exact ⟨rfl, HMrez41.out⟩
end Go.Proofs.Ytceojplopbjokaa
