/- CodeFails: the walk. -/
import Derived.Test.YtceojplopbjokaaReg
set_option maxRecDepth 100000
set_option linter.unusedVariables false
namespace Go.Proofs.Ytceojplopbjokaa
open Go Go.RowKit Go.Gv

theorem rRow_of_int {most : Int} {s : RSt} {p : Nat × RSt} (h : rInt most s = p) : rRow most s = rTake p.1 p.2 := by subst h; rfl
theorem rInt_neg {most : Int} (s : RSt) (h : most < 0) : rInt most s = (0, none) := by unfold rInt; rw [if_pos (.inr (.inl h))]

set_option maxHeartbeats 2000000 in
theorem CodeFails_walk (a : Nat) (ha : a < U64) (va vt : Value) (bs ts : List Int) (how : Int) (hhow : -9223372036854775808 ≤ how ∧ how ≤ 9223372036854775807) (w : World)
    (h1 : RdR (fun k => k < w.heap.size) bs.length w va bs) (h2 : RdR (fun k => k < w.heap.size) ts.length w vt ts) :
    Calls Try.prog 12 #[.int .u64 a, va, vt, .int .i64 how] w fun e w' => e = .returned (.bool true) ∧ Mod (fun _ => False) w w' := by
  have KW := Within_any how 3 (by omega) (by omega) hhow
  have hm3 := within_range how 3 (by omega)
  generalize within how 3 = m at *
  have HKW := Lib.hid KW
  have H0a := Lib.hid h1
  have H0b := Lib.hid h2
  have HA := Lib.hid ha
  have hcb : (bs.take 50).length ≤ 50 := by simp; omega
  have hct : (ts.take 50).length ≤ 50 := by simp; omega
  have HCB := Lib.hid hcb
  have hz := hash_zero
  have hzg := hv_guard
  clear KW h1 h2 ha hhow hcb hct
  have hm : m = 0 ∨ m = 1 ∨ m = 2 := by omega
  clear hm3
  go_enter Try.func12, Try.ntmps12
  go_wp2_with fail
  refine (Cut_R 50 H0a.out (by omega)).mono ?_
  rintro e w1 ⟨v1, rfl, qcb, hm⟩
  have z1 := hm.size
  have H1 := Lib.hid (qcb.widen (R' := (fun k => (w.heap.size ≤ k ∧ k < w1.heap.size))) (by intro k h; unfold New at h; (try dsimp only at h); omega) (Nat.le_refl _))
  have H2 := Lib.hid (H0a.out.mod hm (fun _ _ h => h))
  have H3 := Lib.hid (H0b.out.mod hm (fun _ _ h => h))
  have HM4 := Lib.hid ((Mod.refl (fun _ => False) w).trans hm (fun _ _ h => h))
  clear hm qcb H0a H0b
  generalize bs.take 50 = bl at *
  go_wp2_with fail
  refine (Cut_R 50 H3.out (by omega)).mono ?_
  rintro e w2 ⟨v2, rfl, qct, hm⟩
  have z2 := hm.size
  have H5 := Lib.hid (qct.widen (R' := (fun k => (w1.heap.size ≤ k ∧ k < w2.heap.size))) (by intro k h; unfold New at h; (try dsimp only at h); omega) (Nat.le_refl _))
  have H6 := Lib.hid (H3.out.mod hm (fun _ _ h => h))
  have H7 := Lib.hid (H1.out.mod hm (fun _ _ h => h))
  have HM8 := Lib.hid (HM4.out.trans hm (fun _ _ h => h))
  clear hm qct H3 H1 HM4
  generalize ts.take 50 = tl at *
  go_wp2_with fail
  refine (NewWriter_R _).mono ?_
  rintro e w3 ⟨b, rfl, qwr, hm⟩
  have z3 := hm.size
  have H9 := Lib.hid (qwr.widen (R' := (fun k => (w2.heap.size ≤ k ∧ k < w3.heap.size))) (by intro k h; unfold New at h; (try dsimp only at h); omega) (Nat.le_refl _))
  have H10 := Lib.hid (H7.out.mod hm (fun _ _ h => h))
  have H11 := Lib.hid (H5.out.mod hm (fun _ _ h => h))
  have HM12 := Lib.hid (HM8.out.trans hm (fun _ _ h => h))
  clear hm qwr H7 H5 HM8
  go_wp2_with fail
  refine (Num_R H9.out HA.out (by omega)).mono ?_
  rintro e w4 ⟨rfl, qwr, hm⟩
  have z4 := hm.size
  have H13 := Lib.hid (qwr.widen (R' := (fun k => (w2.heap.size ≤ k ∧ k < w4.heap.size))) (by intro k h; unfold New at h; (try dsimp only at h); omega) (Nat.le_refl _))
  have H14 := Lib.hid (H10.out.mod hm (by intro k h1 h2; (try dsimp only at h1 h2); omega))
  have H15 := Lib.hid (H11.out.mod hm (by intro k h1 h2; (try dsimp only at h1 h2); omega))
  have HM16 := Lib.hid (HM12.out.trans hm (by intro k h1 h2; (try dsimp only at h2); omega))
  clear hm qwr H10 H11 HM12
  go_wp2_with fail
  refine (WRow_R H13.out H14.out.rd (by intro k h1 h2; (try dsimp only at h1 h2); omega) (by omega)).mono ?_
  rintro e w5 ⟨rfl, qwr, hm⟩
  have z5 := hm.size
  have H17 := Lib.hid (qwr.widen (R' := (fun k => (w2.heap.size ≤ k ∧ k < w5.heap.size))) (by intro k h; unfold New at h; (try dsimp only at h); omega) (Nat.le_refl _))
  have H18 := Lib.hid (H14.out.mod hm (by intro k h1 h2; (try dsimp only at h1 h2); omega))
  have H19 := Lib.hid (H15.out.mod hm (by intro k h1 h2; (try dsimp only at h1 h2); omega))
  have HM20 := Lib.hid (HM16.out.trans hm (by intro k h1 h2; (try dsimp only at h2); omega))
  clear hm qwr H14 H15 HM16
  go_wp2_with fail
  refine (WInt_R (n := 7) H17.out (by omega) (by omega)).mono ?_
  rintro e w6 ⟨rfl, qwr, hm⟩
  have z6 := hm.size
  have H21 := Lib.hid (qwr.widen (R' := (fun k => (w2.heap.size ≤ k ∧ k < w6.heap.size))) (by intro k h; unfold New at h; (try dsimp only at h); omega) (Nat.le_refl _))
  have H22 := Lib.hid (H18.out.mod hm (by intro k h1 h2; (try dsimp only at h1 h2); omega))
  have H23 := Lib.hid (H19.out.mod hm (by intro k h1 h2; (try dsimp only at h1 h2); omega))
  have HM24 := Lib.hid (HM20.out.trans hm (by intro k h1 h2; (try dsimp only at h2); omega))
  clear hm qwr H18 H19 HM20
  go_wp2_with fail
  refine (WBytes_R H21.out (by omega)).mono ?_
  rintro e w7 ⟨v3, rfl, qby, hm⟩
  have z7 := hm.size
  have H25 := Lib.hid (qby.widen (R' := (fun k => (w6.heap.size ≤ k ∧ k < w7.heap.size))) (by intro k h; unfold New at h; (try dsimp only at h); omega) (Nat.le_refl _))
  have H26 := Lib.hid (H22.out.mod hm (fun _ _ h => h))
  have H27 := Lib.hid (H23.out.mod hm (fun _ _ h => h))
  have H28 := Lib.hid (H21.out.mod hm (fun _ _ h => h))
  have HM29 := Lib.hid (HM24.out.trans hm (fun _ _ h => h))
  clear hm qby H22 H23 H21 HM24
  go_wp2_with (at_builtin; go_must (refine wpList_appR rfl (.tmp 25) (.tmp 26) rfl rfl H25.out rfl H27.out.rd (by omega) ?_))
  intro ao cap w8 qby hm
  have z8 := hm.size
  have H30 := Lib.hid (qby.widen (R' := (fun k => (w6.heap.size ≤ k ∧ k < w8.heap.size))) (by intro k h; unfold New at h; (try dsimp only at h); omega) (Nat.le_refl _))
  have H31 := Lib.hid (H26.out.mod hm (by intro k h1 h2; (try dsimp only at h1 h2); omega))
  have HM32 := Lib.hid (HM29.out.trans hm (by intro k h1 h2; (try dsimp only at h2); omega))
  clear hm qby H26 H25 H27 HM29
  go_wp2_with fail
  refine (NewReader_R H30.out.rd (by omega)).mono ?_
  rintro e w9 ⟨r, rfl, qr_, hm⟩
  have z9 := hm.size
  have H33 := Lib.hid (qr_.widen (R' := (fun k => (w8.heap.size ≤ k ∧ k < w9.heap.size))) (by intro k h; unfold New at h; (try dsimp only at h); omega))
  have H34 := Lib.hid (H31.out.mod hm (fun _ _ h => h))
  have H35 := Lib.hid (H30.out.mod hm (fun _ _ h => h))
  have HM36 := Lib.hid (HM32.out.trans hm (fun _ _ h => h))
  clear hm qr_ H31 H30 HM32
  have HR0 := Lib.hid (show RrR 87 (fun k => (w8.heap.size ≤ k ∧ k < w9.heap.size)) w9 r (some (encN a ++ (encN bl.length ++ (bl ++ (encN 7 ++ tl))))) by have := H33.out; simpa only [List.nil_append, List.append_assoc, show encI 7 = encN 7 from rfl] using this)
  have K1 := RNum_R HR0.out
  rw [rNum_enc HA.out] at K1
  have HK1 := Lib.hid K1
  clear K1
  go_wp2_with fail
  refine (HK1.out).mono ?_
  rintro e w10 ⟨rfl, qr_, hm⟩
  have z10 := hm.size
  have H37 := Lib.hid qr_
  have H38 := Lib.hid (H34.out.mod hm (by intro k h1 h2; (try dsimp only at h1 h2); omega))
  have HM39 := Lib.hid (HM36.out.trans hm (by intro k h1 h2; (try dsimp only at h2); omega))
  clear hm qr_ H34 HM36
  have K2 := RRow_R (most := 50) H37.out (by omega)
  rw [rRow_enc (by have := HCB.out; unfold U64; omega), if_neg (by have := HCB.out; omega)] at K2
  have HK2 := Lib.hid K2
  clear K2
  go_wp2_with fail
  refine (HK2.out).mono ?_
  rintro e w11 ⟨v5, rfl, qrw, qr_, hm⟩
  have z11 := hm.size
  have H40 := Lib.hid (qrw.widen (R' := (fun k => (w10.heap.size ≤ k ∧ k < w11.heap.size))) (by intro k h; unfold New at h; (try dsimp only at h); omega) (Nat.le_refl _))
  have H41 := Lib.hid qr_
  have H42 := Lib.hid (H38.out.mod hm (by intro k h1 h2; (try dsimp only at h1 h2); omega))
  have HM43 := Lib.hid (HM39.out.trans hm (by intro k h1 h2; (try dsimp only at h2); omega))
  clear hm qrw qr_ H38 HM39
  have K3 := Same_R H40.out.rd H42.out.rd
  rw [decide_eq_true rfl] at K3
  have HK3 := Lib.hid K3
  clear K3
  go_wp2_with fail
  refine (HK3.out).mono ?_
  rintro e w12 ⟨rfl, hm⟩
  have z12 := hm.size
  have H44 := Lib.hid (H42.out.mod hm (fun _ _ h => h))
  have H45 := Lib.hid (H41.out.mod hm (fun _ _ h => h))
  have H46 := Lib.hid (H40.out.mod hm (fun _ _ h => h))
  have HM47 := Lib.hid (HM43.out.trans hm (fun _ _ h => h))
  clear hm H42 H41 H40 HM43
  go_wp2_with fail
  refine (OK_R H45.out).mono ?_
  rintro e wx ⟨rfl, rfl⟩
  go_wp2_with fail
  refine (HKW.out _).mono ?_
  rintro e wx ⟨rfl, rfl⟩
  have HR1 := H45
  rcases hm with rfl | rfl | rfl
  · have K4 := RInt_R (most := 6) H45.out (by omega)
    rw [rInt_enc (by unfold U64; omega), if_pos (by omega)] at K4
    have HK4 := Lib.hid K4
    clear K4
    go_wp2_with fail
    refine (HK4.out).mono ?_
    rintro e w13 ⟨rfl, qr_, hm⟩
    have z13 := hm.size
    have H48 := Lib.hid qr_
    have HM49 := Lib.hid (HM47.out.trans hm (by intro k h1 h2; (try dsimp only at h2); omega))
    clear hm qr_ HM47
    go_wp2_with fail
    refine (OK_R H48.out).mono ?_
    rintro e wx ⟨rfl, rfl⟩
    go_wp2_with fail
    refine (Left_R H48.out).mono ?_
    rintro e wx ⟨rfl, rfl⟩
    have K5 := RNum_R H48.out
    rw [rNum_none'] at K5
    have HK5 := Lib.hid K5
    clear K5
    go_wp2_with fail
    refine (HK5.out).mono ?_
    rintro e w14 ⟨rfl, qr_, hm⟩
    have z14 := hm.size
    have H50 := Lib.hid qr_
    have HM51 := Lib.hid (HM49.out.trans hm (by intro k h1 h2; (try dsimp only at h2); omega))
    clear hm qr_ HM49
    have K6 := RInt_R (most := 100) H50.out (by omega)
    rw [rInt_none] at K6
    have HK6 := Lib.hid K6
    clear K6
    go_wp2_with fail
    refine (HK6.out).mono ?_
    rintro e w15 ⟨rfl, qr_, hm⟩
    have z15 := hm.size
    have H52 := Lib.hid qr_
    have HM53 := Lib.hid (HM51.out.trans hm (by intro k h1 h2; (try dsimp only at h2); omega))
    clear hm qr_ HM51
    have K7 := RRow_R (most := 100) H52.out (by omega)
    rw [rRow_none] at K7
    have HK7 := Lib.hid K7
    clear K7
    go_wp2_with fail
    refine (HK7.out).mono ?_
    rintro e w16 ⟨v7, rfl, qry, qr_, hm⟩
    have z16 := hm.size
    have H54 := Lib.hid (qry.widen (R' := (fun k => (w15.heap.size ≤ k ∧ k < w16.heap.size))) (by intro k h; unfold New at h; (try dsimp only at h); omega) (Nat.le_refl _))
    have H55 := Lib.hid qr_
    have HM56 := Lib.hid (HM53.out.trans hm (by intro k h1 h2; (try dsimp only at h2); omega))
    clear hm qry qr_ HM53
    obtain ⟨ay, cy, rfl⟩ := H54.out.shape
    have K8 := RHash_R H55.out
    rw [rHash_none] at K8
    have HK8 := Lib.hid K8
    clear K8
    go_wp2_with fail
    refine (HK8.out).mono ?_
    rintro e w17 ⟨rfl, qr_, hm⟩
    have z17 := hm.size
    have H57 := Lib.hid qr_
    have HM58 := Lib.hid (HM56.out.trans hm (by intro k h1 h2; (try dsimp only at h2); omega))
    clear hm qr_ HM56
    go_wp2_with fail
    refine (OK_R H57.out).mono ?_
    rintro e wx ⟨rfl, rfl⟩
    go_wp2_with fail
    refine (wakes_R _).mono ?_
    rintro e w18 ⟨rfl, hm⟩
    have z18 := hm.size
    have H59 := Lib.hid (H57.out.mod hm (fun _ _ h => h))
    have HM60 := Lib.hid (HM58.out.trans hm (fun _ _ h => h))
    clear hm H57 HM58
    go_wp2
    go_ret
    exact ⟨rfl, HM60.out⟩
  · have K4 := RRow_R (most := 6) H45.out (by omega)
    rw [rRow_of_int (rInt_enc (by unfold U64; omega) 6 _), if_pos (by omega)] at K4
    simp only [rTake_none] at K4
    have HK4 := Lib.hid K4
    clear K4
    go_wp2_with fail
    refine (HK4.out).mono ?_
    rintro e w13 ⟨v6, rfl, qrx, qr_, hm⟩
    have z13 := hm.size
    have H48 := Lib.hid (qrx.widen (R' := (fun k => (w12.heap.size ≤ k ∧ k < w13.heap.size))) (by intro k h; unfold New at h; (try dsimp only at h); omega) (Nat.le_refl _))
    have H49 := Lib.hid qr_
    have HM50 := Lib.hid (HM47.out.trans hm (by intro k h1 h2; (try dsimp only at h2); omega))
    clear hm qrx qr_ HM47
    go_wp2_with fail
    refine (OK_R H49.out).mono ?_
    rintro e wx ⟨rfl, rfl⟩
    go_wp2_with fail
    refine (Left_R H49.out).mono ?_
    rintro e wx ⟨rfl, rfl⟩
    have K5 := RNum_R H49.out
    rw [rNum_none'] at K5
    have HK5 := Lib.hid K5
    clear K5
    go_wp2_with fail
    refine (HK5.out).mono ?_
    rintro e w14 ⟨rfl, qr_, hm⟩
    have z14 := hm.size
    have H51 := Lib.hid qr_
    have HM52 := Lib.hid (HM50.out.trans hm (by intro k h1 h2; (try dsimp only at h2); omega))
    clear hm qr_ HM50
    have K6 := RInt_R (most := 100) H51.out (by omega)
    rw [rInt_none] at K6
    have HK6 := Lib.hid K6
    clear K6
    go_wp2_with fail
    refine (HK6.out).mono ?_
    rintro e w15 ⟨rfl, qr_, hm⟩
    have z15 := hm.size
    have H53 := Lib.hid qr_
    have HM54 := Lib.hid (HM52.out.trans hm (by intro k h1 h2; (try dsimp only at h2); omega))
    clear hm qr_ HM52
    have K7 := RRow_R (most := 100) H53.out (by omega)
    rw [rRow_none] at K7
    have HK7 := Lib.hid K7
    clear K7
    go_wp2_with fail
    refine (HK7.out).mono ?_
    rintro e w16 ⟨v7, rfl, qry, qr_, hm⟩
    have z16 := hm.size
    have H55 := Lib.hid (qry.widen (R' := (fun k => (w15.heap.size ≤ k ∧ k < w16.heap.size))) (by intro k h; unfold New at h; (try dsimp only at h); omega) (Nat.le_refl _))
    have H56 := Lib.hid qr_
    have HM57 := Lib.hid (HM54.out.trans hm (by intro k h1 h2; (try dsimp only at h2); omega))
    clear hm qry qr_ HM54
    obtain ⟨ay, cy, rfl⟩ := H55.out.shape
    have K8 := RHash_R H56.out
    rw [rHash_none] at K8
    have HK8 := Lib.hid K8
    clear K8
    go_wp2_with fail
    refine (HK8.out).mono ?_
    rintro e w17 ⟨rfl, qr_, hm⟩
    have z17 := hm.size
    have H58 := Lib.hid qr_
    have HM59 := Lib.hid (HM57.out.trans hm (by intro k h1 h2; (try dsimp only at h2); omega))
    clear hm qr_ HM57
    go_wp2_with fail
    refine (OK_R H58.out).mono ?_
    rintro e wx ⟨rfl, rfl⟩
    go_wp2_with fail
    refine (wakes_R _).mono ?_
    rintro e w18 ⟨rfl, hm⟩
    have z18 := hm.size
    have H60 := Lib.hid (H58.out.mod hm (fun _ _ h => h))
    have HM61 := Lib.hid (HM59.out.trans hm (fun _ _ h => h))
    clear hm H58 HM59
    go_wp2
    go_ret
    exact ⟨rfl, HM61.out⟩
  · have K4 := RInt_R (most := -1) H45.out (by omega)
    rw [rInt_neg _ (by omega)] at K4
    have HK4 := Lib.hid K4
    clear K4
    go_wp2_with fail
    refine (HK4.out).mono ?_
    rintro e w13 ⟨rfl, qr_, hm⟩
    have z13 := hm.size
    have H48 := Lib.hid qr_
    have HM49 := Lib.hid (HM47.out.trans hm (by intro k h1 h2; (try dsimp only at h2); omega))
    clear hm qr_ HM47
    go_wp2_with fail
    refine (OK_R H48.out).mono ?_
    rintro e wx ⟨rfl, rfl⟩
    go_wp2_with fail
    refine (Left_R H48.out).mono ?_
    rintro e wx ⟨rfl, rfl⟩
    have K5 := RNum_R H48.out
    rw [rNum_none'] at K5
    have HK5 := Lib.hid K5
    clear K5
    go_wp2_with fail
    refine (HK5.out).mono ?_
    rintro e w14 ⟨rfl, qr_, hm⟩
    have z14 := hm.size
    have H50 := Lib.hid qr_
    have HM51 := Lib.hid (HM49.out.trans hm (by intro k h1 h2; (try dsimp only at h2); omega))
    clear hm qr_ HM49
    have K6 := RInt_R (most := 100) H50.out (by omega)
    rw [rInt_none] at K6
    have HK6 := Lib.hid K6
    clear K6
    go_wp2_with fail
    refine (HK6.out).mono ?_
    rintro e w15 ⟨rfl, qr_, hm⟩
    have z15 := hm.size
    have H52 := Lib.hid qr_
    have HM53 := Lib.hid (HM51.out.trans hm (by intro k h1 h2; (try dsimp only at h2); omega))
    clear hm qr_ HM51
    have K7 := RRow_R (most := 100) H52.out (by omega)
    rw [rRow_none] at K7
    have HK7 := Lib.hid K7
    clear K7
    go_wp2_with fail
    refine (HK7.out).mono ?_
    rintro e w16 ⟨v7, rfl, qry, qr_, hm⟩
    have z16 := hm.size
    have H54 := Lib.hid (qry.widen (R' := (fun k => (w15.heap.size ≤ k ∧ k < w16.heap.size))) (by intro k h; unfold New at h; (try dsimp only at h); omega) (Nat.le_refl _))
    have H55 := Lib.hid qr_
    have HM56 := Lib.hid (HM53.out.trans hm (by intro k h1 h2; (try dsimp only at h2); omega))
    clear hm qry qr_ HM53
    obtain ⟨ay, cy, rfl⟩ := H54.out.shape
    have K8 := RHash_R H55.out
    rw [rHash_none] at K8
    have HK8 := Lib.hid K8
    clear K8
    go_wp2_with fail
    refine (HK8.out).mono ?_
    rintro e w17 ⟨rfl, qr_, hm⟩
    have z17 := hm.size
    have H57 := Lib.hid qr_
    have HM58 := Lib.hid (HM56.out.trans hm (by intro k h1 h2; (try dsimp only at h2); omega))
    clear hm qr_ HM56
    go_wp2_with fail
    refine (OK_R H57.out).mono ?_
    rintro e wx ⟨rfl, rfl⟩
    go_wp2_with fail
    refine (wakes_R _).mono ?_
    rintro e w18 ⟨rfl, hm⟩
    have z18 := hm.size
    have H59 := Lib.hid (H57.out.mod hm (fun _ _ h => h))
    have HM60 := Lib.hid (HM58.out.trans hm (fun _ _ h => h))
    clear hm H57 HM58
    go_wp2
    go_ret
    exact ⟨rfl, HM60.out⟩
end Go.Proofs.Ytceojplopbjokaa
