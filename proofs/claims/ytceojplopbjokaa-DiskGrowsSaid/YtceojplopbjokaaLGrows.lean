/- DiskGrows: the walk. -/
import Derived.Test.YtceojplopbjokaaStep
import Derived.Test.YtceojplopbjokaaActs3
import Derived.IntWalk
import Derived.Deep.Cut
import Derived.Test.YtceojplopbjokaaNums
import Derived.Deep.RegionHeld3
set_option maxRecDepth 100000
set_option linter.unusedVariables false
namespace Go.Proofs.Ytceojplopbjokaa
open Go Go.RowKit Go.Gv

set_option maxHeartbeats 20000000 in
theorem DiskGrows_walk (vl : Value) (l : List Act3) (w : World) (hl : RdA3 (fun k => k < w.heap.size) w vl l) (hok : ∀ a ∈ l, a.Ok w) :
    Calls Try.prog 9 #[vl] w fun e w' => e = .returned (.bool true) ∧ Mod (fun _ => False) w w' := by
  obtain ⟨ao, cap, rfl, hlm⟩ := hl.shape'
  rw [maxLen_val] at hlm
  have HL := Lib.hid hl
  have HLb := Lib.hid hl
  have HOK := Lib.hid hok
  clear hl hok
  go_enter Try.func9, Try.ntmps9
  go_wp2_with fail
  refine (New_R _).mono ?_
  rintro e w1 ⟨p, rfl, qd, hm⟩
  have z1 := hm.size
  have H1 := Lib.hid (qd.widen (R' := (fun k => (w.heap.size ≤ k ∧ k < w1.heap.size))) (by intro k h; unfold New at h; (try dsimp only at h); (try dsimp only); omega) (Nat.le_refl _))
  have H2 := Lib.hid (HL.out.mod hm (fun _ _ h => h))
  have HM3 := Lib.hid ((Mod.refl (fun _ => False) w).trans hm (fun _ _ h => h))
  clear hm qd HL
  go_wp2
  go_loopw [4, 5, 6] (fun t4 t5 t6 wr => ∃ (i sy : Nat) (R1 : Nat → Prop) (bs : List Int), t4 = .int .i64 bs.length ∧ t5 = .int .i64 sy ∧ t6 = .int .i64 i ∧ i ≤ 25 ∧ i ≤ l.length ∧ sy ≤ bs.length ∧ DkR R1 (20 * i) wr p ⟨bs, sy, 0, false, false⟩ ∧ (∀ k, R1 k → w.heap.size ≤ k ∧ k < wr.heap.size) ∧ Mod (fun _ => False) w wr) (fun _ _ t6 _ => l.length - (intOf t6).toNat)
  case atStart => exact ⟨0, 0, _, [], rfl, rfl, rfl, by omega, by omega, by simp, H1.out, (by intro k h; (try dsimp only at h); omega), HM3.out⟩
  case round =>
    obtain ⟨i, sy, R1, bs, rfl, rfl, rfl, hi25, hil, hsy, hD, hb1, hm⟩ := hrel
    have hbN : bs.length ≤ 20 * i := by obtain ⟨v, h1, h2, h3, h4⟩ := hD; exact h4
    have KD := Lib.hid hD
    have Kb1 := Lib.hid hb1
    have HL0 := Lib.hid (HLb.out.mod hm (fun _ _ h => h))
    have KM := Lib.hid hm
    have zr0 := hm.size
    clear hD hb1 hm
    by_cases hc1 : i < l.length
    by_cases hc2 : i < 25
    · obtain ⟨gl, ol, rfl, hel⟩ := HL0.out.at' hc1
      have hak := HOK.out l[i] (List.getElem_mem hc1)
      generalize l[i] = a at *
      have HEL := Lib.hid hel
      have HAK := Lib.hid hak
      have HONE := Lib.hid (Act3.one hak)
      clear hel hak
      go_wp2_with (first
        | ((with_reducible show wpList _ _ _ (Oper.mk (some 26) _ _ _ _ _ :: _) _ _); go_must (refine wpList_loadA rfl 69 (.tmp 25) rfl Try.underlying69 rfl (size_act07 _) rfl HEL.out ?_))
        | ((with_reducible show wpList _ _ _ (Oper.mk none (Op.store 69 (.tmp 7) (.tmp 26)) _ _ _ _ :: _) _ _); go_must (refine wpList_storeA rfl 69 (.tmp 7) (.tmp 26) rfl (Cs.new _ _ _) (vs := a.cells) (size_act07 _) HONE.out (by first | rfl | (show 0 + 3 ≤ 3; decide)) rfl rfl ?_)))
      intro raw2 hcs hm1
      rw [lay_whole _ _ (by first | rfl | (show 0 + 3 ≤ 3; decide))] at hcs
      have hm : Mod (fun _ => False) wr raw2 := ((Mod.refl (fun _ => False) _).alloc _).trans hm1 (by intro k h1 h2; omega)
      have zra2 := hm.size
      have Hra1 := Lib.hid (show LocC 69 (fun k => (wr.heap.size ≤ k ∧ k < raw2.heap.size)) raw2 wr.heap.size (a.cells) from ⟨hcs, Nat.le_refl _, hcs.lt⟩)
      have Hra2 := Lib.hid (KD.out.mod hm (fun _ _ h => h))
      have Hra3 := Lib.hid (HL0.out.mod hm (fun _ _ h => h))
      have HMra4 := Lib.hid (KM.out.trans hm (fun _ _ h => h))
      clear hcs hm1 hm
      have hc3 := Hra1.out.at (j := 2) rfl
      go_wp2_with fail
      refine (Cut_R 20 (HAK.out.b.mod HMra4.out (fun _ _ h => h)) (by omega)).mono ?_
      rintro e raw3 ⟨v1, rfl, qcut, hm⟩
      have zra3 := hm.size
      have Hra5 := Lib.hid (qcut.widen (R' := (fun k => (raw2.heap.size ≤ k ∧ k < raw3.heap.size))) (by intro k h; unfold New at h; (try dsimp only at h); (try dsimp only); omega) (Nat.le_refl _))
      have Hra6 := Lib.hid (Hra2.out.mod hm (fun _ _ h => h))
      have Hra7 := Lib.hid (Hra1.out.mod hm (fun _ _ h => h))
      have HMra8 := Lib.hid (HMra4.out.trans hm (fun _ _ h => h))
      clear hm qcut Hra2 Hra1 HMra4
      clear hc3
      generalize List.take 20 a.B = cb at *
      obtain ⟨ac, cc, rfl⟩ := Hra5.out.shape
      have hcb := Hra5.out.2.2
      have hm4 := Within_any a.Do 8 (by omega) (by omega) HAK.out.d
      have hm5 := within_range a.Do 8 (by omega)
      generalize within a.Do 8 = m at *
      have HKW := Lib.hid hm4
      clear hm4
      have hc0 := Hra7.out.at (j := 0) rfl
      go_wp2_with fail
      refine (HKW.out _).mono ?_
      rintro e wx ⟨rfl, rfl⟩
      clear hc0
      have hm : (m = 3 ∨ m = 4) ∨ m = 5 ∨ (m = 0 ∨ m = 1 ∨ m = 2 ∨ m = 6 ∨ m = 7) := by omega
      clear hm5
      rcases hm with hm | rfl | hm
      · rcases hm with rfl | rfl
        all_goals
          have Krab9 := Sync_R Hra6.out
          rw [show dErr (⟨bs, sy, 0, false, false⟩ : DS) = 0 from rfl, show dSync (⟨bs, sy, 0, false, false⟩ : DS) = ⟨bs, bs.length, 0, false, false⟩ from rfl] at Krab9
          have HKrab9 := Lib.hid Krab9
          clear Krab9
          go_wp2_with fail
          refine (HKrab9.out).mono ?_
          rintro e rabw4 ⟨rfl, qd, hm⟩
          have zrab4 := hm.size
          have Hrab10 := Lib.hid qd
          have Hrab11 := Lib.hid (Hra7.out.mod hm (by intro k h1 h2; (try dsimp only at h1 h2); first | (have hb1 := Kb1.out k h1; omega) | (have hb1 := Kb1.out k h2; omega) | omega))
          have Hrab12 := Lib.hid (Hra5.out.mod hm (by intro k h1 h2; (try dsimp only at h1 h2); first | (have hb1 := Kb1.out k h1; omega) | (have hb1 := Kb1.out k h2; omega) | omega))
          have HMrab13 := Lib.hid (HMra8.out.trans hm (by intro k h1 h2; (try dsimp only at h2); first | (have hb1 := Kb1.out k h2; omega) | omega))
          clear hm qd Hra6 Hra7 Hra5 HMra8
          go_wp2_with fail
          refine (Len_R Hrab10.out).mono ?_
          rintro e wx ⟨rfl, rfl⟩
          go_wp2_with fail
          refine (Synced_R Hrab10.out).mono ?_
          rintro e wx ⟨rfl, rfl⟩
          have Krab14 := Read_R Hrab10.out (by omega)
          have HKrab14 := Lib.hid Krab14
          clear Krab14
          go_wp2_with fail
          refine (HKrab14.out).mono ?_
          rintro e rabw5 ⟨vr, rfl, qrd, hm⟩
          have zrab5 := hm.size
          have Hrab15 := Lib.hid (qrd.widen (R' := (fun k => (rabw4.heap.size ≤ k ∧ k < rabw5.heap.size))) (by intro k h; unfold New at h; (try dsimp only at h); (try dsimp only); omega) (Nat.le_refl _))
          have Hrab16 := Lib.hid (Hrab10.out.mod hm (fun _ _ h => h))
          have Hrab17 := Lib.hid (Hrab11.out.mod hm (fun _ _ h => h))
          have HMrab18 := Lib.hid (HMrab13.out.trans hm (fun _ _ h => h))
          clear hm qrd Hrab10 Hrab11 HMrab13
          obtain ⟨ar, cr, rfl⟩ := Hrab15.out.shape
          go_wp2_with fail
          refine (Dead_R Hrab16.out).mono ?_
          rintro e wx ⟨rfl, rfl⟩
          go_wp2
          go_roundw
          case rel => exact ⟨i + 1, bs.length, (fun k => R1 k), bs, rfl, by go_num, by go_num, by omega, by omega, (by first | omega | (simp; done) | (simp; omega)), Hrab16.out.widen (fun _ h => h) (by omega), (by intro k h; (try dsimp only at h); first | (have hb1 := Kb1.out k h; omega) | omega), HMrab18.out⟩
          case measure => simp [intOf]; omega
      · have hw := Within_any a.N ((bs.length : Int) + 1) (by omega) (by omega) HAK.out.n
        have hw2 := within_range a.N ((bs.length : Int) + 1) (by omega)
        generalize within a.N ((bs.length : Int) + 1) = k' at *
        obtain ⟨k, rfl⟩ : ∃ k : Nat, k' = k := ⟨k'.toNat, by omega⟩
        have HW := Lib.hid hw
        clear hw
        have hkL : k ≤ bs.length := by omega
        clear hw2
        have hc1f := Hra7.out.at (j := 1) rfl
        go_wp2_with fail
        refine (HW.out _).mono ?_
        rintro e wx ⟨rfl, rfl⟩
        clear hc1f
        have Krad9 := Cut_ok (n := k) Hra6.out rfl rfl hkL (by omega)
        rw [show dCut (⟨bs, sy, 0, false, false⟩ : DS) k = (⟨bs.take k, min sy k, 0, false, false⟩ : DS) from rfl] at Krad9
        have HKrad9 := Lib.hid Krad9
        clear Krad9
        go_wp2_with fail
        refine (HKrad9.out).mono ?_
        rintro e radw4 ⟨rfl, qd, hm⟩
        have zrad4 := hm.size
        have Hrad10 := Lib.hid qd
        have Hrad11 := Lib.hid (Hra7.out.mod hm (by intro k h1 h2; (try dsimp only at h1 h2); first | (have hb1 := Kb1.out k h1; omega) | (have hb1 := Kb1.out k h2; omega) | omega))
        have Hrad12 := Lib.hid (Hra5.out.mod hm (by intro k h1 h2; (try dsimp only at h1 h2); first | (have hb1 := Kb1.out k h1; omega) | (have hb1 := Kb1.out k h2; omega) | omega))
        have HMrad13 := Lib.hid (HMra8.out.trans hm (by intro k h1 h2; (try dsimp only at h2); first | (have hb1 := Kb1.out k h2; omega) | omega))
        clear hm qd Hra6 Hra7 Hra5 HMra8
        have HT := Hrad10.out
        have hTl : (bs.take k).length = k := by simp; omega
        generalize bs.take k = T at HT hTl
        subst hTl
        by_cases hmi : T.length < sy
        · rw [show min sy T.length = T.length by omega] at HT
          have HT2 := Lib.hid HT
          clear HT
          go_wp2_with fail
          refine (Len_R HT2.out).mono ?_
          rintro e wx ⟨rfl, rfl⟩
          go_wp2_with fail
          refine (Synced_R HT2.out).mono ?_
          rintro e wx ⟨rfl, rfl⟩
          have Kradu14 := Read_R HT2.out (by omega)
          have HKradu14 := Lib.hid Kradu14
          clear Kradu14
          go_wp2_with fail
          refine (HKradu14.out).mono ?_
          rintro e raduw5 ⟨vr, rfl, qrd, hm⟩
          have zradu5 := hm.size
          have Hradu15 := Lib.hid (qrd.widen (R' := (fun k => (radw4.heap.size ≤ k ∧ k < raduw5.heap.size))) (by intro k h; unfold New at h; (try dsimp only at h); (try dsimp only); omega) (Nat.le_refl _))
          have Hradu16 := Lib.hid (HT2.out.mod hm (fun _ _ h => h))
          have Hradu17 := Lib.hid (Hrad11.out.mod hm (fun _ _ h => h))
          have HMradu18 := Lib.hid (HMrad13.out.trans hm (fun _ _ h => h))
          clear hm qrd HT2 Hrad11 HMrad13
          obtain ⟨ar, cr, rfl⟩ := Hradu15.out.shape
          go_wp2_with fail
          refine (Dead_R Hradu16.out).mono ?_
          rintro e wx ⟨rfl, rfl⟩
          go_wp2
          go_roundw
          case rel => exact ⟨i + 1, T.length, (fun k => R1 k), T, rfl, by go_num, by go_num, by omega, by omega, (by first | omega | (simp; done) | (simp; omega)), Hradu16.out.widen (fun _ h => h) (by omega), (by intro k h; (try dsimp only at h); first | (have hb1 := Kb1.out k h; omega) | omega), HMradu18.out⟩
          case measure => simp [intOf]; omega
        · rw [show min sy T.length = sy by omega] at HT
          have HT2 := Lib.hid HT
          clear HT
          go_wp2_with fail
          refine (Len_R HT2.out).mono ?_
          rintro e wx ⟨rfl, rfl⟩
          go_wp2_with fail
          refine (Synced_R HT2.out).mono ?_
          rintro e wx ⟨rfl, rfl⟩
          have Kradv14 := Read_R HT2.out (by omega)
          have HKradv14 := Lib.hid Kradv14
          clear Kradv14
          go_wp2_with fail
          refine (HKradv14.out).mono ?_
          rintro e radvw5 ⟨vr, rfl, qrd, hm⟩
          have zradv5 := hm.size
          have Hradv15 := Lib.hid (qrd.widen (R' := (fun k => (radw4.heap.size ≤ k ∧ k < radvw5.heap.size))) (by intro k h; unfold New at h; (try dsimp only at h); (try dsimp only); omega) (Nat.le_refl _))
          have Hradv16 := Lib.hid (HT2.out.mod hm (fun _ _ h => h))
          have Hradv17 := Lib.hid (Hrad11.out.mod hm (fun _ _ h => h))
          have HMradv18 := Lib.hid (HMrad13.out.trans hm (fun _ _ h => h))
          clear hm qrd HT2 Hrad11 HMrad13
          obtain ⟨ar, cr, rfl⟩ := Hradv15.out.shape
          go_wp2_with fail
          refine (Dead_R Hradv16.out).mono ?_
          rintro e wx ⟨rfl, rfl⟩
          go_wp2
          go_roundw
          case rel => exact ⟨i + 1, sy, (fun k => R1 k), T, rfl, by go_num, by go_num, by omega, by omega, (by first | omega | (simp; done) | (simp; omega)), Hradv16.out.widen (fun _ h => h) (by omega), (by intro k h; (try dsimp only at h); first | (have hb1 := Kb1.out k h; omega) | omega), HMradv18.out⟩
          case measure => simp [intOf]; omega
      · rcases hm with rfl | rfl | rfl | rfl | rfl
        all_goals
          have Krae9 := Append_R Hra6.out Hra5.out.rd (by intro k h1 h2; (try dsimp only at h1 h2); first | (have hb1 := Kb1.out k h1; omega) | (have hb1 := Kb1.out k h2; omega) | omega) (by omega)
          rw [show dErr (⟨bs, sy, 0, false, false⟩ : DS) = 0 from rfl, show dAppend (⟨bs, sy, 0, false, false⟩ : DS) cb = ⟨bs ++ cb, sy, 0, false, false⟩ from rfl] at Krae9
          have HKrae9 := Lib.hid Krae9
          clear Krae9
          go_wp2_with fail
          refine (HKrae9.out).mono ?_
          rintro e raew4 ⟨rfl, qd, hm⟩
          have zrae4 := hm.size
          have Hrae10 := Lib.hid (qd.widen (R' := (fun k => R1 k ∨ ((raw3.heap.size ≤ k ∧ k < raew4.heap.size)))) (by intro k h; unfold New at h; (try dsimp only at h); (try dsimp only); first | (rcases h with h | h <;> first | exact Or.inl h | (rcases h with h | h <;> first | exact Or.inl h | (right; omega)) | (right; omega)) | omega) (Nat.le_refl _))
          have Hrae11 := Lib.hid (Hra7.out.mod hm (by intro k h1 h2; (try dsimp only at h1 h2); first | (have hb1 := Kb1.out k h1; omega) | (have hb1 := Kb1.out k h2; omega) | omega))
          have Hrae12 := Lib.hid (Hra5.out.mod hm (by intro k h1 h2; (try dsimp only at h1 h2); first | (have hb1 := Kb1.out k h1; omega) | (have hb1 := Kb1.out k h2; omega) | omega))
          have HMrae13 := Lib.hid (HMra8.out.trans hm (by intro k h1 h2; (try dsimp only at h2); first | (have hb1 := Kb1.out k h2; omega) | omega))
          clear hm qd Hra6 Hra7 Hra5 HMra8
          have HT := Hrae10.out
          have hTl : (bs ++ cb).length = bs.length + cb.length := by simp
          generalize bs ++ cb = T at HT hTl
          have hTl2 : (T.length : Int) = bs.length + cb.length := by omega
          have HTL := Lib.hid hTl; have HTL2 := Lib.hid hTl2
          have hTb : T.length ≤ 20 * i + 20 := by omega
          clear hTl hTl2
          have HT2 := Lib.hid HT
          clear HT
          go_wp2_with fail
          refine (Len_R HT2.out).mono ?_
          rintro e wx ⟨rfl, rfl⟩
          go_wp2_with fail
          refine (Synced_R HT2.out).mono ?_
          rintro e wx ⟨rfl, rfl⟩
          have Krae14 := Read_R HT2.out (by omega)
          have HKrae14 := Lib.hid Krae14
          clear Krae14
          go_wp2_with fail
          refine (HKrae14.out).mono ?_
          rintro e raew5 ⟨vr, rfl, qrd, hm⟩
          have zrae5 := hm.size
          have Hrae15 := Lib.hid (qrd.widen (R' := (fun k => (raew4.heap.size ≤ k ∧ k < raew5.heap.size))) (by intro k h; unfold New at h; (try dsimp only at h); (try dsimp only); omega) (Nat.le_refl _))
          have Hrae16 := Lib.hid (HT2.out.mod hm (fun _ _ h => h))
          have Hrae17 := Lib.hid (Hrae11.out.mod hm (fun _ _ h => h))
          have HMrae18 := Lib.hid (HMrae13.out.trans hm (fun _ _ h => h))
          clear hm qrd HT2 Hrae11 HMrae13
          obtain ⟨ar, cr, rfl⟩ := Hrae15.out.shape
          go_wp2_with fail
          refine (Dead_R Hrae16.out).mono ?_
          rintro e wx ⟨rfl, rfl⟩
          go_wp2
          go_roundw
          case rel => exact ⟨i + 1, sy, (fun k => R1 k ∨ ((raw3.heap.size ≤ k ∧ k < raew4.heap.size))), T, by rw [HTL2.out], by go_num, by go_num, by omega, by omega, (by first | omega | (simp; done) | (simp; omega)), Hrae16.out.widen (fun _ h => h) (by omega), (by intro k h; (try dsimp only at h); rcases h with h | h <;> first | (have hb1 := Kb1.out k h; omega) | omega), HMrae18.out⟩
          case measure => simp [intOf]; omega
    · go_wp2_with fail
      refine (wakes07 _).mono ?_
      rintro e rxw2 ⟨rfl, hm⟩
      have zrx2 := hm.size
      have HMrx1 := Lib.hid (KM.out.trans hm (fun _ _ h => h))
      clear hm KM
      go_wp2
      go_ret
      exact ⟨rfl, HMrx1.out⟩
    · go_wp2_with fail
      refine (wakes07 _).mono ?_
      rintro e ryw2 ⟨rfl, hm⟩
      have zry2 := hm.size
      have HMry1 := Lib.hid (KM.out.trans hm (fun _ _ h => h))
      clear hm KM
      go_wp2
      go_ret
      exact ⟨rfl, HMry1.out⟩
end Go.Proofs.Ytceojplopbjokaa
