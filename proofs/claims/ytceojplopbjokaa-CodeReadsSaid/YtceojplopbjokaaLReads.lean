/- CodeReads: the walk. -/
import Derived.Test.YtceojplopbjokaaRead5
import Derived.Deep.RegionHeld3
set_option maxRecDepth 100000
set_option linter.unusedVariables false
namespace Go.Proofs.Ytceojplopbjokaa
open Go Go.RowKit Go.Gv

theorem box_reader {R : Nat → Prop} {N : Nat} {w : World} {v : Value} {bs : List Int} (h : RdR R N w v bs) :
    ∃ w', w.alloc (.cells #[v, .bool false] 75) = w' ∧ RrR 75 (fun k => R k ∨ New w w' k) w' w.heap.size (some bs) ∧ Mod (fun _ => False) w w' := by
  have hc := Cs.new w #[v, .bool false] 75
  refine ⟨_, rfl, ⟨v, ⟨hc, h.1.alloc _, ?_⟩, .inr ⟨Nat.le_refl _, hc.lt⟩, fun h0 g hg => .inl (h.2.1 h0 g hg)⟩, (Mod.refl _ _).alloc _⟩
  intro h0 g hg e
  have := h.1.block_lt h0 g hg
  omega

set_option maxHeartbeats 2000000 in
theorem CodeReads_walk (vb vl : Value) (bs : List Int) (l : List Act01) (w : World) (hb : RdR (fun k => k < w.heap.size) bs.length w vb bs) (hl : RdA (fun k => k < w.heap.size) w vl l) (hok : ∀ a ∈ l, a.Ok w) :
    Calls Try.prog 11 #[vb, vl] w fun e w' => e = .returned (.bool true) ∧ Mod (fun _ => False) w w' := by
  obtain ⟨ao, cap, rfl, hlm⟩ := hl.shape
  rw [maxLen_val] at hlm
  have hgd := hv_guard2
  have HL := Lib.hid hl
  have HOK := Lib.hid hok
  have HB := Lib.hid hb
  clear hl hok hb
  go_enter Try.func11, Try.ntmps11
  go_wp2_with fail
  refine (Cut_R 200 HB.out (by omega)).mono ?_
  rintro e w1 ⟨vb1, rfl, qcb, hm⟩
  have z1 := hm.size
  have H1 := Lib.hid (qcb.widen (R' := (fun k => (w.heap.size ≤ k ∧ k < w1.heap.size))) (by intro k h; unfold New at h; (try dsimp only at h); (try dsimp only); omega) (Nat.le_refl _))
  have H2 := Lib.hid (HL.out.mod hm (fun _ _ h => h))
  have H3 := Lib.hid (HB.out.mod hm (fun _ _ h => h))
  have HM4 := Lib.hid ((Mod.refl (fun _ => False) w).trans hm (fun _ _ h => h))
  clear hm qcb HL HB
  generalize bs.take 200 = bl at *
  go_wp2_with fail
  refine (Lend_R H1.out.rd (by omega)).mono ?_
  rintro e w2 ⟨vx, rfl, qlx, hm⟩
  have z2 := hm.size
  have H5 := Lib.hid (qlx.widen (R' := (fun k => (w1.heap.size ≤ k ∧ k < w2.heap.size))) (by intro k h; unfold New at h; (try dsimp only at h); (try dsimp only); omega) (Nat.le_refl _))
  have H6 := Lib.hid (H2.out.mod hm (fun _ _ h => h))
  have H7 := Lib.hid (H1.out.mod hm (fun _ _ h => h))
  have HM8 := Lib.hid (HM4.out.trans hm (fun _ _ h => h))
  clear hm qlx H2 H1 HM4
  go_wp2_with fail
  refine (NewReader_R H5.out.rd (by omega)).mono ?_
  rintro e w3 ⟨r, rfl, qr_, hm⟩
  have z3 := hm.size
  have H9 := Lib.hid (qr_.widen (R' := (fun k => (w2.heap.size ≤ k ∧ k < w3.heap.size))) (by intro k h; unfold New at h; (try dsimp only at h); (try dsimp only); omega))
  have H10 := Lib.hid (H6.out.mod hm (fun _ _ h => h))
  have H11 := Lib.hid (H7.out.mod hm (fun _ _ h => h))
  have H12 := Lib.hid (H5.out.mod hm (fun _ _ h => h))
  have HM13 := Lib.hid (HM8.out.trans hm (fun _ _ h => h))
  clear hm qr_ H6 H7 H5 HM8
  go_wp2_with fail
  refine (Copy_R H11.out.rd (by omega)).mono ?_
  rintro e w4 ⟨vc, rfl, qcp, hm⟩
  have z4 := hm.size
  have H14 := Lib.hid (qcp.widen (R' := (fun k => (w3.heap.size ≤ k ∧ k < w4.heap.size))) (by intro k h; unfold New at h; (try dsimp only at h); (try dsimp only); omega) (Nat.le_refl _))
  have H15 := Lib.hid (H10.out.mod hm (fun _ _ h => h))
  have H16 := Lib.hid (H11.out.mod hm (fun _ _ h => h))
  have H17 := Lib.hid (H12.out.mod hm (fun _ _ h => h))
  have H18 := Lib.hid (H9.out.mod hm (fun _ _ h => h))
  have HM19 := Lib.hid (HM13.out.trans hm (fun _ _ h => h))
  clear hm qcp H10 H11 H12 H9 HM13
  obtain ⟨ac, cc, rfl⟩ := H14.out.shape
  obtain ⟨w5, e5, hs5, hm⟩ := box_reader H14.out.rd
  have E5 := Lib.hid e5
  have z5 := hm.size
  have HS5 := Lib.hid (hs5.widen (R' := (fun k => (w3.heap.size ≤ k ∧ k < w5.heap.size))) (by intro k h; unfold New at h; (try dsimp only at h); (try dsimp only); omega))
  have H20 := Lib.hid (H15.out.mod hm (fun _ _ h => h))
  have H21 := Lib.hid (H16.out.mod hm (fun _ _ h => h))
  have H22 := Lib.hid (H17.out.mod hm (fun _ _ h => h))
  have H23 := Lib.hid (H18.out.mod hm (fun _ _ h => h))
  have HM24 := Lib.hid (HM19.out.trans hm (fun _ _ h => h))
  clear e5 hs5 hm
  have hbl : ((some bl : RSt).getD []).length ≤ 200 := by have := H21.out.2.2; simpa using this
  have HBL := Lib.hid hbl
  clear hbl
  go_wp2
  rw [E5.out]
  go_loopw [8] (fun t8 wr => ∃ (i : Nat) (st : RSt), t8 = .int .i64 i ∧ i ≤ 20 ∧ i ≤ l.length ∧ (st.getD []).length ≤ 200 ∧ RrR 87 (fun k => (w2.heap.size ≤ k ∧ k < w3.heap.size)) wr r st ∧ RrR 75 (fun k => (w3.heap.size ≤ k ∧ k < w5.heap.size)) wr w4.heap.size st ∧ Mod (fun k => (w2.heap.size ≤ k ∧ k < w3.heap.size) ∨ (w3.heap.size ≤ k ∧ k < w5.heap.size)) w5 wr) (fun t8 _ => l.length - (intOf t8).toNat)
  case atStart => exact ⟨0, _, rfl, by omega, by omega, HBL.out, H23.out, HS5.out, Mod.refl _ _⟩
  case round =>
    obtain ⟨wi, rfl⟩ : ∃ x, x = wr := ⟨_, rfl⟩
    obtain ⟨i, st, rfl, hi, hil, hst, hR, hS, hm⟩ := hrel
    have KR := Lib.hid hR
    have KS := Lib.hid hS
    have KI := Lib.hid hm
    clear hR hS
    have HST := Lib.hid hst
    clear hst
    have z_wi := hm.size
    have Hn25 := Lib.hid (H20.out.mod hm (by intro k h1 h2; (try dsimp only at h1 h2); omega))
    have Hn26 := Lib.hid (H21.out.mod hm (by intro k h1 h2; (try dsimp only at h1 h2); omega))
    have Hn27 := Lib.hid (H22.out.mod hm (by intro k h1 h2; (try dsimp only at h1 h2); omega))
    have HMn28 := Lib.hid (HM24.out.trans hm (by intro k h1 h2; (try dsimp only at h2); omega))
    clear hm
    by_cases hc1 : i < l.length
    by_cases hc2 : i < 20
    · obtain ⟨gl, ol, rfl, hel⟩ := Hn25.out.at hc1
      have hak := HOK.out l[i] (List.getElem_mem hc1)
      generalize l[i] = a at *
      have HAK := Lib.hid hak
      clear hak
      have HEL := Lib.hid hel
      have HONE := Lib.hid (Act01.one HAK.out)
      clear hel
      go_wp2_with (first
        | ((with_reducible show wpList _ _ _ (Oper.mk (some 38) _ _ _ _ _ :: _) _ _); go_must (refine wpList_loadA rfl 41 (.tmp 37) rfl Try.underlying41 rfl (size_act _) rfl HEL.out ?_))
        | ((with_reducible show wpList _ _ _ (Oper.mk none (Op.store 41 (.tmp 9) (.tmp 38)) _ _ _ _ :: _) _ _); go_must (refine wpList_storeA rfl 41 (.tmp 9) (.tmp 38) rfl (Cs.new _ _ _) (vs := a.cells) (size_act _) HONE.out (by rw [a.len]; decide) rfl rfl ?_)))
      intro naw7 hcs hm1
      rw [lay_whole _ _ (by rw [a.len]; rfl)] at hcs
      have hm : Mod (fun _ => False) wi naw7 := ((Mod.refl (fun _ => False) _).alloc _).trans hm1 (by intro k h1 h2; omega)
      have zna7 := hm.size
      have Hna29 := Lib.hid (show LocA (fun k => (wi.heap.size ≤ k ∧ k < naw7.heap.size)) naw7 wi.heap.size a from ⟨hcs, Nat.le_refl _, hcs.lt⟩)
      have Hna30 := Lib.hid (Hn25.out.mod hm (fun _ _ h => h))
      have Hna31 := Lib.hid (Hn26.out.mod hm (fun _ _ h => h))
      have Hna32 := Lib.hid (Hn27.out.mod hm (fun _ _ h => h))
      have Hna33 := Lib.hid (KR.out.mod hm (fun _ _ h => h))
      have Hna34 := Lib.hid (KS.out.mod hm (fun _ _ h => h))
      have HMna35 := Lib.hid (HMn28.out.trans hm (fun _ _ h => h))
      have HTna36 := Lib.hid (KI.out.trans hm (fun _ _ h => h.elim))
      clear hcs hm1 hm
      have hm5 := within_range a.Do 4 (by omega)
      have HKW := Lib.hid (Within_any a.Do 4 (by omega) (by omega) HAK.out.d)
      generalize within a.Do 4 = m at *
      have hm : m = 0 ∨ m = 1 ∨ m = 2 ∨ m = 3 := by omega
      clear hm5
      have hc0 := Hna29.out.c0
      go_wp2_with fail
      refine (HKW.out _).mono ?_
      rintro e wx ⟨rfl, rfl⟩
      clear hc0
      rcases hm with rfl | rfl | rfl | rfl
      · have HST2 := Lib.hid (Nat.le_trans (rNum_len st) HST.out)
        have K1 := RNum_R Hna33.out
        obtain ⟨p, hp⟩ : ∃ p, p = rNum st := ⟨_, rfl⟩
        rw [← hp] at K1 HST2
        have HP := Lib.hid hp
        obtain ⟨y, st2⟩ := p
        dsimp only at K1 HST2
        have HK1 := Lib.hid K1
        clear K1 hp
        go_wp2_with fail
        refine (HK1.out).mono ?_
        rintro e nabw8 ⟨rfl, qr_, hm⟩
        have znab8 := hm.size
        have Hnab37 := Lib.hid qr_
        have Hnab38 := Lib.hid (Hna31.out.mod hm (by intro k h1 h2; (try dsimp only at h1 h2); omega))
        have Hnab39 := Lib.hid (Hna32.out.mod hm (by intro k h1 h2; (try dsimp only at h1 h2); omega))
        have Hnab40 := Lib.hid (Hna34.out.mod hm (by intro k h1 h2; (try dsimp only at h1 h2); omega))
        have Hnab41 := Lib.hid (Hna29.out.mod hm (by intro k h1 h2; (try dsimp only at h1 h2); omega))
        have HMnab42 := Lib.hid (HMna35.out.trans hm (by intro k h1 h2; (try dsimp only at h2); omega))
        have HTnab43 := Lib.hid (HTna36.out.trans hm (by intro k h1 h2; (try dsimp only at h2); (try dsimp only); omega))
        clear hm qr_ Hna33 Hna31 Hna32 Hna34 Hna29 HMna35 HTna36
        have K2 := RefRNum_R Hnab40.out
        rw [← HP.out] at K2
        have HK2 := Lib.hid K2
        clear K2
        go_wp2_with fail
        refine (HK2.out).mono ?_
        rintro e nabw9 ⟨rfl, qr_s, hm⟩
        have znab9 := hm.size
        have Hnab44 := Lib.hid qr_s
        have Hnab45 := Lib.hid (Hnab38.out.mod hm (by intro k h1 h2; (try dsimp only at h1 h2); omega))
        have Hnab46 := Lib.hid (Hnab39.out.mod hm (by intro k h1 h2; (try dsimp only at h1 h2); omega))
        have Hnab47 := Lib.hid (Hnab37.out.mod hm (by intro k h1 h2; (try dsimp only at h1 h2); omega))
        have Hnab48 := Lib.hid (Hnab41.out.mod hm (by intro k h1 h2; (try dsimp only at h1 h2); omega))
        have HMnab49 := Lib.hid (HMnab42.out.trans hm (by intro k h1 h2; (try dsimp only at h2); omega))
        have HTnab50 := Lib.hid (HTnab43.out.trans hm (by intro k h1 h2; (try dsimp only at h2); (try dsimp only); omega))
        clear hm qr_s Hnab40 Hnab38 Hnab39 Hnab37 Hnab41 HMnab42 HTnab43
        have hne : (st2.isSome == st2.isNone) = false := by cases st2 <;> rfl
        obtain ⟨v9, hv9, -, -⟩ := Hnab44.out
        obtain ⟨ao9, cp9, rfl, -, -⟩ := hv9.2.1.shape
        have hk0 := (hv9.1.cell 0).trans rfl
        have hk1 := (hv9.1.cell 1).trans rfl
        have hk0' : World.cell? _ _ = some (.slice ao9 (st2.getD []).length cp9) := hk0
        have hk1' : World.cell? _ _ = some (.bool st2.isNone) := hk1
        clear hv9 hk0 hk1
        go_wp2_with fail
        have zdnab10 : ((nabw9).drew).heap.size = (nabw9).heap.size := rfl
        have Hnab51 := Lib.hid (Hnab45.out.mod ((Mod.refl (fun _ => False) nabw9).drew) (fun _ _ h => h))
        have Hnab52 := Lib.hid (HMnab49.out.trans ((Mod.refl (fun _ => False) _).drew) (fun _ _ h => h))
        have Hnab53 := Lib.hid (Hnab46.out.mod ((Mod.refl (fun _ => False) nabw9).drew) (fun _ _ h => h))
        have Hnab54 := Lib.hid (Hnab47.out.mod ((Mod.refl (fun _ => False) nabw9).drew) (fun _ _ h => h))
        have Hnab55 := Lib.hid (Hnab44.out.mod ((Mod.refl (fun _ => False) nabw9).drew) (fun _ _ h => h))
        have HTnab56 := Lib.hid (HTnab50.out.trans ((Mod.refl (fun _ => False) _).drew) (fun _ _ h => h.elim))
        have HKO := Lib.hid (OK_R Hnab54.out)
        have HKL := Lib.hid (Left_R Hnab54.out)
        go_region_held3 (fun w' => w'.cell? ⟨w4.heap.size, 0, none⟩ = some (.slice ao9 (st2.getD []).length cp9) ∧ w'.cell? ⟨w4.heap.size, 1, none⟩ = some (.bool st2.isNone)) (go_keep)
          (first | (go_at_call 47; go_must (refine (HKO.out).mono ?_); rintro e wx ⟨rfl, rfl⟩) | (go_at_call 52; go_must (refine (HKL.out).mono ?_); rintro e wx ⟨rfl, rfl⟩))
        go_wp2
        go_roundw
        case rel => exact ⟨i + 1, st2, by go_num, by omega, by omega, HST2.out, Hnab54.out, Hnab55.out, HTnab56.out⟩
        case measure => simp [intOf]; omega
      · have HST2 := Lib.hid (Nat.le_trans (rInt_len a.N st) HST.out)
        obtain ⟨p, hp⟩ : ∃ p, p = rInt a.N st := ⟨_, rfl⟩
        rw [← hp] at HST2
        have HP := Lib.hid hp
        clear hp
        obtain ⟨y, st2⟩ := p
        dsimp only at HST2
        go_wp2_with fail
        have zdnac8 : ((naw7).drew).heap.size = (naw7).heap.size := rfl
        have Hnac37 := Lib.hid (Hna31.out.mod ((Mod.refl (fun _ => False) naw7).drew) (fun _ _ h => h))
        have Hnac38 := Lib.hid (HMna35.out.trans ((Mod.refl (fun _ => False) _).drew) (fun _ _ h => h))
        have Hnac39 := Lib.hid (Hna32.out.mod ((Mod.refl (fun _ => False) naw7).drew) (fun _ _ h => h))
        have Hnac40 := Lib.hid (Hna33.out.mod ((Mod.refl (fun _ => False) naw7).drew) (fun _ _ h => h))
        have Hnac41 := Lib.hid (Hna34.out.mod ((Mod.refl (fun _ => False) naw7).drew) (fun _ _ h => h))
        have Hnac42 := Lib.hid (Hna29.out.mod ((Mod.refl (fun _ => False) naw7).drew) (fun _ _ h => h))
        have HTnac43 := Lib.hid (HTna36.out.trans ((Mod.refl (fun _ => False) _).drew) (fun _ _ h => h.elim))
        have hk1 := Hnac42.out.c1
        have K1 := RInt_R (most := a.N) Hnac40.out HAK.out.n
        rw [← HP.out] at K1
        have HK1 := Lib.hid K1
        clear K1
        go_region_held3 (fun w' => w'.cell? ⟨wi.heap.size, 1, none⟩ = some (.int .i64 a.N)) (go_keep)
          (first | (go_at_call 48; go_must (refine (HK1.out).mono ?_); rintro e nacw9 ⟨rfl, qr_, hm⟩; have znac9 := hm.size; have Hnac44 := Lib.hid qr_; have Hnac45 := Lib.hid (Hnac37.out.mod hm (by intro k h1 h2; (try dsimp only at h1 h2); omega)); have Hnac46 := Lib.hid (Hnac39.out.mod hm (by intro k h1 h2; (try dsimp only at h1 h2); omega)); have Hnac47 := Lib.hid (Hnac41.out.mod hm (by intro k h1 h2; (try dsimp only at h1 h2); omega)); have Hnac48 := Lib.hid (Hnac42.out.mod hm (by intro k h1 h2; (try dsimp only at h1 h2); omega)); have HMnac49 := Lib.hid (Hnac38.out.trans hm (by intro k h1 h2; (try dsimp only at h2); omega)); have HTnac50 := Lib.hid (HTnac43.out.trans hm (by intro k h1 h2; (try dsimp only at h2); (try dsimp only); omega)); clear hm qr_ Hnac40 Hnac37 Hnac39 Hnac41 Hnac42 Hnac38 HTnac43; have hk2 := Hnac48.out.c1; have K2 := RefRInt_R (most := a.N) Hnac47.out HAK.out.n; rw [← HP.out] at K2; have HK2 := Lib.hid K2; clear K2) | (go_at_call 54; go_must (refine (HK2.out).mono ?_); rintro e nacw10 ⟨rfl, qr_s, hm⟩; have znac10 := hm.size; have Hnac51 := Lib.hid qr_s; have Hnac52 := Lib.hid (Hnac45.out.mod hm (by intro k h1 h2; (try dsimp only at h1 h2); omega)); have Hnac53 := Lib.hid (Hnac46.out.mod hm (by intro k h1 h2; (try dsimp only at h1 h2); omega)); have Hnac54 := Lib.hid (Hnac44.out.mod hm (by intro k h1 h2; (try dsimp only at h1 h2); omega)); have Hnac55 := Lib.hid (Hnac48.out.mod hm (by intro k h1 h2; (try dsimp only at h1 h2); omega)); have HMnac56 := Lib.hid (HMnac49.out.trans hm (by intro k h1 h2; (try dsimp only at h2); omega)); have HTnac57 := Lib.hid (HTnac50.out.trans hm (by intro k h1 h2; (try dsimp only at h2); (try dsimp only); omega)); clear hm qr_s Hnac47 Hnac45 Hnac46 Hnac44 Hnac48 HMnac49 HTnac50; have hk3 := Hnac55.out.c1))
        have hne : (st2.isSome == st2.isNone) = false := by cases st2 <;> rfl
        obtain ⟨v9, hv9, -, -⟩ := Hnac51.out
        obtain ⟨ao9, cp9, rfl, -, -⟩ := hv9.2.1.shape
        have hk0 := (hv9.1.cell 0).trans rfl
        have hk1 := (hv9.1.cell 1).trans rfl
        have hk0' : World.cell? _ _ = some (.slice ao9 (st2.getD []).length cp9) := hk0
        have hk1' : World.cell? _ _ = some (.bool st2.isNone) := hk1
        clear hv9 hk0 hk1
        go_wp2_with fail
        have zdnac11 : ((nacw10).drew).heap.size = (nacw10).heap.size := rfl
        have Hnac58 := Lib.hid (Hnac52.out.mod ((Mod.refl (fun _ => False) nacw10).drew) (fun _ _ h => h))
        have Hnac59 := Lib.hid (HMnac56.out.trans ((Mod.refl (fun _ => False) _).drew) (fun _ _ h => h))
        have Hnac60 := Lib.hid (Hnac53.out.mod ((Mod.refl (fun _ => False) nacw10).drew) (fun _ _ h => h))
        have Hnac61 := Lib.hid (Hnac54.out.mod ((Mod.refl (fun _ => False) nacw10).drew) (fun _ _ h => h))
        have Hnac62 := Lib.hid (Hnac51.out.mod ((Mod.refl (fun _ => False) nacw10).drew) (fun _ _ h => h))
        have HTnac63 := Lib.hid (HTnac57.out.trans ((Mod.refl (fun _ => False) _).drew) (fun _ _ h => h.elim))
        have HKO := Lib.hid (OK_R Hnac61.out)
        have HKL := Lib.hid (Left_R Hnac61.out)
        go_region_held3 (fun w' => w'.cell? ⟨w4.heap.size, 0, none⟩ = some (.slice ao9 (st2.getD []).length cp9) ∧ w'.cell? ⟨w4.heap.size, 1, none⟩ = some (.bool st2.isNone)) (go_keep)
          (first | (go_at_call 47; go_must (refine (HKO.out).mono ?_); rintro e wx ⟨rfl, rfl⟩) | (go_at_call 52; go_must (refine (HKL.out).mono ?_); rintro e wx ⟨rfl, rfl⟩))
        go_wp2
        go_roundw
        case rel => exact ⟨i + 1, st2, by go_num, by omega, by omega, HST2.out, Hnac61.out, Hnac62.out, HTnac63.out⟩
        case measure => simp [intOf]; omega
      · have HST2 := Lib.hid (Nat.le_trans (rRow_len a.N st) HST.out)
        obtain ⟨p, hp⟩ : ∃ p, p = rRow a.N st := ⟨_, rfl⟩
        rw [← hp] at HST2
        have HP := Lib.hid hp
        clear hp
        obtain ⟨y, st2⟩ := p
        dsimp only at HST2
        go_wp2_with fail
        have zdnad8 : ((naw7).drew).heap.size = (naw7).heap.size := rfl
        have Hnad37 := Lib.hid (Hna31.out.mod ((Mod.refl (fun _ => False) naw7).drew) (fun _ _ h => h))
        have Hnad38 := Lib.hid (HMna35.out.trans ((Mod.refl (fun _ => False) _).drew) (fun _ _ h => h))
        have Hnad39 := Lib.hid (Hna32.out.mod ((Mod.refl (fun _ => False) naw7).drew) (fun _ _ h => h))
        have Hnad40 := Lib.hid (Hna33.out.mod ((Mod.refl (fun _ => False) naw7).drew) (fun _ _ h => h))
        have Hnad41 := Lib.hid (Hna34.out.mod ((Mod.refl (fun _ => False) naw7).drew) (fun _ _ h => h))
        have Hnad42 := Lib.hid (Hna29.out.mod ((Mod.refl (fun _ => False) naw7).drew) (fun _ _ h => h))
        have HTnad43 := Lib.hid (HTna36.out.trans ((Mod.refl (fun _ => False) _).drew) (fun _ _ h => h.elim))
        have hk1 := Hnad42.out.c1
        have K1 := RRow_R2 (most := a.N) Hnad40.out HAK.out.n HST.out (by omega)
        rw [← HP.out] at K1
        have HK1 := Lib.hid K1
        clear K1
        go_region_held3 (fun w' => w'.cell? ⟨wi.heap.size, 1, none⟩ = some (.int .i64 a.N)) (go_keep)
          (first | (go_at_call 51; go_must (refine (HK1.out).mono ?_); rintro e nadw9 ⟨v6, rfl, qrw, qr_, hm⟩; have znad9 := hm.size; have Hnad44 := Lib.hid (qrw.widen (R' := (fun k => ((naw7).drew.heap.size ≤ k ∧ k < nadw9.heap.size))) (by intro k h; unfold New at h; (try dsimp only at h); (try dsimp only); omega) (Nat.le_refl _)); have Hnad45 := Lib.hid qr_; have Hnad46 := Lib.hid (Hnad37.out.mod hm (by intro k h1 h2; (try dsimp only at h1 h2); omega)); have Hnad47 := Lib.hid (Hnad39.out.mod hm (by intro k h1 h2; (try dsimp only at h1 h2); omega)); have Hnad48 := Lib.hid (Hnad41.out.mod hm (by intro k h1 h2; (try dsimp only at h1 h2); omega)); have Hnad49 := Lib.hid (Hnad42.out.mod hm (by intro k h1 h2; (try dsimp only at h1 h2); omega)); have HMnad50 := Lib.hid (Hnad38.out.trans hm (by intro k h1 h2; (try dsimp only at h2); omega)); have HTnad51 := Lib.hid (HTnad43.out.trans hm (by intro k h1 h2; (try dsimp only at h2); (try dsimp only); omega)); clear hm qrw qr_ Hnad40 Hnad37 Hnad39 Hnad41 Hnad42 Hnad38 HTnad43; have hk2 := Hnad49.out.c1; have K2 := RefRRow_R (most := a.N) Hnad48.out HAK.out.n HST.out (by omega); rw [← HP.out] at K2; have HK2 := Lib.hid K2; clear K2) | (go_at_call 55; go_must (refine (HK2.out).mono ?_); rintro e nadw10 ⟨v7, rfl, qrv, qr_s, hm⟩; have znad10 := hm.size; have Hnad52 := Lib.hid (qrv.widen (R' := (fun k => (nadw9.heap.size ≤ k ∧ k < nadw10.heap.size))) (by intro k h; unfold New at h; (try dsimp only at h); (try dsimp only); omega) (Nat.le_refl _)); have Hnad53 := Lib.hid qr_s; have Hnad54 := Lib.hid (Hnad46.out.mod hm (by intro k h1 h2; (try dsimp only at h1 h2); omega)); have Hnad55 := Lib.hid (Hnad47.out.mod hm (by intro k h1 h2; (try dsimp only at h1 h2); omega)); have Hnad56 := Lib.hid (Hnad45.out.mod hm (by intro k h1 h2; (try dsimp only at h1 h2); omega)); have Hnad57 := Lib.hid (Hnad49.out.mod hm (by intro k h1 h2; (try dsimp only at h1 h2); omega)); have Hnad58 := Lib.hid (Hnad44.out.mod hm (by intro k h1 h2; (try dsimp only at h1 h2); omega)); have HMnad59 := Lib.hid (HMnad50.out.trans hm (by intro k h1 h2; (try dsimp only at h2); omega)); have HTnad60 := Lib.hid (HTnad51.out.trans hm (by intro k h1 h2; (try dsimp only at h2); (try dsimp only); omega)); clear hm qrv qr_s Hnad48 Hnad46 Hnad47 Hnad45 Hnad49 Hnad44 HMnad50 HTnad51; have hk3 := Hnad57.out.c1))
        have HS := Lib.hid (Same_R Hnad58.out.rd Hnad52.out.rd)
        rw [decide_eq_true rfl] at HS
        go_wp2_with fail
        refine (HS.out).mono ?_
        rintro e nadw11 ⟨rfl, hm⟩
        have znad11 := hm.size
        have Hnad61 := Lib.hid (Hnad54.out.mod hm (fun _ _ h => h))
        have Hnad62 := Lib.hid (Hnad55.out.mod hm (fun _ _ h => h))
        have Hnad63 := Lib.hid (Hnad56.out.mod hm (fun _ _ h => h))
        have Hnad64 := Lib.hid (Hnad53.out.mod hm (fun _ _ h => h))
        have Hnad65 := Lib.hid (Hnad58.out.mod hm (fun _ _ h => h))
        have Hnad66 := Lib.hid (Hnad52.out.mod hm (fun _ _ h => h))
        have HMnad67 := Lib.hid (HMnad59.out.trans hm (fun _ _ h => h))
        have HTnad68 := Lib.hid (HTnad60.out.trans hm (fun _ _ h => h.elim))
        clear hm Hnad54 Hnad55 Hnad56 Hnad53 Hnad58 Hnad52 HMnad59 HTnad60
        go_wp2_with fail
        refine (Spoil_R Hnad65.out).mono ?_
        rintro e nadw12 ⟨rfl, hm⟩
        have znad12 := hm.size
        have Hnad69 := Lib.hid (Hnad61.out.mod hm (by intro k h1 h2; (try dsimp only at h1 h2); omega))
        have Hnad70 := Lib.hid (Hnad62.out.mod hm (by intro k h1 h2; (try dsimp only at h1 h2); omega))
        have Hnad71 := Lib.hid (Hnad63.out.mod hm (by intro k h1 h2; (try dsimp only at h1 h2); omega))
        have Hnad72 := Lib.hid (Hnad64.out.mod hm (by intro k h1 h2; (try dsimp only at h1 h2); omega))
        have HMnad73 := Lib.hid (HMnad67.out.trans hm (by intro k h1 h2; (try dsimp only at h2); omega))
        have HTnad74 := Lib.hid (HTnad68.out.trans hm (by intro k h1 h2; (try dsimp only at h2); (try dsimp only); omega))
        clear hm Hnad61 Hnad62 Hnad63 Hnad64 HMnad67 HTnad68
        have hne : (st2.isSome == st2.isNone) = false := by cases st2 <;> rfl
        obtain ⟨v9, hv9, -, -⟩ := Hnad72.out
        obtain ⟨ao9, cp9, rfl, -, -⟩ := hv9.2.1.shape
        have hk0 := (hv9.1.cell 0).trans rfl
        have hk1 := (hv9.1.cell 1).trans rfl
        have hk0' : World.cell? _ _ = some (.slice ao9 (st2.getD []).length cp9) := hk0
        have hk1' : World.cell? _ _ = some (.bool st2.isNone) := hk1
        clear hv9 hk0 hk1
        go_wp2_with fail
        have zdnad13 : ((nadw12).drew).heap.size = (nadw12).heap.size := rfl
        have Hnad75 := Lib.hid (Hnad69.out.mod ((Mod.refl (fun _ => False) nadw12).drew) (fun _ _ h => h))
        have Hnad76 := Lib.hid (HMnad73.out.trans ((Mod.refl (fun _ => False) _).drew) (fun _ _ h => h))
        have Hnad77 := Lib.hid (Hnad70.out.mod ((Mod.refl (fun _ => False) nadw12).drew) (fun _ _ h => h))
        have Hnad78 := Lib.hid (Hnad71.out.mod ((Mod.refl (fun _ => False) nadw12).drew) (fun _ _ h => h))
        have Hnad79 := Lib.hid (Hnad72.out.mod ((Mod.refl (fun _ => False) nadw12).drew) (fun _ _ h => h))
        have HTnad80 := Lib.hid (HTnad74.out.trans ((Mod.refl (fun _ => False) _).drew) (fun _ _ h => h.elim))
        have HKO := Lib.hid (OK_R Hnad78.out)
        have HKL := Lib.hid (Left_R Hnad78.out)
        go_region_held3 (fun w' => w'.cell? ⟨w4.heap.size, 0, none⟩ = some (.slice ao9 (st2.getD []).length cp9) ∧ w'.cell? ⟨w4.heap.size, 1, none⟩ = some (.bool st2.isNone)) (go_keep)
          (first | (go_at_call 47; go_must (refine (HKO.out).mono ?_); rintro e wx ⟨rfl, rfl⟩) | (go_at_call 52; go_must (refine (HKL.out).mono ?_); rintro e wx ⟨rfl, rfl⟩))
        go_wp2
        go_roundw
        case rel => exact ⟨i + 1, st2, by go_num, by omega, by omega, HST2.out, Hnad78.out, Hnad79.out, HTnad80.out⟩
        case measure => simp [intOf]; omega
      · have HST2 := Lib.hid (Nat.le_trans (rHash_len st) HST.out)
        have K1 := RHash_R Hna33.out
        have hh32 := rHash_l st
        obtain ⟨p, hp⟩ : ∃ p, p = rHash st := ⟨_, rfl⟩
        rw [← hp] at K1 HST2 hh32
        have HP := Lib.hid hp
        obtain ⟨y, st2⟩ := p
        dsimp only at K1 HST2 hh32
        have heqH : ∀ w, (binOp .eql 39 (hv y) (hv y)).run Try.prog w = .ok (.bool true) w := fun w => by have := hv_eql hh32 hh32 w; rwa [decide_eq_true rfl] at this
        clear hh32
        have HK1 := Lib.hid K1
        clear K1 hp
        go_wp2_with fail
        refine (HK1.out).mono ?_
        rintro e naew8 ⟨rfl, qr_, hm⟩
        have znae8 := hm.size
        have Hnae37 := Lib.hid qr_
        have Hnae38 := Lib.hid (Hna31.out.mod hm (by intro k h1 h2; (try dsimp only at h1 h2); omega))
        have Hnae39 := Lib.hid (Hna32.out.mod hm (by intro k h1 h2; (try dsimp only at h1 h2); omega))
        have Hnae40 := Lib.hid (Hna34.out.mod hm (by intro k h1 h2; (try dsimp only at h1 h2); omega))
        have Hnae41 := Lib.hid (Hna29.out.mod hm (by intro k h1 h2; (try dsimp only at h1 h2); omega))
        have HMnae42 := Lib.hid (HMna35.out.trans hm (by intro k h1 h2; (try dsimp only at h2); omega))
        have HTnae43 := Lib.hid (HTna36.out.trans hm (by intro k h1 h2; (try dsimp only at h2); (try dsimp only); omega))
        clear hm qr_ Hna33 Hna31 Hna32 Hna34 Hna29 HMna35 HTna36
        have K2 := RefRHash_R Hnae40.out
        rw [← HP.out] at K2
        have HK2 := Lib.hid K2
        clear K2
        go_wp2_with fail
        refine (HK2.out).mono ?_
        rintro e naew9 ⟨rfl, qr_s, hm⟩
        have znae9 := hm.size
        have Hnae44 := Lib.hid qr_s
        have Hnae45 := Lib.hid (Hnae38.out.mod hm (by intro k h1 h2; (try dsimp only at h1 h2); omega))
        have Hnae46 := Lib.hid (Hnae39.out.mod hm (by intro k h1 h2; (try dsimp only at h1 h2); omega))
        have Hnae47 := Lib.hid (Hnae37.out.mod hm (by intro k h1 h2; (try dsimp only at h1 h2); omega))
        have Hnae48 := Lib.hid (Hnae41.out.mod hm (by intro k h1 h2; (try dsimp only at h1 h2); omega))
        have HMnae49 := Lib.hid (HMnae42.out.trans hm (by intro k h1 h2; (try dsimp only at h2); omega))
        have HTnae50 := Lib.hid (HTnae43.out.trans hm (by intro k h1 h2; (try dsimp only at h2); (try dsimp only); omega))
        clear hm qr_s Hnae40 Hnae38 Hnae39 Hnae37 Hnae41 HMnae42 HTnae43
        have hne : (st2.isSome == st2.isNone) = false := by cases st2 <;> rfl
        obtain ⟨v9, hv9, -, -⟩ := Hnae44.out
        obtain ⟨ao9, cp9, rfl, -, -⟩ := hv9.2.1.shape
        have hk0 := (hv9.1.cell 0).trans rfl
        have hk1 := (hv9.1.cell 1).trans rfl
        have hk0' : World.cell? _ _ = some (.slice ao9 (st2.getD []).length cp9) := hk0
        have hk1' : World.cell? _ _ = some (.bool st2.isNone) := hk1
        clear hv9 hk0 hk1
        go_wp2_with fail
        have zdnae10 : ((naew9).drew).heap.size = (naew9).heap.size := rfl
        have Hnae51 := Lib.hid (Hnae45.out.mod ((Mod.refl (fun _ => False) naew9).drew) (fun _ _ h => h))
        have Hnae52 := Lib.hid (HMnae49.out.trans ((Mod.refl (fun _ => False) _).drew) (fun _ _ h => h))
        have Hnae53 := Lib.hid (Hnae46.out.mod ((Mod.refl (fun _ => False) naew9).drew) (fun _ _ h => h))
        have Hnae54 := Lib.hid (Hnae47.out.mod ((Mod.refl (fun _ => False) naew9).drew) (fun _ _ h => h))
        have Hnae55 := Lib.hid (Hnae44.out.mod ((Mod.refl (fun _ => False) naew9).drew) (fun _ _ h => h))
        have HTnae56 := Lib.hid (HTnae50.out.trans ((Mod.refl (fun _ => False) _).drew) (fun _ _ h => h.elim))
        have HKO := Lib.hid (OK_R Hnae54.out)
        have HKL := Lib.hid (Left_R Hnae54.out)
        go_region_held3 (fun w' => w'.cell? ⟨w4.heap.size, 0, none⟩ = some (.slice ao9 (st2.getD []).length cp9) ∧ w'.cell? ⟨w4.heap.size, 1, none⟩ = some (.bool st2.isNone)) (go_keep)
          (first | (go_at_call 47; go_must (refine (HKO.out).mono ?_); rintro e wx ⟨rfl, rfl⟩) | (go_at_call 52; go_must (refine (HKL.out).mono ?_); rintro e wx ⟨rfl, rfl⟩))
        go_wp2
        go_roundw
        case rel => exact ⟨i + 1, st2, by go_num, by omega, by omega, HST2.out, Hnae54.out, Hnae55.out, HTnae56.out⟩
        case measure => simp [intOf]; omega
    all_goals
      go_wp2_with fail
      refine (Intact_R Hn27.out Hn26.out.rd).mono ?_
      rintro e nqw7 ⟨rfl, hm⟩
      have znq7 := hm.size
      have Hnq29 := Lib.hid (Hn26.out.mod hm (fun _ _ h => h))
      have Hnq30 := Lib.hid (Hn27.out.mod hm (fun _ _ h => h))
      have Hnq31 := Lib.hid (KR.out.mod hm (fun _ _ h => h))
      have Hnq32 := Lib.hid (KS.out.mod hm (fun _ _ h => h))
      have HMnq33 := Lib.hid (HMn28.out.trans hm (fun _ _ h => h))
      have HTnq34 := Lib.hid (KI.out.trans hm (fun _ _ h => h.elim))
      clear hm Hn26 Hn27 KR KS HMn28 KI
      go_wp2_with fail
      refine (wakes_R _).mono ?_
      rintro e nqw8 ⟨rfl, hm⟩
      have znq8 := hm.size
      have Hnq35 := Lib.hid (Hnq31.out.mod hm (fun _ _ h => h))
      have Hnq36 := Lib.hid (Hnq32.out.mod hm (fun _ _ h => h))
      have HMnq37 := Lib.hid (HMnq33.out.trans hm (fun _ _ h => h))
      have HTnq38 := Lib.hid (HTnq34.out.trans hm (fun _ _ h => h.elim))
      clear hm Hnq31 Hnq32 HMnq33 HTnq34
      go_wp2
      go_ret
      exact ⟨rfl, HMnq37.out⟩
end Go.Proofs.Ytceojplopbjokaa
