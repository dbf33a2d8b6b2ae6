/- CodeBack: the walk. -/
import Derived.Test.YtceojplopbjokaaPlain2
import Derived.Deep.RegionHeld3
set_option maxRecDepth 100000
set_option linter.unusedVariables false
namespace Go.Proofs.Ytceojplopbjokaa
open Go Go.RowKit Go.Gv

set_option maxHeartbeats 2000000 in
theorem CodeBack_walk (vl : Value) (l : List Act01) (cut : Int) (hcut : -9223372036854775808 ≤ cut ∧ cut ≤ 9223372036854775807) (w : World) (hl : RdA (fun k => k < w.heap.size) w vl l) (hok : ∀ a ∈ l, a.Ok w) :
    Calls Try.prog 13 #[vl, .int .i64 cut] w fun e w' => e = .returned (.bool true) ∧ Mod (fun _ => False) w w' := by
  obtain ⟨ao, cap, rfl, hlm⟩ := hl.shape
  rw [maxLen_val] at hlm
  have hrdeq := rd_eql
  have hgd := hv_guard
  have HL := Lib.hid hl
  have HOK := Lib.hid hok
  have HCUT := Lib.hid hcut
  clear hl hok hcut
  go_enter Try.func13, Try.ntmps13
  go_wp2_with fail
  refine (NewWriter_R _).mono ?_
  rintro e w1 ⟨b, rfl, qwr, hm⟩
  have z1 := hm.size
  have H1 := Lib.hid (qwr.widen (R' := (fun k => (w.heap.size ≤ k ∧ k < w1.heap.size))) (by intro k h; unfold New at h; (try dsimp only at h); (try dsimp only); omega) (Nat.le_refl _))
  have H2 := Lib.hid (HL.out.mod hm (fun _ _ h => h))
  have HM3 := Lib.hid ((Mod.refl (fun _ => False) w).trans hm (fun _ _ h => h))
  clear hm qwr HL
  go_wp2
  go_loopw [6] (fun t6 wa => ∃ i : Nat, t6 = .int .i64 i ∧ i ≤ 12 ∧ i ≤ l.length ∧ WrR (fun k => w.heap.size ≤ k ∧ k < wa.heap.size) (110 * i) wa b ((l.take i).flatMap (actB 1125899906842624 90)) ∧ Mod (fun k => (w.heap.size ≤ k ∧ k < w1.heap.size)) w1 wa) (fun t6 _ => l.length - (intOf t6).toNat)
  case atStart => exact ⟨0, rfl, by omega, by omega, H1.out, Mod.refl _ _⟩
  case round =>
    obtain ⟨wa, rfl⟩ : ∃ x, x = wr := ⟨_, rfl⟩
    obtain ⟨i, rfl, hi12, hil, hW, hm⟩ := hrel
    have KW := Lib.hid hW
    have KT := Lib.hid hm
    clear hW
    have z_wa := hm.size
    have Hr4 := Lib.hid (H2.out.mod hm (by intro k h1 h2; (try dsimp only at h1 h2); omega))
    have HMr5 := Lib.hid (HM3.out.trans hm (by intro k h1 h2; (try dsimp only at h2); omega))
    clear hm
    by_cases hc1 : i < l.length
    by_cases hc2 : i < 12
    · obtain ⟨gl, ol, rfl, hel⟩ := Hr4.out.at hc1
      have HSN := Lib.hid (flat_take_succ (actB 1125899906842624 90) l i hc1)
      have hak := HOK.out l[i] (List.getElem_mem hc1)
      generalize l[i] = a at *
      have HAK := Lib.hid hak
      clear hak
      have HEL := Lib.hid hel
      have HONE := Lib.hid (Act01.one HAK.out)
      clear hel
      go_wp2_with (first
        | ((with_reducible show wpList _ _ _ (Oper.mk (some 30) _ _ _ _ _ :: _) _ _); go_must (refine wpList_loadA rfl 41 (.tmp 29) rfl Try.underlying41 rfl (size_act _) rfl HEL.out ?_))
        | ((with_reducible show wpList _ _ _ (Oper.mk none (Op.store 41 (.tmp 7) (.tmp 30)) _ _ _ _ :: _) _ _); go_must (refine wpList_storeA rfl 41 (.tmp 7) (.tmp 30) rfl (Cs.new _ _ _) (vs := a.cells) (size_act _) HONE.out (by rw [a.len]; decide) rfl rfl ?_)))
      intro raw3 hcs hm1
      rw [lay_whole _ _ (by rw [a.len]; rfl)] at hcs
      have hm : Mod (fun _ => False) wa raw3 := ((Mod.refl (fun _ => False) _).alloc _).trans hm1 (by intro k h1 h2; omega)
      have zra3 := hm.size
      have Hra6 := Lib.hid (show LocA (fun k => (wa.heap.size ≤ k ∧ k < raw3.heap.size)) raw3 wa.heap.size a from ⟨hcs, Nat.le_refl _, hcs.lt⟩)
      have Hra7 := Lib.hid (Hr4.out.mod hm (fun _ _ h => h))
      have Hra8 := Lib.hid (KW.out.mod hm (fun _ _ h => h))
      have HMra9 := Lib.hid (HMr5.out.trans hm (fun _ _ h => h))
      have HTra10 := Lib.hid (KT.out.trans hm (fun _ _ h => h.elim))
      clear hcs hm1 hm
      have HA0 := Lib.hid (actB_0 (nm := 1125899906842624) (row := 90) (a := a))
      have HA1 := Lib.hid (actB_1 (nm := 1125899906842624) (row := 90) (a := a))
      have HA2 := Lib.hid (actB_2 (nm := 1125899906842624) (row := 90) (a := a))
      have HA3 := Lib.hid (actB_3 (nm := 1125899906842624) (row := 90) (a := a))
      obtain ⟨kn, hkn, hkl⟩ := within_nat a.N 1125899906842624 (by omega)
      have HKN := Lib.hid (Within_any a.N 1125899906842624 (by omega) (by omega) HAK.out.n)
      rw [hkn] at HKN HA1
      clear hkn
      rw [Int.toNat_natCast] at HA1
      have hm5 := within_range a.Do 4 (by omega)
      have HKW := Lib.hid (Within_any a.Do 4 (by omega) (by omega) HAK.out.d)
      generalize within a.Do 4 = m at *
      have hm : m = 0 ∨ m = 1 ∨ m = 2 ∨ m = 3 := by omega
      clear hm5
      have hc0 := Hra6.out.c0
      go_wp2_with fail
      refine (HKW.out _).mono ?_
      rintro e wx ⟨rfl, rfl⟩
      clear hc0
      rcases hm with rfl | rfl | rfl | rfl
      · have hc2' := Hra6.out.c2
        go_wp2_with fail
        refine (Num_R Hra8.out HAK.out.u (by omega)).mono ?_
        rintro e rabw4 ⟨rfl, qwr, hm⟩
        have zrab4 := hm.size
        have Hrab11 := Lib.hid (qwr.widen (R' := (fun k => (w.heap.size ≤ k ∧ k < wa.heap.size) ∨ (raw3.heap.size ≤ k ∧ k < rabw4.heap.size))) (by intro k h; unfold New at h; (try dsimp only at h); (try dsimp only); omega) (Nat.le_refl _))
        have Hrab12 := Lib.hid (Hra7.out.mod hm (by intro k h1 h2; (try dsimp only at h1 h2); omega))
        have Hrab13 := Lib.hid (Hra6.out.mod hm (by intro k h1 h2; (try dsimp only at h1 h2); omega))
        have HMrab14 := Lib.hid (HMra9.out.trans hm (by intro k h1 h2; (try dsimp only at h2); omega))
        have HTrab15 := Lib.hid (HTra10.out.trans hm (by intro k h1 h2; (try dsimp only at h2); (try dsimp only); omega))
        clear hm qwr Hra8 Hra7 Hra6 HMra9 HTra10
        go_wp2
        go_roundw
        case rel => exact ⟨i + 1, by go_num, by omega, by omega, by rw [HSN.out, HA0.out (by first | rfl | trivial)]; exact Hrab11.out.widen (by intro k h; (try dsimp only at h); (try dsimp only); omega) (by omega), HTrab15.out⟩
        case measure => simp [intOf]; omega
      · have hc1' := Hra6.out.c1
        go_wp2_with fail
        refine (HKN.out _).mono ?_
        rintro e wx ⟨rfl, rfl⟩
        go_wp2_with fail
        refine (WInt_R (n := (kn : Int)) Hra8.out (by omega) (by omega)).mono ?_
        rintro e racw4 ⟨rfl, qwr, hm⟩
        have zrac4 := hm.size
        have Hrac11 := Lib.hid (qwr.widen (R' := (fun k => (w.heap.size ≤ k ∧ k < wa.heap.size) ∨ (raw3.heap.size ≤ k ∧ k < racw4.heap.size))) (by intro k h; unfold New at h; (try dsimp only at h); (try dsimp only); omega) (Nat.le_refl _))
        have Hrac12 := Lib.hid (Hra7.out.mod hm (by intro k h1 h2; (try dsimp only at h1 h2); omega))
        have Hrac13 := Lib.hid (Hra6.out.mod hm (by intro k h1 h2; (try dsimp only at h1 h2); omega))
        have HMrac14 := Lib.hid (HMra9.out.trans hm (by intro k h1 h2; (try dsimp only at h2); omega))
        have HTrac15 := Lib.hid (HTra10.out.trans hm (by intro k h1 h2; (try dsimp only at h2); (try dsimp only); omega))
        clear hm qwr Hra8 Hra7 Hra6 HMra9 HTra10
        go_wp2
        go_roundw
        case rel => exact ⟨i + 1, by go_num, by omega, by omega, by rw [HSN.out, HA1.out (by first | rfl | trivial)]; exact Hrac11.out.widen (by intro k h; (try dsimp only at h); (try dsimp only); omega) (by omega), HTrac15.out⟩
        case measure => simp [intOf]; omega
      · have hc31 := Hra6.out.c3
        go_wp2_with fail
        refine (Cut_R 90 (HAK.out.b.mod HMra9.out (fun _ _ h => h)) (by omega)).mono ?_
        rintro e radw4 ⟨v1, rfl, qcut, hm⟩
        have zrad4 := hm.size
        have Hrad11 := Lib.hid (qcut.widen (R' := (fun k => (raw3.heap.size ≤ k ∧ k < radw4.heap.size))) (by intro k h; unfold New at h; (try dsimp only at h); (try dsimp only); omega) (Nat.le_refl _))
        have Hrad12 := Lib.hid (Hra7.out.mod hm (fun _ _ h => h))
        have Hrad13 := Lib.hid (Hra8.out.mod hm (fun _ _ h => h))
        have Hrad14 := Lib.hid (Hra6.out.mod hm (fun _ _ h => h))
        have HMrad15 := Lib.hid (HMra9.out.trans hm (fun _ _ h => h))
        have HTrad16 := Lib.hid (HTra10.out.trans hm (fun _ _ h => h.elim))
        clear hm qcut Hra7 Hra8 Hra6 HMra9 HTra10
        go_wp2_with fail
        refine (WRow_R Hrad13.out Hrad11.out.rd (by intro k h1 h2; (try dsimp only at h1 h2); omega) (by omega)).mono ?_
        rintro e radw5 ⟨rfl, qwr, hm⟩
        have zrad5 := hm.size
        have Hrad17 := Lib.hid (qwr.widen (R' := (fun k => (w.heap.size ≤ k ∧ k < wa.heap.size) ∨ (radw4.heap.size ≤ k ∧ k < radw5.heap.size))) (by intro k h; unfold New at h; (try dsimp only at h); (try dsimp only); omega) (Nat.le_refl _))
        have Hrad18 := Lib.hid (Hrad12.out.mod hm (by intro k h1 h2; (try dsimp only at h1 h2); omega))
        have Hrad19 := Lib.hid (Hrad14.out.mod hm (by intro k h1 h2; (try dsimp only at h1 h2); omega))
        have Hrad20 := Lib.hid (Hrad11.out.mod hm (by intro k h1 h2; (try dsimp only at h1 h2); omega))
        have HMrad21 := Lib.hid (HMrad15.out.trans hm (by intro k h1 h2; (try dsimp only at h2); omega))
        have HTrad22 := Lib.hid (HTrad16.out.trans hm (by intro k h1 h2; (try dsimp only at h2); (try dsimp only); omega))
        clear hm qwr Hrad13 Hrad12 Hrad14 Hrad11 HMrad15 HTrad16
        go_wp2
        go_roundw
        case rel => exact ⟨i + 1, by go_num, by omega, by omega, by rw [HSN.out, HA2.out (by first | rfl | trivial)]; exact Hrad17.out.widen (by intro k h; (try dsimp only at h); (try dsimp only); omega) (by omega), HTrad22.out⟩
        case measure => simp [intOf]; omega
      · have hch := Lib.hid (Hra6.out.ch HAK.out.h)
        go_wp2_with ((with_reducible show wpList _ _ _ (Oper.mk (some 36) _ _ _ _ _ :: _) _ _); go_must (refine wpList_loadA rfl 39 (.tmp 35) rfl Try.underlying39 rfl (cs := a.H.map bv) (by rw [List.length_map, HAK.out.h]; kernel_rfl) rfl hch.out ?_))
        refine (WHash_R Hra8.out HAK.out.h HAK.out.hb (by omega)).mono ?_
        rintro e raew4 ⟨rfl, qwr, hm⟩
        have zrae4 := hm.size
        have Hrae11 := Lib.hid (qwr.widen (R' := (fun k => (w.heap.size ≤ k ∧ k < wa.heap.size) ∨ (raw3.heap.size ≤ k ∧ k < raew4.heap.size))) (by intro k h; unfold New at h; (try dsimp only at h); (try dsimp only); omega) (Nat.le_refl _))
        have Hrae12 := Lib.hid (Hra7.out.mod hm (by intro k h1 h2; (try dsimp only at h1 h2); omega))
        have Hrae13 := Lib.hid (Hra6.out.mod hm (by intro k h1 h2; (try dsimp only at h1 h2); omega))
        have HMrae14 := Lib.hid (HMra9.out.trans hm (by intro k h1 h2; (try dsimp only at h2); omega))
        have HTrae15 := Lib.hid (HTra10.out.trans hm (by intro k h1 h2; (try dsimp only at h2); (try dsimp only); omega))
        clear hm qwr Hra8 Hra7 Hra6 HMra9 HTra10
        go_wp2
        go_roundw
        case rel => exact ⟨i + 1, by go_num, by omega, by omega, by rw [HSN.out, HA3.out (by first | rfl | trivial)]; exact Hrae11.out.widen (by intro k h; (try dsimp only at h); (try dsimp only); omega) (by omega), HTrae15.out⟩
        case measure => simp [intOf]; omega
    all_goals
      have hti : l.take i = l.take 12 := by
        by_cases h : i = 12
        · rw [h]
        · rw [List.take_of_length_le (by omega), List.take_of_length_le (by omega)]
      rw [hti] at KW
      have HW1 := Lib.hid (KW.out.widen (fun _ h => h) (show 110 * i ≤ 1320 by omega))
      obtain ⟨tot, htot⟩ : ∃ t, t = (l.take 12).flatMap (actB 1125899906842624 90) := ⟨_, rfl⟩
      rw [← htot] at HW1
      have HTOT := Lib.hid htot
      clear htot hti KW
      go_wp2_with fail
      (try clear hc2); (try clear hc1); clear hil hi12
      refine (WBytes_R HW1.out (by omega)).mono ?_
      rintro e rxw3 ⟨v1, rfl, qby, hm⟩
      have zrx3 := hm.size
      have Hrx6 := Lib.hid (qby.widen (R' := (fun k => (wa.heap.size ≤ k ∧ k < rxw3.heap.size))) (by intro k h; unfold New at h; (try dsimp only at h); (try dsimp only); omega) (Nat.le_refl _))
      have Hrx7 := Lib.hid (Hr4.out.mod hm (fun _ _ h => h))
      have Hrx8 := Lib.hid (HW1.out.mod hm (fun _ _ h => h))
      have HMrx9 := Lib.hid (HMr5.out.trans hm (fun _ _ h => h))
      have HTrx10 := Lib.hid (KT.out.trans hm (fun _ _ h => h.elim))
      clear hm qby Hr4 HW1 HMr5 KT
      go_wp2
      go_loopw [8, 9] (fun t8 t9 wo => ∃ (ro : Nat) (cs : List Int), t9 = .int .i64 ro ∧ ro ≤ 2 ∧ (ro = 0 → cs = tot) ∧ (ro = 1 → cs <+: tot ∧ cs.length < tot.length) ∧ RdR (fun k => (wa.heap.size ≤ k ∧ k < rxw3.heap.size)) 1320 wo t8 cs ∧ Mod (fun _ => False) rxw3 wo) (fun _ t9 _ => 2 - (intOf t9).toNat)
      case atStart => exact ⟨0, tot, rfl, by omega, fun _ => rfl, fun h => absurd h (by omega), Hrx6.out.rd, Mod.refl _ _⟩
      case round =>
        obtain ⟨wo, rfl⟩ : ∃ x, x = wr := ⟨_, rfl⟩
        obtain ⟨ro, cs, rfl, hr2, hr0, hr1, hB, hm⟩ := hrel
        obtain ⟨ab, cb, rfl⟩ := hB.shape
        have KB := Lib.hid hB
        have KO := Lib.hid hm
        clear hB
        have z_wo := hm.size
        have Hrxo11 := Lib.hid (Hrx7.out.mod hm (fun _ _ h => h))
        have HMrxo12 := Lib.hid (HMrx9.out.trans hm (fun _ _ h => h))
        clear hm
        have hro : ro = 0 ∨ ro = 1 ∨ ro = 2 := by omega
        rcases hro with rfl | rfl | rfl
        · obtain rfl := hr0 rfl
          clear hr0 hr1
          go_wp2_with fail
          refine (NewReader_R KB.out (by omega)).mono ?_
          rintro e rxopw5 ⟨rp, rfl, qr_, hm⟩
          have zrxop5 := hm.size
          have Hrxop13 := Lib.hid (qr_.widen (R' := (fun k => (wo.heap.size ≤ k ∧ k < rxopw5.heap.size))) (by intro k h; unfold New at h; (try dsimp only at h); (try dsimp only); omega))
          have Hrxop14 := Lib.hid (Hrxo11.out.mod hm (fun _ _ h => h))
          have Hrxop15 := Lib.hid (KB.out.mod hm (fun _ _ h => h))
          have HMrxop16 := Lib.hid (HMrxo12.out.trans hm (fun _ _ h => h))
          have HTrxop17 := Lib.hid (KO.out.trans hm (fun _ _ h => h.elim))
          clear hm qr_ Hrxo11 KB HMrxo12 KO
          go_wp2
          go_loopw [11] (fun t11 wi => ∃ (i : Nat) (s : RSt), t11 = .int .i64 i ∧ i ≤ 12 ∧ i ≤ l.length ∧ s = some (((l.take 12).drop i).flatMap (actB 1125899906842624 90)) ∧ RrR 87 (fun k => (wo.heap.size ≤ k ∧ k < rxopw5.heap.size)) wi rp s ∧ Mod (fun k => (wo.heap.size ≤ k ∧ k < rxopw5.heap.size)) rxopw5 wi) (fun t11 _ => l.length - (intOf t11).toNat)
          case atStart => exact ⟨0, _, rfl, by omega, by omega, by rw [HTOT.out]; rfl, Hrxop13.out, Mod.refl _ _⟩
          case round =>
            obtain ⟨wi, rfl⟩ : ∃ x, x = wr := ⟨_, rfl⟩
            obtain ⟨i, s, rfl, hi12, hil, hq, hR, hm⟩ := hrel
            have KR := Lib.hid hR
            have KI := Lib.hid hm
            have HQ := Lib.hid hq
            clear hR hq
            have z_wi := hm.size
            have Hrxopn18 := Lib.hid (Hrxop14.out.mod hm (by intro k h1 h2; (try dsimp only at h1 h2); omega))
            have Hrxopn19 := Lib.hid (Hrxop15.out.mod hm (by intro k h1 h2; (try dsimp only at h1 h2); omega))
            have HMrxopn20 := Lib.hid (HMrxop16.out.trans hm (by intro k h1 h2; (try dsimp only at h2); omega))
            have HTrxopn21 := Lib.hid (HTrxop17.out.trans hm (by intro k h1 h2; (try dsimp only at h2); (try dsimp only); omega))
            clear hm
            by_cases hc1 : i < l.length
            by_cases hc2 : i < 12
            · obtain ⟨gl, ol, hao, hel⟩ := Hrxopn18.out.at hc1
              first | subst hao | (cases hao)
              rw [flat_dropn (actB 1125899906842624 90) l 12 i hc1 hc2] at HQ
              have hak := HOK.out l[i] (List.getElem_mem hc1)
              generalize l[i] = a at *
              have HAK := Lib.hid hak
              clear hak
              have HEL := Lib.hid hel
              have HONE := Lib.hid (Act01.one HAK.out)
              clear hel
              go_wp2_with (first
                | ((with_reducible show wpList _ _ _ (Oper.mk (some 81) _ _ _ _ _ :: _) _ _); go_must (refine wpList_loadA rfl 41 (.tmp 80) rfl Try.underlying41 rfl (size_act _) rfl HEL.out ?_))
                | ((with_reducible show wpList _ _ _ (Oper.mk none (Op.store 41 (.tmp 12) (.tmp 81)) _ _ _ _ :: _) _ _); go_must (refine wpList_storeA rfl 41 (.tmp 12) (.tmp 81) rfl (Cs.new _ _ _) (vs := a.cells) (size_act _) HONE.out (by rw [a.len]; decide) rfl rfl ?_)))
              intro rxopnaw7 hcs hm1
              rw [lay_whole _ _ (by rw [a.len]; rfl)] at hcs
              have hm : Mod (fun _ => False) wi rxopnaw7 := ((Mod.refl (fun _ => False) _).alloc _).trans hm1 (by intro k h1 h2; omega)
              have zrxopna7 := hm.size
              have Hrxopna22 := Lib.hid (show LocA (fun k => (wi.heap.size ≤ k ∧ k < rxopnaw7.heap.size)) rxopnaw7 wi.heap.size a from ⟨hcs, Nat.le_refl _, hcs.lt⟩)
              have Hrxopna23 := Lib.hid (Hrxopn18.out.mod hm (fun _ _ h => h))
              have Hrxopna24 := Lib.hid (Hrxopn19.out.mod hm (fun _ _ h => h))
              have Hrxopna25 := Lib.hid (KR.out.mod hm (fun _ _ h => h))
              have HMrxopna26 := Lib.hid (HMrxopn20.out.trans hm (fun _ _ h => h))
              have HTrxopna27 := Lib.hid (HTrxopn21.out.trans hm (fun _ _ h => h.elim))
              have HTrxopna28 := Lib.hid (KI.out.trans hm (fun _ _ h => h.elim))
              clear hcs hm1 hm
              have HA0 := Lib.hid (actB_0 (nm := 1125899906842624) (row := 90) (a := a))
              have HA1 := Lib.hid (actB_1 (nm := 1125899906842624) (row := 90) (a := a))
              have HA2 := Lib.hid (actB_2 (nm := 1125899906842624) (row := 90) (a := a))
              have HA3 := Lib.hid (actB_3 (nm := 1125899906842624) (row := 90) (a := a))
              obtain ⟨kn, hkn, hkl⟩ := within_nat a.N 1125899906842624 (by omega)
              have HKN := Lib.hid (Within_any a.N 1125899906842624 (by omega) (by omega) HAK.out.n)
              rw [hkn] at HKN HA1
              clear hkn
              rw [Int.toNat_natCast] at HA1
              have hm5 := within_range a.Do 4 (by omega)
              have HKW := Lib.hid (Within_any a.Do 4 (by omega) (by omega) HAK.out.d)
              generalize within a.Do 4 = m at *
              have hm : m = 0 ∨ m = 1 ∨ m = 2 ∨ m = 3 := by omega
              clear hm5
              have hc0 := Hrxopna22.out.c0
              go_wp2_with fail
              refine (HKW.out _).mono ?_
              rintro e wx ⟨rfl, rfl⟩
              clear hc0
              rcases hm with rfl | rfl | rfl | rfl
              · rw [HA0.out (by first | rfl | trivial)] at HQ
                go_wp2_with fail
                have Hrxopnab29 := Lib.hid (Hrxopna23.out.mod ((Mod.refl (fun _ => False) rxopnaw7).drew) (fun _ _ h => h))
                have Hrxopnab30 := Lib.hid (HMrxopna26.out.trans ((Mod.refl (fun _ => False) _).drew) (fun _ _ h => h))
                have Hrxopnab31 := Lib.hid (Hrxopna24.out.mod ((Mod.refl (fun _ => False) rxopnaw7).drew) (fun _ _ h => h))
                have Hrxopnab32 := Lib.hid (Hrxopna25.out.mod ((Mod.refl (fun _ => False) rxopnaw7).drew) (fun _ _ h => h))
                have Hrxopnab33 := Lib.hid (Hrxopna22.out.mod ((Mod.refl (fun _ => False) rxopnaw7).drew) (fun _ _ h => h))
                have HTrxopnab34 := Lib.hid (HTrxopna27.out.trans ((Mod.refl (fun _ => False) _).drew) (fun _ _ h => h.elim))
                have HTrxopnab35 := Lib.hid (HTrxopna28.out.trans ((Mod.refl (fun _ => False) _).drew) (fun _ _ h => h.elim))
                have K := RNum_R Hrxopnab32.out
                rw [HQ.out, rNum_enc HAK.out.u] at K
                have HK := Lib.hid K
                clear K
                have hk1 := Hrxopnab33.out.c2
                go_region_held3 (fun w' => w'.cell? ⟨wi.heap.size, 2, none⟩ = some (.int .u64 a.U)) (go_keep)
                  (first | (go_at_call 46; go_must (refine (HK.out).mono ?_); rintro e rxopnabw9 ⟨rfl, qr_, hm⟩; have zrxopnab9 := hm.size; have Hrxopnab36 := Lib.hid qr_; have Hrxopnab37 := Lib.hid (Hrxopnab29.out.mod hm (by intro k h1 h2; (try dsimp only at h1 h2); omega)); have Hrxopnab38 := Lib.hid (Hrxopnab31.out.mod hm (by intro k h1 h2; (try dsimp only at h1 h2); omega)); have Hrxopnab39 := Lib.hid (Hrxopnab33.out.mod hm (by intro k h1 h2; (try dsimp only at h1 h2); omega)); have HMrxopnab40 := Lib.hid (Hrxopnab30.out.trans hm (by intro k h1 h2; (try dsimp only at h2); omega)); have HTrxopnab41 := Lib.hid (HTrxopnab34.out.trans hm (by intro k h1 h2; (try dsimp only at h2); (try dsimp only); omega)); have HTrxopnab42 := Lib.hid (HTrxopnab35.out.trans hm (by intro k h1 h2; (try dsimp only at h2); (try dsimp only); omega)); clear hm qr_ Hrxopnab32 Hrxopnab29 Hrxopnab31 Hrxopnab33 Hrxopnab30 HTrxopnab34 HTrxopnab35; have hk2 := Hrxopnab39.out.c2))
                go_wp2
                all_goals
                  go_roundw
                  case rel => exact ⟨i + 1, _, by go_num, by omega, by omega, rfl, Hrxopnab36.out, HTrxopnab42.out⟩
                  case measure => simp [intOf]; omega
              · rw [HA1.out (by first | rfl | trivial)] at HQ
                go_wp2_with fail
                have Hrxopnac29 := Lib.hid (Hrxopna23.out.mod ((Mod.refl (fun _ => False) rxopnaw7).drew) (fun _ _ h => h))
                have Hrxopnac30 := Lib.hid (HMrxopna26.out.trans ((Mod.refl (fun _ => False) _).drew) (fun _ _ h => h))
                have Hrxopnac31 := Lib.hid (Hrxopna24.out.mod ((Mod.refl (fun _ => False) rxopnaw7).drew) (fun _ _ h => h))
                have Hrxopnac32 := Lib.hid (Hrxopna25.out.mod ((Mod.refl (fun _ => False) rxopnaw7).drew) (fun _ _ h => h))
                have Hrxopnac33 := Lib.hid (Hrxopna22.out.mod ((Mod.refl (fun _ => False) rxopnaw7).drew) (fun _ _ h => h))
                have HTrxopnac34 := Lib.hid (HTrxopna27.out.trans ((Mod.refl (fun _ => False) _).drew) (fun _ _ h => h.elim))
                have HTrxopnac35 := Lib.hid (HTrxopna28.out.trans ((Mod.refl (fun _ => False) _).drew) (fun _ _ h => h.elim))
                have K := RInt_R (most := 1125899906842624) Hrxopnac32.out (by omega)
                rw [HQ.out, rInt_enc (by unfold U64; omega), if_neg (by omega)] at K
                have HK := Lib.hid K
                clear K
                have hk1 := Hrxopnac33.out.c1
                go_region_held3 (fun w' => w'.cell? ⟨wi.heap.size, 1, none⟩ = some (.int .i64 a.N)) (go_keep)
                  (first | (go_at_call 48; go_must (refine (HK.out).mono ?_); rintro e rxopnacw9 ⟨rfl, qr_, hm⟩; have zrxopnac9 := hm.size; have Hrxopnac36 := Lib.hid qr_; have Hrxopnac37 := Lib.hid (Hrxopnac29.out.mod hm (by intro k h1 h2; (try dsimp only at h1 h2); omega)); have Hrxopnac38 := Lib.hid (Hrxopnac31.out.mod hm (by intro k h1 h2; (try dsimp only at h1 h2); omega)); have Hrxopnac39 := Lib.hid (Hrxopnac33.out.mod hm (by intro k h1 h2; (try dsimp only at h1 h2); omega)); have HMrxopnac40 := Lib.hid (Hrxopnac30.out.trans hm (by intro k h1 h2; (try dsimp only at h2); omega)); have HTrxopnac41 := Lib.hid (HTrxopnac34.out.trans hm (by intro k h1 h2; (try dsimp only at h2); (try dsimp only); omega)); have HTrxopnac42 := Lib.hid (HTrxopnac35.out.trans hm (by intro k h1 h2; (try dsimp only at h2); (try dsimp only); omega)); clear hm qr_ Hrxopnac32 Hrxopnac29 Hrxopnac31 Hrxopnac33 Hrxopnac30 HTrxopnac34 HTrxopnac35; have hk2 := Hrxopnac39.out.c1) | (go_at_call 15; go_must (refine (HKN.out _).mono ?_); rintro e wx ⟨rfl, rfl⟩))
                go_wp2
                all_goals
                  go_roundw
                  case rel => exact ⟨i + 1, _, by go_num, by omega, by omega, rfl, Hrxopnac36.out, HTrxopnac42.out⟩
                  case measure => simp [intOf]; omega
              · rw [HA2.out (by first | rfl | trivial)] at HQ
                go_wp2_with fail
                have Hrxopnad29 := Lib.hid (Hrxopna23.out.mod ((Mod.refl (fun _ => False) rxopnaw7).drew) (fun _ _ h => h))
                have Hrxopnad30 := Lib.hid (HMrxopna26.out.trans ((Mod.refl (fun _ => False) _).drew) (fun _ _ h => h))
                have Hrxopnad31 := Lib.hid (Hrxopna24.out.mod ((Mod.refl (fun _ => False) rxopnaw7).drew) (fun _ _ h => h))
                have Hrxopnad32 := Lib.hid (Hrxopna25.out.mod ((Mod.refl (fun _ => False) rxopnaw7).drew) (fun _ _ h => h))
                have Hrxopnad33 := Lib.hid (Hrxopna22.out.mod ((Mod.refl (fun _ => False) rxopnaw7).drew) (fun _ _ h => h))
                have HTrxopnad34 := Lib.hid (HTrxopna27.out.trans ((Mod.refl (fun _ => False) _).drew) (fun _ _ h => h.elim))
                have HTrxopnad35 := Lib.hid (HTrxopna28.out.trans ((Mod.refl (fun _ => False) _).drew) (fun _ _ h => h.elim))
                have K := RRow_R (most := 100) Hrxopnad32.out (by omega)
                rw [HQ.out, rRow_encA (by simp; unfold U64; omega), if_neg (by simp; omega)] at K
                have HK := Lib.hid K
                clear K
                have hk1 := Hrxopnad33.out.c3
                go_region_held3 (fun w' => w'.cell? ⟨wi.heap.size, 3, none⟩ = some a.VB) (go_keep)
                  (first | (go_at_call 51; go_must (refine (HK.out).mono ?_); rintro e rxopnadw9 ⟨v6, rfl, qrw, qr_, hm⟩; have zrxopnad9 := hm.size; have Hrxopnad36 := Lib.hid (qrw.widen (R' := (fun k => ((rxopnaw7).drew.heap.size ≤ k ∧ k < rxopnadw9.heap.size))) (by intro k h; unfold New at h; (try dsimp only at h); (try dsimp only); omega) (Nat.le_refl _)); have Hrxopnad37 := Lib.hid qr_; have Hrxopnad38 := Lib.hid (Hrxopnad29.out.mod hm (by intro k h1 h2; (try dsimp only at h1 h2); omega)); have Hrxopnad39 := Lib.hid (Hrxopnad31.out.mod hm (by intro k h1 h2; (try dsimp only at h1 h2); omega)); have Hrxopnad40 := Lib.hid (Hrxopnad33.out.mod hm (by intro k h1 h2; (try dsimp only at h1 h2); omega)); have HMrxopnad41 := Lib.hid (Hrxopnad30.out.trans hm (by intro k h1 h2; (try dsimp only at h2); omega)); have HTrxopnad42 := Lib.hid (HTrxopnad34.out.trans hm (by intro k h1 h2; (try dsimp only at h2); (try dsimp only); omega)); have HTrxopnad43 := Lib.hid (HTrxopnad35.out.trans hm (by intro k h1 h2; (try dsimp only at h2); (try dsimp only); omega)); clear hm qrw qr_ Hrxopnad32 Hrxopnad29 Hrxopnad31 Hrxopnad33 Hrxopnad30 HTrxopnad34 HTrxopnad35; have hk2 := Hrxopnad40.out.c3; have HBB := Lib.hid (HAK.out.b.mod HMrxopnad41.out (fun _ _ h => h))) | (go_at_call 25; go_must (refine (Cut_R 90 HBB.out (by omega)).mono ?_); rintro e rxopnadw10 ⟨v7, rfl, qct, hm⟩; have zrxopnad10 := hm.size; have Hrxopnad44 := Lib.hid (qct.widen (R' := (fun k => (rxopnadw9.heap.size ≤ k ∧ k < rxopnadw10.heap.size))) (by intro k h; unfold New at h; (try dsimp only at h); (try dsimp only); omega) (Nat.le_refl _)); have Hrxopnad45 := Lib.hid (Hrxopnad38.out.mod hm (fun _ _ h => h)); have Hrxopnad46 := Lib.hid (Hrxopnad39.out.mod hm (fun _ _ h => h)); have Hrxopnad47 := Lib.hid (Hrxopnad37.out.mod hm (fun _ _ h => h)); have Hrxopnad48 := Lib.hid (Hrxopnad40.out.mod hm (fun _ _ h => h)); have Hrxopnad49 := Lib.hid (Hrxopnad36.out.mod hm (fun _ _ h => h)); have HMrxopnad50 := Lib.hid (HMrxopnad41.out.trans hm (fun _ _ h => h)); have HTrxopnad51 := Lib.hid (HTrxopnad42.out.trans hm (fun _ _ h => h.elim)); have HTrxopnad52 := Lib.hid (HTrxopnad43.out.trans hm (fun _ _ h => h.elim)); clear hm qct Hrxopnad38 Hrxopnad39 Hrxopnad37 Hrxopnad40 Hrxopnad36 HMrxopnad41 HTrxopnad42 HTrxopnad43; have hk3 := Hrxopnad48.out.c3; have HS := Same_R Hrxopnad49.out.rd Hrxopnad44.out.rd; rw [decide_eq_true rfl] at HS; have HSH := Lib.hid HS; clear HS) | (go_at_call 23; go_must (refine (HSH.out).mono ?_); rintro e rxopnadw11 ⟨rfl, hm⟩; have zrxopnad11 := hm.size; have Hrxopnad53 := Lib.hid (Hrxopnad45.out.mod hm (fun _ _ h => h)); have Hrxopnad54 := Lib.hid (Hrxopnad46.out.mod hm (fun _ _ h => h)); have Hrxopnad55 := Lib.hid (Hrxopnad47.out.mod hm (fun _ _ h => h)); have Hrxopnad56 := Lib.hid (Hrxopnad48.out.mod hm (fun _ _ h => h)); have Hrxopnad57 := Lib.hid (Hrxopnad49.out.mod hm (fun _ _ h => h)); have Hrxopnad58 := Lib.hid (Hrxopnad44.out.mod hm (fun _ _ h => h)); have HMrxopnad59 := Lib.hid (HMrxopnad50.out.trans hm (fun _ _ h => h)); have HTrxopnad60 := Lib.hid (HTrxopnad51.out.trans hm (fun _ _ h => h.elim)); have HTrxopnad61 := Lib.hid (HTrxopnad52.out.trans hm (fun _ _ h => h.elim)); clear hm Hrxopnad45 Hrxopnad46 Hrxopnad47 Hrxopnad48 Hrxopnad49 Hrxopnad44 HMrxopnad50 HTrxopnad51 HTrxopnad52; have hk4 := Hrxopnad56.out.c3))
                go_wp2
                all_goals
                  go_roundw
                  case rel => exact ⟨i + 1, _, by go_num, by omega, by omega, rfl, Hrxopnad55.out, HTrxopnad61.out⟩
                  case measure => simp [intOf]; omega
              · rw [HA3.out (by first | rfl | trivial)] at HQ
                have hui := Try.underlying39
                have hsz : (Try.prog.info? 39).map (·.size) = some (a.H.map bv).length := by rw [List.length_map, HAK.out.h]; kernel_rfl
                go_wp2_with fail
                have Hrxopnae29 := Lib.hid (Hrxopna23.out.mod ((Mod.refl (fun _ => False) rxopnaw7).drew) (fun _ _ h => h))
                have Hrxopnae30 := Lib.hid (HMrxopna26.out.trans ((Mod.refl (fun _ => False) _).drew) (fun _ _ h => h))
                have Hrxopnae31 := Lib.hid (Hrxopna24.out.mod ((Mod.refl (fun _ => False) rxopnaw7).drew) (fun _ _ h => h))
                have Hrxopnae32 := Lib.hid (Hrxopna25.out.mod ((Mod.refl (fun _ => False) rxopnaw7).drew) (fun _ _ h => h))
                have Hrxopnae33 := Lib.hid (Hrxopna22.out.mod ((Mod.refl (fun _ => False) rxopnaw7).drew) (fun _ _ h => h))
                have HTrxopnae34 := Lib.hid (HTrxopna27.out.trans ((Mod.refl (fun _ => False) _).drew) (fun _ _ h => h.elim))
                have HTrxopnae35 := Lib.hid (HTrxopna28.out.trans ((Mod.refl (fun _ => False) _).drew) (fun _ _ h => h.elim))
                have K := RHash_R Hrxopnae32.out
                rw [HQ.out, rHash_app HAK.out.h] at K
                have HK := Lib.hid K
                clear K
                have heqH : ∀ w, (binOp .eql 39 (hv a.H) (.agg (a.H.map bv).toArray)).run Try.prog w = .ok (.bool true) w := fun w => by have := hv_eql HAK.out.h HAK.out.h w; rwa [decide_eq_true rfl] at this
                have hk1 : World.rangeAt _ _ _ _ := Hrxopnae33.out.ch HAK.out.h
                go_region_held3 (fun w' => w'.rangeAt wi.heap.size 4 (a.H.map bv)) (go_keep)
                  (first | (go_at_call 56; go_must (refine (HK.out).mono ?_); rintro e rxopnaew9 ⟨rfl, qr_, hm⟩; have zrxopnae9 := hm.size; have Hrxopnae36 := Lib.hid qr_; have Hrxopnae37 := Lib.hid (Hrxopnae29.out.mod hm (by intro k h1 h2; (try dsimp only at h1 h2); omega)); have Hrxopnae38 := Lib.hid (Hrxopnae31.out.mod hm (by intro k h1 h2; (try dsimp only at h1 h2); omega)); have Hrxopnae39 := Lib.hid (Hrxopnae33.out.mod hm (by intro k h1 h2; (try dsimp only at h1 h2); omega)); have HMrxopnae40 := Lib.hid (Hrxopnae30.out.trans hm (by intro k h1 h2; (try dsimp only at h2); omega)); have HTrxopnae41 := Lib.hid (HTrxopnae34.out.trans hm (by intro k h1 h2; (try dsimp only at h2); (try dsimp only); omega)); have HTrxopnae42 := Lib.hid (HTrxopnae35.out.trans hm (by intro k h1 h2; (try dsimp only at h2); (try dsimp only); omega)); clear hm qr_ Hrxopnae32 Hrxopnae29 Hrxopnae31 Hrxopnae33 Hrxopnae30 HTrxopnae34 HTrxopnae35; have hk2 : World.rangeAt _ _ _ _ := Hrxopnae39.out.ch HAK.out.h))
                go_wp2
                all_goals
                  go_roundw
                  case rel => exact ⟨i + 1, _, by go_num, by omega, by omega, rfl, Hrxopnae36.out, HTrxopnae42.out⟩
                  case measure => simp [intOf]; omega
            all_goals
              rw [List.drop_of_length_le (by simp; omega)] at HQ
              have hs : s = some [] := HQ.out
              rw [hs] at KR
              clear hs
              go_wp2_with fail
              refine (OK_R KR.out).mono ?_
              rintro e wx ⟨rfl, rfl⟩
              go_wp2_with fail
              refine (Left_R KR.out).mono ?_
              rintro e wx ⟨rfl, rfl⟩
              by_cases h0 : cs.length = 0
              · go_wp2_with fail
                refine (wakes_R _).mono ?_
                rintro e rxopnzyw7 ⟨rfl, hm⟩
                have zrxopnzy7 := hm.size
                have Hrxopnzy22 := Lib.hid (Hrxopn18.out.mod hm (fun _ _ h => h))
                have Hrxopnzy23 := Lib.hid (Hrxopn19.out.mod hm (fun _ _ h => h))
                have HMrxopnzy24 := Lib.hid (HMrxopn20.out.trans hm (fun _ _ h => h))
                have HTrxopnzy25 := Lib.hid (HTrxopn21.out.trans hm (fun _ _ h => h.elim))
                have HTrxopnzy26 := Lib.hid (KI.out.trans hm (fun _ _ h => h.elim))
                clear hm Hrxopn18 Hrxopn19 HMrxopn20 HTrxopn21 KI
                go_wp2
                go_ret
                exact ⟨rfl, HMrxopnzy24.out⟩
              · have hlb := Hrxopn19.out.1.len
                rw [maxLen_val] at hlb
                have hlc := Hrxopn19.out.2.2
                obtain ⟨kk, hkk, hkl⟩ := within_nat cut cs.length (by omega)
                have HKK := Lib.hid (Within_any cut cs.length (by omega) (by omega) HCUT.out)
                rw [hkk] at HKK
                clear hkk
                go_wp2_with fail
                refine (HKK.out _).mono ?_
                rintro e wx ⟨rfl, rfl⟩
                go_wp2
                go_roundw
                case rel => exact ⟨1, cs.take kk, by go_num, by omega, fun h => absurd h (by omega), fun _ => ⟨List.take_prefix kk cs, by simp; omega⟩, Hrxopn19.out.upto kk (by omega), HTrxopn21.out⟩
                case measure => simp [intOf]
        · have HPR := Lib.hid (hr1 rfl)
          clear hr0 hr1
          go_wp2_with fail
          refine (NewReader_R KB.out (by omega)).mono ?_
          rintro e rxoqw5 ⟨rp, rfl, qr_, hm⟩
          have zrxoq5 := hm.size
          have Hrxoq13 := Lib.hid (qr_.widen (R' := (fun k => (wo.heap.size ≤ k ∧ k < rxoqw5.heap.size))) (by intro k h; unfold New at h; (try dsimp only at h); (try dsimp only); omega))
          have Hrxoq14 := Lib.hid (Hrxo11.out.mod hm (fun _ _ h => h))
          have Hrxoq15 := Lib.hid (KB.out.mod hm (fun _ _ h => h))
          have HMrxoq16 := Lib.hid (HMrxo12.out.trans hm (fun _ _ h => h))
          have HTrxoq17 := Lib.hid (KO.out.trans hm (fun _ _ h => h.elim))
          clear hm qr_ Hrxo11 KB HMrxo12 KO
          go_wp2
          go_loopw [11] (fun t11 wi => ∃ (i : Nat) (s : RSt), t11 = .int .i64 i ∧ i ≤ 12 ∧ i ≤ l.length ∧ SP s (((l.take 12).drop i).flatMap (actB 1125899906842624 90)) ∧ RrR 87 (fun k => (wo.heap.size ≤ k ∧ k < rxoqw5.heap.size)) wi rp s ∧ Mod (fun k => (wo.heap.size ≤ k ∧ k < rxoqw5.heap.size)) rxoqw5 wi) (fun t11 _ => l.length - (intOf t11).toNat)
          case atStart => exact ⟨0, _, rfl, by omega, by omega, .inr ⟨cs, rfl, by have := HPR.out; rw [HTOT.out] at this; exact this⟩, Hrxoq13.out, Mod.refl _ _⟩
          case round =>
            obtain ⟨wi, rfl⟩ : ∃ x, x = wr := ⟨_, rfl⟩
            obtain ⟨i, s, rfl, hi12, hil, hq, hR, hm⟩ := hrel
            have KR := Lib.hid hR
            have KI := Lib.hid hm
            have HQ := Lib.hid hq
            clear hR hq
            have z_wi := hm.size
            have Hrxoqn18 := Lib.hid (Hrxoq14.out.mod hm (by intro k h1 h2; (try dsimp only at h1 h2); omega))
            have Hrxoqn19 := Lib.hid (Hrxoq15.out.mod hm (by intro k h1 h2; (try dsimp only at h1 h2); omega))
            have HMrxoqn20 := Lib.hid (HMrxoq16.out.trans hm (by intro k h1 h2; (try dsimp only at h2); omega))
            have HTrxoqn21 := Lib.hid (HTrxoq17.out.trans hm (by intro k h1 h2; (try dsimp only at h2); (try dsimp only); omega))
            clear hm
            by_cases hc1 : i < l.length
            by_cases hc2 : i < 12
            · obtain ⟨gl, ol, hao, hel⟩ := Hrxoqn18.out.at hc1
              first | subst hao | (cases hao)
              rw [flat_dropn (actB 1125899906842624 90) l 12 i hc1 hc2] at HQ
              have hak := HOK.out l[i] (List.getElem_mem hc1)
              generalize l[i] = a at *
              have HAK := Lib.hid hak
              clear hak
              have HEL := Lib.hid hel
              have HONE := Lib.hid (Act01.one HAK.out)
              clear hel
              go_wp2_with (first
                | ((with_reducible show wpList _ _ _ (Oper.mk (some 81) _ _ _ _ _ :: _) _ _); go_must (refine wpList_loadA rfl 41 (.tmp 80) rfl Try.underlying41 rfl (size_act _) rfl HEL.out ?_))
                | ((with_reducible show wpList _ _ _ (Oper.mk none (Op.store 41 (.tmp 12) (.tmp 81)) _ _ _ _ :: _) _ _); go_must (refine wpList_storeA rfl 41 (.tmp 12) (.tmp 81) rfl (Cs.new _ _ _) (vs := a.cells) (size_act _) HONE.out (by rw [a.len]; decide) rfl rfl ?_)))
              intro rxoqnaw7 hcs hm1
              rw [lay_whole _ _ (by rw [a.len]; rfl)] at hcs
              have hm : Mod (fun _ => False) wi rxoqnaw7 := ((Mod.refl (fun _ => False) _).alloc _).trans hm1 (by intro k h1 h2; omega)
              have zrxoqna7 := hm.size
              have Hrxoqna22 := Lib.hid (show LocA (fun k => (wi.heap.size ≤ k ∧ k < rxoqnaw7.heap.size)) rxoqnaw7 wi.heap.size a from ⟨hcs, Nat.le_refl _, hcs.lt⟩)
              have Hrxoqna23 := Lib.hid (Hrxoqn18.out.mod hm (fun _ _ h => h))
              have Hrxoqna24 := Lib.hid (Hrxoqn19.out.mod hm (fun _ _ h => h))
              have Hrxoqna25 := Lib.hid (KR.out.mod hm (fun _ _ h => h))
              have HMrxoqna26 := Lib.hid (HMrxoqn20.out.trans hm (fun _ _ h => h))
              have HTrxoqna27 := Lib.hid (HTrxoqn21.out.trans hm (fun _ _ h => h.elim))
              have HTrxoqna28 := Lib.hid (KI.out.trans hm (fun _ _ h => h.elim))
              clear hcs hm1 hm
              have HA0 := Lib.hid (actB_0 (nm := 1125899906842624) (row := 90) (a := a))
              have HA1 := Lib.hid (actB_1 (nm := 1125899906842624) (row := 90) (a := a))
              have HA2 := Lib.hid (actB_2 (nm := 1125899906842624) (row := 90) (a := a))
              have HA3 := Lib.hid (actB_3 (nm := 1125899906842624) (row := 90) (a := a))
              obtain ⟨kn, hkn, hkl⟩ := within_nat a.N 1125899906842624 (by omega)
              have HKN := Lib.hid (Within_any a.N 1125899906842624 (by omega) (by omega) HAK.out.n)
              rw [hkn] at HKN HA1
              clear hkn
              rw [Int.toNat_natCast] at HA1
              have hm5 := within_range a.Do 4 (by omega)
              have HKW := Lib.hid (Within_any a.Do 4 (by omega) (by omega) HAK.out.d)
              generalize within a.Do 4 = m at *
              have hm : m = 0 ∨ m = 1 ∨ m = 2 ∨ m = 3 := by omega
              clear hm5
              have hc0 := Hrxoqna22.out.c0
              go_wp2_with fail
              refine (HKW.out _).mono ?_
              rintro e wx ⟨rfl, rfl⟩
              clear hc0
              rcases hm with rfl | rfl | rfl | rfl
              · rw [HA0.out (by first | rfl | trivial)] at HQ
                go_wp2_with fail
                have Hrxoqnab29 := Lib.hid (Hrxoqna23.out.mod ((Mod.refl (fun _ => False) rxoqnaw7).drew) (fun _ _ h => h))
                have Hrxoqnab30 := Lib.hid (HMrxoqna26.out.trans ((Mod.refl (fun _ => False) _).drew) (fun _ _ h => h))
                have Hrxoqnab31 := Lib.hid (Hrxoqna24.out.mod ((Mod.refl (fun _ => False) rxoqnaw7).drew) (fun _ _ h => h))
                have Hrxoqnab32 := Lib.hid (Hrxoqna25.out.mod ((Mod.refl (fun _ => False) rxoqnaw7).drew) (fun _ _ h => h))
                have Hrxoqnab33 := Lib.hid (Hrxoqna22.out.mod ((Mod.refl (fun _ => False) rxoqnaw7).drew) (fun _ _ h => h))
                have HTrxoqnab34 := Lib.hid (HTrxoqna27.out.trans ((Mod.refl (fun _ => False) _).drew) (fun _ _ h => h.elim))
                have HTrxoqnab35 := Lib.hid (HTrxoqna28.out.trans ((Mod.refl (fun _ => False) _).drew) (fun _ _ h => h.elim))
                have K := RNum_R Hrxoqnab32.out
                have HQ2 := Lib.hid ((SP.num HAK.out.u HQ.out).1)
                have HK := Lib.hid K
                clear K
                have hk1 := Hrxoqnab33.out.c2
                go_region_held3 (fun w' => w'.cell? ⟨wi.heap.size, 2, none⟩ = some (.int .u64 a.U)) (go_keep)
                  (first | (go_at_call 46; go_must (refine (HK.out).mono ?_); rintro e rxoqnabw9 ⟨rfl, qr_, hm⟩; have zrxoqnab9 := hm.size; have Hrxoqnab36 := Lib.hid qr_; have Hrxoqnab37 := Lib.hid (Hrxoqnab29.out.mod hm (by intro k h1 h2; (try dsimp only at h1 h2); omega)); have Hrxoqnab38 := Lib.hid (Hrxoqnab31.out.mod hm (by intro k h1 h2; (try dsimp only at h1 h2); omega)); have Hrxoqnab39 := Lib.hid (Hrxoqnab33.out.mod hm (by intro k h1 h2; (try dsimp only at h1 h2); omega)); have HMrxoqnab40 := Lib.hid (Hrxoqnab30.out.trans hm (by intro k h1 h2; (try dsimp only at h2); omega)); have HTrxoqnab41 := Lib.hid (HTrxoqnab34.out.trans hm (by intro k h1 h2; (try dsimp only at h2); (try dsimp only); omega)); have HTrxoqnab42 := Lib.hid (HTrxoqnab35.out.trans hm (by intro k h1 h2; (try dsimp only at h2); (try dsimp only); omega)); clear hm qr_ Hrxoqnab32 Hrxoqnab29 Hrxoqnab31 Hrxoqnab33 Hrxoqnab30 HTrxoqnab34 HTrxoqnab35; have hk2 := Hrxoqnab39.out.c2))
                generalize ((((rNum s).1 : Nat) : Int) == ((a.U : Nat) : Int)) = okv
                cases okv
                all_goals
                  go_wp2
                  go_roundw
                  case rel => exact ⟨i + 1, _, by go_num, by omega, by omega, HQ2.out, Hrxoqnab36.out, HTrxoqnab42.out⟩
                  case measure => simp [intOf]; omega
              · rw [HA1.out (by first | rfl | trivial)] at HQ
                go_wp2_with fail
                have Hrxoqnac29 := Lib.hid (Hrxoqna23.out.mod ((Mod.refl (fun _ => False) rxoqnaw7).drew) (fun _ _ h => h))
                have Hrxoqnac30 := Lib.hid (HMrxoqna26.out.trans ((Mod.refl (fun _ => False) _).drew) (fun _ _ h => h))
                have Hrxoqnac31 := Lib.hid (Hrxoqna24.out.mod ((Mod.refl (fun _ => False) rxoqnaw7).drew) (fun _ _ h => h))
                have Hrxoqnac32 := Lib.hid (Hrxoqna25.out.mod ((Mod.refl (fun _ => False) rxoqnaw7).drew) (fun _ _ h => h))
                have Hrxoqnac33 := Lib.hid (Hrxoqna22.out.mod ((Mod.refl (fun _ => False) rxoqnaw7).drew) (fun _ _ h => h))
                have HTrxoqnac34 := Lib.hid (HTrxoqna27.out.trans ((Mod.refl (fun _ => False) _).drew) (fun _ _ h => h.elim))
                have HTrxoqnac35 := Lib.hid (HTrxoqna28.out.trans ((Mod.refl (fun _ => False) _).drew) (fun _ _ h => h.elim))
                have K := RInt_R (most := 1125899906842624) Hrxoqnac32.out (by omega)
                have HQ2 := Lib.hid ((SP.int 1125899906842624 (by unfold U64; omega) HQ.out).1)
                have HK := Lib.hid K
                clear K
                have hk1 := Hrxoqnac33.out.c1
                go_region_held3 (fun w' => w'.cell? ⟨wi.heap.size, 1, none⟩ = some (.int .i64 a.N)) (go_keep)
                  (first | (go_at_call 48; go_must (refine (HK.out).mono ?_); rintro e rxoqnacw9 ⟨rfl, qr_, hm⟩; have zrxoqnac9 := hm.size; have Hrxoqnac36 := Lib.hid qr_; have Hrxoqnac37 := Lib.hid (Hrxoqnac29.out.mod hm (by intro k h1 h2; (try dsimp only at h1 h2); omega)); have Hrxoqnac38 := Lib.hid (Hrxoqnac31.out.mod hm (by intro k h1 h2; (try dsimp only at h1 h2); omega)); have Hrxoqnac39 := Lib.hid (Hrxoqnac33.out.mod hm (by intro k h1 h2; (try dsimp only at h1 h2); omega)); have HMrxoqnac40 := Lib.hid (Hrxoqnac30.out.trans hm (by intro k h1 h2; (try dsimp only at h2); omega)); have HTrxoqnac41 := Lib.hid (HTrxoqnac34.out.trans hm (by intro k h1 h2; (try dsimp only at h2); (try dsimp only); omega)); have HTrxoqnac42 := Lib.hid (HTrxoqnac35.out.trans hm (by intro k h1 h2; (try dsimp only at h2); (try dsimp only); omega)); clear hm qr_ Hrxoqnac32 Hrxoqnac29 Hrxoqnac31 Hrxoqnac33 Hrxoqnac30 HTrxoqnac34 HTrxoqnac35; have hk2 := Hrxoqnac39.out.c1) | (go_at_call 15; go_must (refine (HKN.out _).mono ?_); rintro e wx ⟨rfl, rfl⟩))
                generalize ((((rInt 1125899906842624 s).1 : Nat) : Int) == ((kn : Nat) : Int)) = okv
                cases okv
                all_goals
                  go_wp2
                  go_roundw
                  case rel => exact ⟨i + 1, _, by go_num, by omega, by omega, HQ2.out, Hrxoqnac36.out, HTrxoqnac42.out⟩
                  case measure => simp [intOf]; omega
              · rw [HA2.out (by first | rfl | trivial)] at HQ
                go_wp2_with fail
                have Hrxoqnad29 := Lib.hid (Hrxoqna23.out.mod ((Mod.refl (fun _ => False) rxoqnaw7).drew) (fun _ _ h => h))
                have Hrxoqnad30 := Lib.hid (HMrxoqna26.out.trans ((Mod.refl (fun _ => False) _).drew) (fun _ _ h => h))
                have Hrxoqnad31 := Lib.hid (Hrxoqna24.out.mod ((Mod.refl (fun _ => False) rxoqnaw7).drew) (fun _ _ h => h))
                have Hrxoqnad32 := Lib.hid (Hrxoqna25.out.mod ((Mod.refl (fun _ => False) rxoqnaw7).drew) (fun _ _ h => h))
                have Hrxoqnad33 := Lib.hid (Hrxoqna22.out.mod ((Mod.refl (fun _ => False) rxoqnaw7).drew) (fun _ _ h => h))
                have HTrxoqnad34 := Lib.hid (HTrxoqna27.out.trans ((Mod.refl (fun _ => False) _).drew) (fun _ _ h => h.elim))
                have HTrxoqnad35 := Lib.hid (HTrxoqna28.out.trans ((Mod.refl (fun _ => False) _).drew) (fun _ _ h => h.elim))
                have K := RRow_R (most := 100) Hrxoqnad32.out (by omega)
                have HQ2 := Lib.hid (SP.row 100 (by simp; unfold U64; omega) HQ.out)
                have HK := Lib.hid K
                clear K
                have hk1 := Hrxoqnad33.out.c3
                go_region_held3 (fun w' => w'.cell? ⟨wi.heap.size, 3, none⟩ = some a.VB) (go_keep)
                  (first | (go_at_call 51; go_must (refine (HK.out).mono ?_); rintro e rxoqnadw9 ⟨v6, rfl, qrw, qr_, hm⟩; have zrxoqnad9 := hm.size; have Hrxoqnad36 := Lib.hid (qrw.widen (R' := (fun k => ((rxoqnaw7).drew.heap.size ≤ k ∧ k < rxoqnadw9.heap.size))) (by intro k h; unfold New at h; (try dsimp only at h); (try dsimp only); omega) (Nat.le_refl _)); have Hrxoqnad37 := Lib.hid qr_; have Hrxoqnad38 := Lib.hid (Hrxoqnad29.out.mod hm (by intro k h1 h2; (try dsimp only at h1 h2); omega)); have Hrxoqnad39 := Lib.hid (Hrxoqnad31.out.mod hm (by intro k h1 h2; (try dsimp only at h1 h2); omega)); have Hrxoqnad40 := Lib.hid (Hrxoqnad33.out.mod hm (by intro k h1 h2; (try dsimp only at h1 h2); omega)); have HMrxoqnad41 := Lib.hid (Hrxoqnad30.out.trans hm (by intro k h1 h2; (try dsimp only at h2); omega)); have HTrxoqnad42 := Lib.hid (HTrxoqnad34.out.trans hm (by intro k h1 h2; (try dsimp only at h2); (try dsimp only); omega)); have HTrxoqnad43 := Lib.hid (HTrxoqnad35.out.trans hm (by intro k h1 h2; (try dsimp only at h2); (try dsimp only); omega)); clear hm qrw qr_ Hrxoqnad32 Hrxoqnad29 Hrxoqnad31 Hrxoqnad33 Hrxoqnad30 HTrxoqnad34 HTrxoqnad35; have hk2 := Hrxoqnad40.out.c3; have HBB := Lib.hid (HAK.out.b.mod HMrxoqnad41.out (fun _ _ h => h))) | (go_at_call 25; go_must (refine (Cut_R 90 HBB.out (by omega)).mono ?_); rintro e rxoqnadw10 ⟨v7, rfl, qct, hm⟩; have zrxoqnad10 := hm.size; have Hrxoqnad44 := Lib.hid (qct.widen (R' := (fun k => (rxoqnadw9.heap.size ≤ k ∧ k < rxoqnadw10.heap.size))) (by intro k h; unfold New at h; (try dsimp only at h); (try dsimp only); omega) (Nat.le_refl _)); have Hrxoqnad45 := Lib.hid (Hrxoqnad38.out.mod hm (fun _ _ h => h)); have Hrxoqnad46 := Lib.hid (Hrxoqnad39.out.mod hm (fun _ _ h => h)); have Hrxoqnad47 := Lib.hid (Hrxoqnad37.out.mod hm (fun _ _ h => h)); have Hrxoqnad48 := Lib.hid (Hrxoqnad40.out.mod hm (fun _ _ h => h)); have Hrxoqnad49 := Lib.hid (Hrxoqnad36.out.mod hm (fun _ _ h => h)); have HMrxoqnad50 := Lib.hid (HMrxoqnad41.out.trans hm (fun _ _ h => h)); have HTrxoqnad51 := Lib.hid (HTrxoqnad42.out.trans hm (fun _ _ h => h.elim)); have HTrxoqnad52 := Lib.hid (HTrxoqnad43.out.trans hm (fun _ _ h => h.elim)); clear hm qct Hrxoqnad38 Hrxoqnad39 Hrxoqnad37 Hrxoqnad40 Hrxoqnad36 HMrxoqnad41 HTrxoqnad42 HTrxoqnad43; have hk3 := Hrxoqnad48.out.c3; have HS := Same_R Hrxoqnad49.out.rd Hrxoqnad44.out.rd; obtain ⟨okv, hokv⟩ : ∃ o, o = decide ((rRow 100 s).1 = List.take 90 a.B) := ⟨_, rfl⟩; rw [← hokv] at HS; have HSH := Lib.hid HS; clear HS hokv) | (go_at_call 23; go_must (refine (HSH.out).mono ?_); rintro e rxoqnadw11 ⟨rfl, hm⟩; have zrxoqnad11 := hm.size; have Hrxoqnad53 := Lib.hid (Hrxoqnad45.out.mod hm (fun _ _ h => h)); have Hrxoqnad54 := Lib.hid (Hrxoqnad46.out.mod hm (fun _ _ h => h)); have Hrxoqnad55 := Lib.hid (Hrxoqnad47.out.mod hm (fun _ _ h => h)); have Hrxoqnad56 := Lib.hid (Hrxoqnad48.out.mod hm (fun _ _ h => h)); have Hrxoqnad57 := Lib.hid (Hrxoqnad49.out.mod hm (fun _ _ h => h)); have Hrxoqnad58 := Lib.hid (Hrxoqnad44.out.mod hm (fun _ _ h => h)); have HMrxoqnad59 := Lib.hid (HMrxoqnad50.out.trans hm (fun _ _ h => h)); have HTrxoqnad60 := Lib.hid (HTrxoqnad51.out.trans hm (fun _ _ h => h.elim)); have HTrxoqnad61 := Lib.hid (HTrxoqnad52.out.trans hm (fun _ _ h => h.elim)); clear hm Hrxoqnad45 Hrxoqnad46 Hrxoqnad47 Hrxoqnad48 Hrxoqnad49 Hrxoqnad44 HMrxoqnad50 HTrxoqnad51 HTrxoqnad52; have hk4 := Hrxoqnad56.out.c3))
                cases okv
                all_goals
                  go_wp2
                  go_roundw
                  case rel => exact ⟨i + 1, _, by go_num, by omega, by omega, HQ2.out, Hrxoqnad55.out, HTrxoqnad61.out⟩
                  case measure => simp [intOf]; omega
              · rw [HA3.out (by first | rfl | trivial)] at HQ
                have hui := Try.underlying39
                have hsz : (Try.prog.info? 39).map (·.size) = some (a.H.map bv).length := by rw [List.length_map, HAK.out.h]; kernel_rfl
                go_wp2_with fail
                have Hrxoqnae29 := Lib.hid (Hrxoqna23.out.mod ((Mod.refl (fun _ => False) rxoqnaw7).drew) (fun _ _ h => h))
                have Hrxoqnae30 := Lib.hid (HMrxoqna26.out.trans ((Mod.refl (fun _ => False) _).drew) (fun _ _ h => h))
                have Hrxoqnae31 := Lib.hid (Hrxoqna24.out.mod ((Mod.refl (fun _ => False) rxoqnaw7).drew) (fun _ _ h => h))
                have Hrxoqnae32 := Lib.hid (Hrxoqna25.out.mod ((Mod.refl (fun _ => False) rxoqnaw7).drew) (fun _ _ h => h))
                have Hrxoqnae33 := Lib.hid (Hrxoqna22.out.mod ((Mod.refl (fun _ => False) rxoqnaw7).drew) (fun _ _ h => h))
                have HTrxoqnae34 := Lib.hid (HTrxoqna27.out.trans ((Mod.refl (fun _ => False) _).drew) (fun _ _ h => h.elim))
                have HTrxoqnae35 := Lib.hid (HTrxoqna28.out.trans ((Mod.refl (fun _ => False) _).drew) (fun _ _ h => h.elim))
                have K := RHash_R Hrxoqnae32.out
                have HQ2 := Lib.hid (SP.hash HAK.out.h HQ.out)
                have HK := Lib.hid K
                clear K
                have hlen := rHash_l s
                obtain ⟨okv, hokv⟩ : ∃ o, o = decide ((rHash s).1 = a.H) := ⟨_, rfl⟩
                have heqH : ∀ w, (binOp .eql 39 (hv (rHash s).1) (.agg (a.H.map bv).toArray)).run Try.prog w = .ok (.bool okv) w := fun w => by rw [hokv]; exact hv_eql hlen HAK.out.h w
                clear hokv hlen
                have hk1 : World.rangeAt _ _ _ _ := Hrxoqnae33.out.ch HAK.out.h
                go_region_held3 (fun w' => w'.rangeAt wi.heap.size 4 (a.H.map bv)) (go_keep)
                  (first | (go_at_call 56; go_must (refine (HK.out).mono ?_); rintro e rxoqnaew9 ⟨rfl, qr_, hm⟩; have zrxoqnae9 := hm.size; have Hrxoqnae36 := Lib.hid qr_; have Hrxoqnae37 := Lib.hid (Hrxoqnae29.out.mod hm (by intro k h1 h2; (try dsimp only at h1 h2); omega)); have Hrxoqnae38 := Lib.hid (Hrxoqnae31.out.mod hm (by intro k h1 h2; (try dsimp only at h1 h2); omega)); have Hrxoqnae39 := Lib.hid (Hrxoqnae33.out.mod hm (by intro k h1 h2; (try dsimp only at h1 h2); omega)); have HMrxoqnae40 := Lib.hid (Hrxoqnae30.out.trans hm (by intro k h1 h2; (try dsimp only at h2); omega)); have HTrxoqnae41 := Lib.hid (HTrxoqnae34.out.trans hm (by intro k h1 h2; (try dsimp only at h2); (try dsimp only); omega)); have HTrxoqnae42 := Lib.hid (HTrxoqnae35.out.trans hm (by intro k h1 h2; (try dsimp only at h2); (try dsimp only); omega)); clear hm qr_ Hrxoqnae32 Hrxoqnae29 Hrxoqnae31 Hrxoqnae33 Hrxoqnae30 HTrxoqnae34 HTrxoqnae35; have hk2 : World.rangeAt _ _ _ _ := Hrxoqnae39.out.ch HAK.out.h))
                cases okv
                all_goals
                  go_wp2
                  go_roundw
                  case rel => exact ⟨i + 1, _, by go_num, by omega, by omega, HQ2.out, Hrxoqnae36.out, HTrxoqnae42.out⟩
                  case measure => simp [intOf]; omega
            all_goals
              rw [List.drop_of_length_le (by simp; omega)] at HQ
              have hs : s = none := HQ.out.nil
              rw [hs] at KR
              clear hs
              go_wp2_with fail
              refine (OK_R KR.out).mono ?_
              rintro e wx ⟨rfl, rfl⟩
              go_wp2_with fail
              refine (Left_R KR.out).mono ?_
              rintro e wx ⟨rfl, rfl⟩
              by_cases h0 : cs.length = 0
              · go_wp2_with fail
                refine (wakes_R _).mono ?_
                rintro e rxoqnzyw7 ⟨rfl, hm⟩
                have zrxoqnzy7 := hm.size
                have Hrxoqnzy22 := Lib.hid (Hrxoqn18.out.mod hm (fun _ _ h => h))
                have Hrxoqnzy23 := Lib.hid (Hrxoqn19.out.mod hm (fun _ _ h => h))
                have HMrxoqnzy24 := Lib.hid (HMrxoqn20.out.trans hm (fun _ _ h => h))
                have HTrxoqnzy25 := Lib.hid (HTrxoqn21.out.trans hm (fun _ _ h => h.elim))
                have HTrxoqnzy26 := Lib.hid (KI.out.trans hm (fun _ _ h => h.elim))
                clear hm Hrxoqn18 Hrxoqn19 HMrxoqn20 HTrxoqn21 KI
                go_wp2
                go_ret
                exact ⟨rfl, HMrxoqnzy24.out⟩
              · have hlb := Hrxoqn19.out.1.len
                rw [maxLen_val] at hlb
                have hlc := Hrxoqn19.out.2.2
                obtain ⟨kk, hkk, hkl⟩ := within_nat cut cs.length (by omega)
                have HKK := Lib.hid (Within_any cut cs.length (by omega) (by omega) HCUT.out)
                rw [hkk] at HKK
                clear hkk
                go_wp2_with fail
                refine (HKK.out _).mono ?_
                rintro e wx ⟨rfl, rfl⟩
                go_wp2
                go_roundw
                case rel => exact ⟨2, cs.take kk, by go_num, by omega, fun h => absurd h (by omega), fun h => absurd h (by omega), Hrxoqn19.out.upto kk (by omega), HTrxoqn21.out⟩
                case measure => simp [intOf]
        · go_wp2_with fail
          refine (wakes_R _).mono ?_
          rintro e rxofw5 ⟨rfl, hm⟩
          have zrxof5 := hm.size
          have Hrxof13 := Lib.hid (Hrxo11.out.mod hm (fun _ _ h => h))
          have Hrxof14 := Lib.hid (KB.out.mod hm (fun _ _ h => h))
          have HMrxof15 := Lib.hid (HMrxo12.out.trans hm (fun _ _ h => h))
          have HTrxof16 := Lib.hid (KO.out.trans hm (fun _ _ h => h.elim))
          clear hm Hrxo11 KB HMrxo12 KO
          go_wp2
          go_ret
          exact ⟨rfl, HMrxof15.out⟩
end Go.Proofs.Ytceojplopbjokaa
