/- WalPlays: whatever is put, wherever the disk stops and crashes, each call answers what the document says, and the disk has just that: for every first bytes and every list of calls the law returns true. No condition. -/
import Derived.Test.YthojipjleajajaaWaP4
import Derived.ProofKit
import Derived.OpenShut
import Derived.ChangeOld
set_option maxRecDepth 100000
set_option linter.unusedVariables false
/- WalPlays: the walk. -/
namespace Go.Proofs.Ythojipjleajajaa
open Go Go.RowKit Go.Gv

theorem Copy_Q {R : Nat → Prop} {N : Nat} {v : Value} {bs : List Int} {w : World} (hr : RdR R N w v bs) (hl : bs.length ≤ 900000) :
    Calls Try.prog 28 #[v] w fun e w' => ∃ v', e = .returned v' ∧ OwR (New w w') 900000 w' v' bs ∧ Mod (fun _ => False) w w' :=
  (Copy_R (⟨hr.1, hr.2.1, Nat.le_refl _⟩ : RdR R bs.length w v bs) (by omega)).mono fun e w' ⟨v', he, ho, hm⟩ => ⟨v', he, ho.widen (fun _ h => h) (by omega), hm⟩
set_option maxHeartbeats 16000000 in
theorem WalPlays_walk (fs : List Int) (l : List Ac) (vf vl : Value) (w : World) (hf : RdR (fun k => k < w.heap.size) fs.length w vf fs) (hl : RdS AcR (fun k => k < w.heap.size) w vl l) :
    Calls Try.prog 6 #[vf, vl] w fun e w' => e = .returned (.bool true) ∧ Mod (fun _ => False) w w' := by
  obtain ⟨aof, cf, rfl⟩ := hf.shape
  obtain ⟨ao, cap, rfl⟩ := hl.shape
  have HFS := Lib.hid hf
  have HL := Lib.hid hl
  clear hf hl
  go_enter Try.func6, Try.ntmps6
  go_upto_region 1 with (fail)
  have HM0 := hid (Mod.refl (fun _ => False) w)
  go_upto_region 1 with (fail)
  refine wp_region_U 165 [15, 16, 17, 5, 6] [0, 1, 2, 3, 4] (fun a0 HA0 => ?_)
  refine QSeq.call rfl rfl Try.func8 (New_R _) (fun E => args0) ?_
  rintro e u1_0 ⟨p, rfl, qdk, hm⟩
  refine ⟨_, rfl, ?_⟩
  have Hx1 := hid qdk
  have zu1_0 := hm.size
  have Cx2 := hid (show Mod (fun _ => False) w u1_0 from hm)
  clear hm
  clear qdk
  refine QSeq.pure rfl (.agg #[Value.slice none 0 0, .int .i64 0, .bool false, .bool false, .int .i64 0]) (fun E => ex_build0 rfl (r := #[Value.slice none 0 0, .int .i64 0, .bool false, .bool false, .int .i64 0]) (by kernel_rfl)) ?_
  refine QSeq.go fun act E => ?_
  refine qc_box rfl (wanted_none rfl) rfl (vs := [Value.slice none 0 0, .int .i64 0, .bool false, .bool false, .int .i64 0]) (by rw [show act.eval (.tmp 16) = _ from (E.d 1 0)]; rfl) ?_
  intro u1_2 qbx hm
  have zl1_2 := qbx.lt
  have Hx3 := hid qbx
  have zu1_2 := hm.size
  have HMu1_2 := hid hm
  have Cx4 := hid (Cx2.out.goE hm)
  clear hm Cx2
  clear act E qbx
  refine QSeq.pure rfl _ (fun E => ex_assign rfl (E.d 0 2)) ?_
  refine QSeq.pure rfl _ (fun E => ex_assign rfl (E.d 2 1)) ?_
  have Hx5 := hid (Hx1.out.mod HMu1_2.out (fun _ _ h => h))
  clear Hx1 HMu1_2
  refine QSeq.nil (t' := [_, _, _, _, _]) rfl ?_
  obtain rfl := HA0.out
  clear HA0
  simp only [pz, Act.put, List.setIfInBounds_toArray, List.set_cons_zero, List.set_cons_succ]
  obtain ⟨q, hq⟩ : ∃ q, q = u1_0.heap.size := ⟨_, rfl⟩
  have hrk := RkR.fresh Hx3.out
  have HRK := Lib.hid hrk
  clear hrk
  clear Hx3
  go_upto_region 2 with (fail)
  refine wp_region_U 165 [18, 19] [0, 1] (fun a0 HA0 => ?_)
  have oe5 := ev HA0 5 rfl
  refine QSeq.pure rfl _ (fun E => ex_move rfl (E.v oe5)) ?_
  refine QSeq.pure rfl (.bool false) (fun E => ex_bin rfl (E.d 0 0) rfl (guard_ptr _ _ _ _ _ _ _) (run_eql_nil _ Try.underlying23 (by kernel_rfl) _)) ?_
  refine QSeq.nil (t' := [_, _]) rfl ?_
  obtain rfl := HA0.out
  clear HA0 oe5
  simp only [pz, Act.put, List.setIfInBounds_toArray, List.set_cons_zero, List.set_cons_succ]
  obtain ⟨fb, hfb⟩ : ∃ c, c = fs.take 60 := ⟨_, rfl⟩
  have HFB := Lib.hid hfb
  have hfl : fb.length ≤ 60 := by rw [hfb, List.length_take]; omega
  clear hfb
  go_upto_region 4 with (fail)
  refine wp_region_U 165 [20, 21, 0] [0, 1, 2] (fun a0 HA0 => ?_)
  have oe0 := ev HA0 0 rfl
  refine QSeq.pure rfl _ (fun E => ex_move rfl (E.y 2 oe0)) ?_
  refine QSeq.call rfl rfl Try.func11 (Cut_W (n := 60) (HFS.out.mod Cx4.out (fun _ _ h => h)) (by decide) HFB.out) (fun E => args2 (E.d 0 0) rfl) ?_
  rintro e u4_1 ⟨v_fc, rfl, qfc, hm⟩
  obtain ⟨ao_fc, cap_fc, rfl⟩ := qfc.shape
  refine ⟨_, rfl, ?_⟩
  have Hx6 := hid qfc
  have zu4_1 := hm.size
  have Cx7 := hid (show Mod (fun _ => False) u1_2 u4_1 from hm)
  clear hm
  clear qfc
  refine QSeq.pure rfl _ (fun E => ex_assign rfl (E.d 1 0)) ?_
  refine QSeq.nil (t' := [_, _, _]) rfl ?_
  obtain rfl := HA0.out
  clear HA0 oe0
  simp only [pz, Act.put, List.setIfInBounds_toArray, List.set_cons_zero, List.set_cons_succ]
  clear HFS
  go_upto_region 5 with (fail)
  refine wp_region_U 165 [22, 23, 24] [0, 1, 2] (fun a0 HA0 => ?_)
  have oe0 := ev HA0 0 rfl
  have oe5 := ev HA0 5 rfl
  refine QSeq.pure rfl _ (fun E => ex_move rfl (E.v oe5)) ?_
  refine QSeq.pure rfl _ (fun E => ex_move rfl (E.v oe0)) ?_
  refine QSeq.call rfl rfl Try.func21 (Append_W (Hx5.out.mod Cx7.out (fun _ _ h => h)) Hx6.out.rd (by intro k h1 h2; omega) (by omega) rfl) (fun E => args2 (E.d 0 1) (E.d 1 0)) ?_
  rintro e u5_2 ⟨rfl, qdk, hm⟩
  refine ⟨_, rfl, ?_⟩
  have Hx8 := hid (qdk.widen (R' := (fun k => (New w u1_0 k) ∨ (New u4_1 u5_2 k))) (fun _ h => h) (Nat.le_refl _))
  have zu5_2 := hm.size
  have Cx9 := hid (show Mod (fun k => (New w u1_0 k)) u4_1 u5_2 from hm)
  clear hm
  clear qdk Hx5
  refine QSeq.nil (t' := [_, _, _]) rfl ?_
  obtain rfl := HA0.out
  clear HA0 oe0 oe5
  simp only [pz, Act.put, List.setIfInBounds_toArray, List.set_cons_zero, List.set_cons_succ]
  go_upto_region 6 with (fail)
  refine wp_region_U 165 [25, 26, 27] [0, 1, 2] (fun a0 HA0 => ?_)
  have oe0 := ev HA0 0 rfl
  have oe6 := ev HA0 6 rfl
  refine QSeq.pure rfl _ (fun E => ex_move rfl (E.v oe6)) ?_
  refine QSeq.pure rfl _ (fun E => ex_move rfl (E.v oe0)) ?_
  refine QSeq.call rfl rfl Try.func23 (RAppend_C ((HRK.out.mod Cx7.out (fun _ _ h => h)).mod Cx9.out (by intro k h1 h2; omega)) (⟨(Hx6.out.mod Cx9.out (by intro k h1 h2; omega)).rd.1, (Hx6.out.mod Cx9.out (by intro k h1 h2; omega)).rd.2.1, Nat.le_refl _⟩ : RdR _ fb.length _ _ fb) (by intro k h1; omega) (by intro k h1; omega) (by intro k h1 h2; omega) rfl (by omega)) (fun E => args2 (E.d 0 1) (E.d 1 0)) ?_
  rintro e u6_2 ⟨rfl, qrk, hm⟩
  refine ⟨_, rfl, ?_⟩
  have Hx10 := hid (qrk.widen (R' := (fun k => (k = u1_0.heap.size) ∨ (New u5_2 u6_2 k))) (fun _ h => h) (Nat.le_refl _))
  have zu6_2 := hm.size
  have Cx11 := hid (show Mod (fun k => (k = u1_0.heap.size)) u5_2 u6_2 from hm)
  clear hm
  clear qrk HRK
  refine QSeq.nil (t' := [_, _, _]) rfl ?_
  obtain rfl := HA0.out
  clear HA0 oe0 oe6
  simp only [pz, Act.put, List.setIfInBounds_toArray, List.set_cons_zero, List.set_cons_succ]
  obtain ⟨rs0, hP0⟩ := Parse.any fb.length fb (Nat.le_refl _) ((Hx6.out.mod Cx9.out (by intro k h1 h2; omega)).mod Cx11.out (by intro k h1 h2; omega)).rd.1.1
  have HP0 := Lib.hid hP0
  clear hP0
  have hr0 : rs0.length ≤ 60 := by have h1 := rowsE_count rs0; have h2 := HP0.out.pre.2; omega
  clear Hx6
  go_upto_region 7 with (fail)
  refine wp_region_U 165 [29, 30, 28, 31, 32, 7, 8] [0, 1, 2, 3, 4, 5, 6] (fun a0 HA0 => ?_)
  have oe5 := ev HA0 5 rfl
  refine QSeq.pure rfl _ (fun E => ex_move rfl (E.v oe5)) ?_
  refine QSeq.call rfl rfl Try.func9 (Open_D (Hx8.out.mod Cx11.out (by intro k h1 h2; omega)) (by intro k h1; omega) (by omega) HP0.out) (fun E => args1 (E.d 0 0)) ?_
  rintro e u7_1 ⟨x, rfl, qlg, hm⟩
  refine ⟨_, rfl, ?_⟩
  have Hx12 := hid (qlg.widen (R' := (fun k => (New w u1_0 k) ∨ (New u4_1 u5_2 k) ∨ (New u6_2 u7_1 k))) (by intro k h1; omega) (Nat.le_refl _))
  have zu7_1 := hm.size
  have Cx13 := hid (show Mod (fun k => (New w u1_0 k) ∨ (New u4_1 u5_2 k)) u6_2 u7_1 from hm)
  clear hm
  clear qlg
  clear Hx8
  refine QSeq.pure rfl _ (fun E => ex_move rfl (E.d 1 0)) ?_
  refine QSeq.pure rfl (.pointer (some ⟨x, 0, none⟩)) (fun E => ex_extract rfl (E.d 2 0) rfl) ?_
  refine QSeq.pure rfl (.int .i64 0) (fun E => ex_extract rfl (E.d 2 1) rfl) ?_
  refine QSeq.pure rfl _ (fun E => ex_assign rfl (E.d 3 1)) ?_
  refine QSeq.pure rfl _ (fun E => ex_assign rfl (E.d 4 1)) ?_
  refine QSeq.nil (t' := [_, _, _, _, _, _, _]) rfl ?_
  obtain rfl := HA0.out
  clear HA0 oe5
  simp only [pz, Act.put, List.setIfInBounds_toArray, List.set_cons_zero, List.set_cons_succ]
  go_upto_region 8 with (fail)
  refine wp_region_U 165 [34, 35, 33, 36, 37, 9, 10] [0, 1, 2, 3, 4, 5, 6] (fun a0 HA0 => ?_)
  have oe6 := ev HA0 6 rfl
  refine QSeq.pure rfl _ (fun E => ex_move rfl (E.v oe6)) ?_
  refine QSeq.call rfl rfl Try.func24 (GOpen_D (Hx10.out.mod Cx13.out (by intro k h1 h2; omega)) (by intro k h1; omega) (by omega) HP0.out) (fun E => args1 (E.d 0 0)) ?_
  rintro e u8_1 ⟨y, rfl, qgg, hm⟩
  refine ⟨_, rfl, ?_⟩
  have Hx14 := hid (qgg.widen (R' := (fun k => (k = u1_0.heap.size) ∨ (New u5_2 u6_2 k) ∨ (New u7_1 u8_1 k))) (by intro k h1; omega) (Nat.le_refl _))
  have zu8_1 := hm.size
  have Cx15 := hid (show Mod (fun k => (k = u1_0.heap.size) ∨ (New u5_2 u6_2 k)) u7_1 u8_1 from hm)
  clear hm
  clear qgg
  clear Hx10
  refine QSeq.pure rfl _ (fun E => ex_move rfl (E.d 1 0)) ?_
  refine QSeq.pure rfl (.pointer (some ⟨y, 0, none⟩)) (fun E => ex_extract rfl (E.d 2 0) rfl) ?_
  refine QSeq.pure rfl (.int .i64 0) (fun E => ex_extract rfl (E.d 2 1) rfl) ?_
  refine QSeq.pure rfl _ (fun E => ex_assign rfl (E.d 3 1)) ?_
  refine QSeq.pure rfl _ (fun E => ex_assign rfl (E.d 4 1)) ?_
  refine QSeq.nil (t' := [_, _, _, _, _, _, _]) rfl ?_
  obtain rfl := HA0.out
  clear HA0 oe6
  simp only [pz, Act.put, List.setIfInBounds_toArray, List.set_cons_zero, List.set_cons_succ]
  go_upto_region 9 with (fail)
  refine wp_region_U 165 [38, 39, 40, 41, 42, 43, 44] [0, 1, 2, 3, 4, 5, 6] (fun a0 HA0 => ?_)
  have oe7 := ev HA0 7 rfl
  have oe8 := ev HA0 8 rfl
  have oe10 := ev HA0 10 rfl
  refine QSeq.pure rfl _ (fun E => ex_move rfl (E.v oe8)) ?_
  refine QSeq.pure rfl _ (fun E => ex_move rfl (E.v oe10)) ?_
  refine QSeq.pure rfl (.bool false) (fun E => ex_binE rfl (E.d 0 1) (E.d 1 0) (guard_ints _ _ _ _ _ _) (run_neq_i _ _ _ Try.underlying26) (congrArg Value.bool (show _ = false from rfl))) ?_
  refine QSeq.pure rfl _ (fun E => ex_move rfl (E.d 2 0)) ?_
  refine QSeq.pureG rfl (.pointer (some ⟨x, 0, none⟩)) (fun E => ((wanted_of rfl rfl (E.sz 41 (by decide)) (E.d 3 0)).trans rfl)) (fun E => ex_move rfl (E.v oe7)) ?_
  refine QSeq.pureG rfl (.bool false) (fun E => ((wanted_of rfl rfl (E.sz 41 (by decide)) (E.d 3 1)).trans rfl)) (fun E => ex_bin rfl (E.d 4 0) rfl (guard_ptr _ _ _ _ _ _ _) (run_eql_nil _ Try.underlying25 (by kernel_rfl) _)) ?_
  refine QSeq.pure rfl (.bool false) (fun E => ex_pick rfl (E.d 3 2) rfl (E.d 5 0)) ?_
  refine QSeq.nil (t' := [_, _, _, _, _, _, _]) rfl ?_
  obtain rfl := HA0.out
  clear HA0 oe7 oe8 oe10
  simp only [pz, Act.put, List.setIfInBounds_toArray, List.set_cons_zero, List.set_cons_succ]
  go_upto_region 11 with (fail)
  refine wp_region_U 165 [11] [0] (fun a0 HA0 => ?_)
  refine QSeq.pure rfl (.int .i64 0) (fun E => ex_assign rfl rfl) ?_
  refine QSeq.nil (t' := [_]) rfl ?_
  obtain rfl := HA0.out
  clear HA0
  simp only [pz, Act.put, List.setIfInBounds_toArray, List.set_cons_zero, List.set_cons_succ]
  go_wp2
  go_loopw [7, 9, 11] (fun t7 t9 ti wr => ∃ (i x y : Nat) (rs : List (List Int)) (st : DS) (P1 P2 : Nat → Prop), t7 = .pointer (some ⟨x, 0, none⟩) ∧ t9 = .pointer (some ⟨y, 0, none⟩) ∧ ti = .int .i64 (i : Nat) ∧ i ≤ 20 ∧ rs.length ≤ 100 + 160 * i ∧ u8_1.heap.size ≤ wr.heap.size ∧ LgR P1 (100 + 160 * i) wr x p rs st ∧ GgR P2 (100 + 160 * i) wr y (u1_0.heap.size) rs st ∧ (∀ k, P1 k → P2 k → False) ∧ (∀ k, P1 k → w.heap.size ≤ k ∧ k < wr.heap.size) ∧ (∀ k, P2 k → w.heap.size ≤ k ∧ k < wr.heap.size) ∧ RdS AcR (fun k => k < w.heap.size) wr (.slice ao l.length cap) l ∧ Mod (fun _ => False) w wr) (fun _ _ ti _ => l.length - (intOf ti).toNat)
  case atStart => exact ⟨0, x, y, rs0, _, (fun k => (New w u1_0 k) ∨ (New u4_1 u5_2 k) ∨ (New u6_2 u7_1 k)), (fun k => (k = u1_0.heap.size) ∨ (New u5_2 u6_2 k) ∨ (New u7_1 u8_1 k)), rfl, rfl, rfl, by omega, by omega, Nat.le_refl _, (Hx12.out.mod Cx15.out (by intro k h1 h2; omega)).widen (fun _ h => h) (by omega), Hx14.out.widen (fun _ h => h) (by omega), (by intro k h1 h2; omega), (by intro k h1; rcases h1 with h1 | h1 | h1 <;> first | omega), (by intro k h1; rcases h1 with h1 | h1 | h1 <;> first | omega), ((((((HL.out.mod Cx4.out (fun _ _ h => h)).mod Cx7.out (fun _ _ h => h)).mod Cx9.out (by intro k h1 h2; omega)).mod Cx11.out (by intro k h1 h2; omega)).mod Cx13.out (by intro k h1 h2; omega)).mod Cx15.out (by intro k h1 h2; omega)), ((((((HM0.out.trans Cx4.out (fun _ _ h => h.elim)).trans Cx7.out (fun _ _ h => h.elim)).trans Cx9.out (by intro k h1 h2; omega)).trans Cx11.out (by intro k h1 h2; omega)).trans Cx13.out (by intro k h1 h2; omega)).trans Cx15.out (by intro k h1 h2; omega))⟩
  case round =>
    clear HL HM0 Hx12 Hx14
    obtain ⟨i, x, y, rs, st, P1, P2, rfl, rfl, rfl, hi20, hrl, hz, hg, ho, hd12, hb1, hb2, hl, hm⟩ := hrel
    obtain ⟨wl, rfl⟩ : ∃ x, x = wr := ⟨_, rfl⟩
    have Kg := Lib.hid hg
    have Ko := Lib.hid ho
    have Kd12 := Lib.hid hd12
    have Kb1 := Lib.hid hb1
    have Kb2 := Lib.hid hb2
    have Kl := Lib.hid hl
    have Km := Lib.hid hm
    clear hg ho hd12 hb1 hb2 hl hm
    go_upto_region 12 with (fail)
    refine wp_region_U 165 [45, 46, 47, 48, 49, 50, 51, 52] [0, 1, 2, 3, 4, 5, 6, 7] (fun a0 HA0 => ?_)
    have oe1 := ev HA0 1 rfl
    have oe11 := ev HA0 11 rfl
    refine QSeq.pure rfl _ (fun E => ex_move rfl (E.v oe11)) ?_
    refine QSeq.pure rfl _ (fun E => ex_move rfl (E.v oe1)) ?_
    refine QSeq.pure rfl (.int .i64 l.length) (fun E => ex_lenS rfl (E.d 1 0) Try.underlying44) ?_
    refine QSeq.pure rfl (.bool (decide (((i : Nat) : Int) < ((l.length : Nat) : Int)))) (fun E => ex_bin rfl (E.d 0 2) (E.d 2 0) (guard_ints _ _ _ _ _ _) (run_lss_i _ _ _ Try.underlying3)) ?_
    refine QSeq.pure rfl _ (fun E => ex_move rfl (E.d 3 0)) ?_
    refine QSeq.may (b := (decide (((i : Nat) : Int) < ((l.length : Nat) : Int)))) rfl (.int .i64 ((i : Nat) : Int)) (fun E => ((wanted_of rfl rfl (E.sz 49 (by decide)) (E.d 4 0)).trans (beq_t _))) (fun E hb => ex_move rfl (E.v oe11)) ?_
    intro v12_5 hw
    have hv12_5 := hid hw
    clear hw
    refine QSeq.may (b := (decide (((i : Nat) : Int) < ((l.length : Nat) : Int)))) rfl (.bool (decide (((i : Nat) : Int) < 20))) (fun E => ((wanted_of rfl rfl (E.sz 49 (by decide)) (E.d 4 1)).trans (beq_t _))) (fun E hb => ex_bin rfl ((E.q 5 0 hv12_5.out).1 hb) rfl (guard_ints _ _ _ _ _ _) (run_lss_i _ _ _ Try.underlying3)) ?_
    intro v12_6 hw
    have hv12_6 := hid hw
    clear hw
    obtain ⟨pb7, hb7⟩ : ∃ b : Bool, b = ((decide (((i : Nat) : Int) < ((l.length : Nat) : Int))) && (decide (((i : Nat) : Int) < 20))) := ⟨_, rfl⟩
    have HB7 := hid hb7
    clear hb7
    refine QSeq.pure rfl (.bool pb7) (fun E => ex_pickE rfl (E.d 4 2) rfl rfl ((and_val fun hb => (E.q 6 0 hv12_6.out).1 hb).trans (congrArg Value.bool HB7.out.symm))) ?_
    clear hv12_5 hv12_6
    refine QSeq.nil (t' := [_, _, _, _, _, _, _, _]) rfl ?_
    obtain rfl := HA0.out
    clear HA0 oe1 oe11
    simp only [pz, Act.put, List.setIfInBounds_toArray, List.set_cons_zero, List.set_cons_succ]
    by_cases hc : i < l.length ∧ i < 20
    · obtain ⟨hc1, hc2⟩ := hc
      obtain rfl : pb7 = true := HB7.out.trans (by simp only [Bool.and_eq_true, decide_eq_true_eq]; omega)
      obtain ⟨g0, o0, cs, eao, hrg, hrd, hcs⟩ := Kl.out.at hc1
      obtain ⟨va, rfl, hok, hva⟩ := hrd
      generalize l[i] = a at hok hva hcs
      obtain ⟨aa, ca, rfl⟩ := hva.shape
      subst eao
      have HAT := hid (show CellsAt (fun k => k < w.heap.size) wl g0 (o0 + i * 3) [.int .i64 a.d, .int .i64 a.n, .slice aa a.b.length ca] from ⟨hrg, hcs⟩)
      have HEL := Lib.hid hva
      have HOK := Lib.hid hok
      clear hrg hcs hva hok
      go_upto_region 14 with (fail)
      refine wp_region_U 165 [55, 56, 57, 58, 12, 170] [0, 1, 2, 3, 4, 5] (fun a0 HA0 => ?_)
      have oe1 := ev HA0 1 rfl
      have oe11 := ev HA0 11 rfl
      refine QSeq.pure rfl _ (fun E => ex_move rfl (E.v oe1)) ?_
      refine QSeq.pure rfl _ (fun E => ex_move rfl (E.v oe11)) ?_
      refine QSeq.pure rfl (.pointer (some ⟨g0, o0 + i * 3, none⟩)) (fun E => ex_idxS (i := i) (s := 3) rfl Try.underlying44 (by kernel_rfl) (E.d 0 1) (E.d 1 0) (by first | omega | simp)) ?_
      refine QSeq.pure rfl _ (fun E => ex_loadA rfl Try.underlying52 rfl (off := o0 + i * 3) (cs := [.int .i64 a.d, .int .i64 a.n, .slice aa a.b.length ca]) (by kernel_rfl) (E.d 2 0) (fun j u hu => (HAT.out).2 j u hu)) ?_
      refine QSeq.go fun act E => ?_
      refine qc_alloc rfl (wanted_none rfl) rfl (z := [.int .i64 0, .int .i64 0, .slice none 0 0]) (by kernel_rfl) ?_
      intro u14_4 qac hm
      have zl14_4 := qac.lt
      have Hx16 := hid qac
      have zu14_4 := hm.size
      have Cx17 := hid (show Mod (fun _ => False) wl u14_4 from hm)
      clear hm
      clear act E qac
      refine QSeq.go fun act E => ?_
      have hlz : (([.int .i64 a.d, .int .i64 a.n, .slice aa a.b.length ca] : List Value)).length = List.length ([.int .i64 0, .int .i64 0, .slice none 0 0] : List Value) := rfl
      refine qc_store rfl (wanted_none rfl) rfl Hx16.out (off := 0) (vs := ([.int .i64 a.d, .int .i64 a.n, .slice aa a.b.length ca] : List Value)) (by rw [hlz]; kernel_rfl) (by intro u hu; simp only [List.mem_cons, List.not_mem_nil, or_false] at hu; rcases hu with rfl | rfl | rfl <;> rfl) (by rw [hlz]; exact Nat.le_of_eq (Nat.zero_add _)) (E.d 4 0) (ec (E.d 3 1)) ?_
      intro u14_5 qc0 hm
      have qac := qc0.eqv (b := (([.int .i64 a.d, .int .i64 a.n, .slice aa a.b.length ca] : List Value) : List Value).toArray) (lay_whole (#[.int .i64 0, .int .i64 0, .slice none 0 0]) _ (by rw [hlz]; rfl))
      clear qc0 hlz
      have Hx18 := hid qac
      have zu14_5 := hm.size
      have HMu14_5 := hid hm
      have Cx19 := hid (Mod.goS (S' := (fun _ => False)) Cx17.out hm (fun _ h => h) (by intro k h0 h2; omega))
      clear hm Cx17
      clear act E qac Hx16
      clear HMu14_5
      refine QSeq.nil (t' := [_, _, _, _, _, _]) rfl ?_
      obtain rfl := HA0.out
      clear HA0 oe1 oe11
      simp only [pz, Act.put, List.setIfInBounds_toArray, List.set_cons_zero, List.set_cons_succ, List.set_nil]
      clear HAT
      obtain ⟨cb, hcb⟩ : ∃ c, c = a.b.take 150 := ⟨_, rfl⟩
      have HCB := Lib.hid hcb
      have hcl : cb.length ≤ 150 := by rw [hcb, List.length_take]; omega
      clear hcb
      go_upto_region 15 with (fail)
      refine wp_region_U 165 [59, 60, 61, 62, 169] [0, 1, 2, 3, 4] (fun a0 HA0 => ?_)
      have oe12 := ev HA0 12 rfl
      refine QSeq.pure rfl (.pointer (some ⟨wl.heap.size, 2, none⟩)) (fun E => ex_field rfl Try.underlying52 rfl (by kernel_rfl) (E.v oe12)) ?_
      refine QSeq.pure rfl _ (fun E => ex_load1 rfl Try.underlying22 rfl (E.d 0 0) (Cs.lit1 Hx18.out rfl)) ?_
      refine QSeq.call rfl rfl Try.func11 (Cut_W (n := 150) (HEL.out.mod Cx19.out (fun _ _ h => h)) (by decide) HCB.out) (fun E => args2 (E.d 1 0) rfl) ?_
      rintro e u15_2 ⟨v_cut, rfl, qcut, hm⟩
      obtain ⟨ao_cut, cap_cut, rfl⟩ := qcut.shape
      refine ⟨_, rfl, ?_⟩
      have Hx20 := hid qcut
      have zu15_2 := hm.size
      have Cx21 := hid (show Mod (fun _ => False) u14_5 u15_2 from hm)
      clear hm
      clear qcut
      refine QSeq.pure rfl (.pointer (some ⟨wl.heap.size, 2, none⟩)) (fun E => ex_field rfl Try.underlying52 rfl (by kernel_rfl) (E.v oe12)) ?_
      refine QSeq.go fun act E => ?_
      refine qc_store rfl (wanted_none rfl) rfl (Hx18.out.mod Cx21.out (fun h => h)) (off := 2) (vs := [Value.slice ao_cut cb.length cap_cut]) (by kernel_rfl) one1 (by simp) (E.d 3 0) (ec (E.d 2 1)) ?_
      intro u15_4 qc0 hm
      have qac := qc0.eqv (b := #[.int .i64 a.d, .int .i64 a.n, Value.slice ao_cut cb.length cap_cut]) rfl
      clear qc0
      have Hx22 := hid qac
      have zu15_4 := hm.size
      have HMu15_4 := hid hm
      have Cx23 := hid (Mod.goS (S' := (fun k => (k = wl.heap.size))) Cx21.out hm (fun _ h => h.elim) (by intro k h0 h2; exact h2))
      clear hm Cx21
      clear act E qac Hx18
      have Hx24 := hid (Hx20.out.mod HMu15_4.out (by intro k h1 h2; omega))
      clear Hx20 HMu15_4
      refine QSeq.nil (t' := [_, _, _, _, _]) rfl ?_
      obtain rfl := HA0.out
      clear HA0 oe12
      simp only [pz, Act.put, List.setIfInBounds_toArray, List.set_cons_zero, List.set_cons_succ, List.set_nil]
      clear HEL
      obtain ⟨m, hm⟩ : ∃ m : Nat, within a.d 7 = m := ⟨(within a.d 7).toNat, by have := within_range a.d 7 (by decide); omega⟩
      have HW := hid (Within_any a.d 7 (by decide) (by decide) HOK.out.1)
      rw [hm] at HW
      clear hm
      go_upto_region 16 with (fail)
      refine wp_region_U 165 [63, 64, 65] [0, 1, 2] (fun a0 HA0 => ?_)
      have oe12 := ev HA0 12 rfl
      refine QSeq.pure rfl (.pointer (some ⟨wl.heap.size, 0, none⟩)) (fun E => ex_field rfl Try.underlying52 rfl (by kernel_rfl) (E.v oe12)) ?_
      refine QSeq.pure rfl _ (fun E => ex_load1 rfl Try.underlying3 rfl (E.d 0 0) (Cs.lit1 Hx22.out rfl)) ?_
      refine QSeq.go fun act E => ?_
      refine qc_callF (args := #[.int .i64 a.d, .int .i64 7]) rfl (wanted_none rfl) rfl Try.func10 (args2 (E.d 1 0) rfl) (HW.out _) ?_
      rintro e w2 ⟨rfl, hw2⟩
      obtain rfl : u15_4 = w2 := by first | exact hw2 | exact hw2.symm
      refine ⟨_, rfl, ?_⟩
      clear act E
      refine QSeq.nil (t' := [_, _, _]) rfl ?_
      obtain rfl := HA0.out
      clear HA0 oe12
      simp only [pz, Act.put, List.setIfInBounds_toArray, List.set_cons_zero, List.set_cons_succ]
      go_upto_block 2 with (fail)
      go_cut [7, 9] from 45 to 163 (fun t7 t9 w' => ∃ (x y : Nat) (rs : List (List Int)) (st : DS) (P1 P2 : Nat → Prop), t7 = .pointer (some ⟨x, 0, none⟩) ∧ t9 = .pointer (some ⟨y, 0, none⟩) ∧ rs.length ≤ 100 + 160 * (i + 1) ∧ u15_4.heap.size ≤ w'.heap.size ∧ LgR P1 (100 + 160 * (i + 1)) w' x p rs st ∧ GgR P2 (100 + 160 * (i + 1)) w' y (u1_0.heap.size) rs st ∧ (∀ k, P1 k → P2 k → False) ∧ (∀ k, P1 k → w.heap.size ≤ k ∧ k < w'.heap.size) ∧ (∀ k, P2 k → w.heap.size ≤ k ∧ k < w'.heap.size) ∧ RdS AcR (fun k => k < w.heap.size) w' (.slice (some ⟨g0, o0, none⟩) l.length cap) l ∧ Mod (fun _ => False) w w')
      case first =>
        by_cases h4 : m = 4
        · skip
          go_upto_region 21 with (fail)
          refine wp_region_U 165 [80, 79] [0, 1] (fun a0 HA0 => ?_)
          have oe65 := ev HA0 65 rfl
          refine QSeq.pure rfl (.bool true) (fun E => ex_binE rfl (E.v oe65) rfl (guard_ints _ _ _ _ _ _) (run_eql_i _ _ _ Try.underlying3) (congrArg Value.bool (eq_tt (by omega)))) ?_
          refine QSeq.pure rfl _ (fun E => ex_assign rfl (E.d 0 0)) ?_
          refine QSeq.nil (t' := [_, _]) rfl ?_
          obtain rfl := HA0.out
          clear HA0 oe65
          simp only [pz, Act.put, List.setIfInBounds_toArray, List.set_cons_zero, List.set_cons_succ]
          obtain ⟨kk, hkk, hkl⟩ := within_nat a.n 5 (by decide)
          have HW2 := hid (Within_any a.n 5 (by decide) (by decide) HOK.out.2)
          rw [hkk] at HW2
          clear hkk
          go_upto_region 22 with (fail)
          refine wp_region_U 165 [81, 82, 83, 13] [0, 1, 2, 3] (fun a0 HA0 => ?_)
          have oe12 := ev HA0 12 rfl
          refine QSeq.pure rfl (.pointer (some ⟨wl.heap.size, 1, none⟩)) (fun E => ex_field rfl Try.underlying52 rfl (by kernel_rfl) (E.v oe12)) ?_
          refine QSeq.pure rfl _ (fun E => ex_load1 rfl Try.underlying3 rfl (E.d 0 0) (Cs.lit1 Hx22.out rfl)) ?_
          refine QSeq.go fun act E => ?_
          refine qc_callF (args := #[.int .i64 a.n, .int .i64 5]) rfl (wanted_none rfl) rfl Try.func10 (args2 (E.d 1 0) rfl) (HW2.out _) ?_
          rintro e w2 ⟨rfl, hw2⟩
          obtain rfl : u15_4 = w2 := by first | exact hw2 | exact hw2.symm
          refine ⟨_, rfl, ?_⟩
          clear act E
          refine QSeq.pure rfl _ (fun E => ex_assign rfl (E.d 2 0)) ?_
          refine QSeq.nil (t' := [_, _, _, _]) rfl ?_
          obtain rfl := HA0.out
          clear HA0 oe12
          simp only [pz, Act.put, List.setIfInBounds_toArray, List.set_cons_zero, List.set_cons_succ]
          go_upto_region 23 with (fail)
          refine wp_region_U 165 [84, 85, 86] [0, 1, 2] (fun a0 HA0 => ?_)
          have oe5 := ev HA0 5 rfl
          have oe13 := ev HA0 13 rfl
          refine QSeq.pure rfl _ (fun E => ex_move rfl (E.v oe5)) ?_
          refine QSeq.pure rfl _ (fun E => ex_move rfl (E.v oe13)) ?_
          refine QSeq.call rfl rfl Try.func25 (Fuse_L (n := (kk : Int)) ((Kg.out.mod Cx19.out (fun _ _ h => h)).mod Cx23.out (by intro k h1 h2; have hb := Kb1.out k h1; omega)) (by omega)) (fun E => args2 (E.d 0 1) (E.d 1 0)) ?_
          rintro e u23_2 ⟨rfl, qlg, hm⟩
          refine ⟨_, rfl, ?_⟩
          have Hx25 := hid qlg
          have zu23_2 := hm.size
          have Cx26 := hid (show Mod (fun k => (P1 k)) u15_4 u23_2 from hm)
          clear hm
          clear qlg Kg
          refine QSeq.nil (t' := [_, _, _]) rfl ?_
          obtain rfl := HA0.out
          clear HA0 oe5 oe13
          simp only [pz, Act.put, List.setIfInBounds_toArray, List.set_cons_zero, List.set_cons_succ]
          go_upto_region 24 with (fail)
          refine wp_region_U 165 [87, 88, 89] [0, 1, 2] (fun a0 HA0 => ?_)
          have oe6 := ev HA0 6 rfl
          have oe13 := ev HA0 13 rfl
          refine QSeq.pure rfl _ (fun E => ex_move rfl (E.v oe6)) ?_
          refine QSeq.pure rfl _ (fun E => ex_move rfl (E.v oe13)) ?_
          refine QSeq.call rfl rfl Try.func26 (GFuse_L (n := (kk : Int)) (((Ko.out.mod Cx19.out (fun _ _ h => h)).mod Cx23.out (by intro k h1 h2; have hb := Kb2.out k h1; omega)).mod Cx26.out (by intro k h1 h2; first | omega | (have hb := Kb2.out k h1; omega) | (have hb := Kb1.out k h2; omega) | exact Kd12.out k h1 h2 | exact Kd12.out k h2 h1 | (have hb := Kb2.out k h1; have hb2 := Kb1.out k h2; omega))) (by intro k h1; have hb := Kb2.out k h1; omega) (by omega) (by omega)) (fun E => args2 (E.d 0 1) (E.d 1 0)) ?_
          rintro e u24_2 ⟨rfl, qgg, hm⟩
          refine ⟨_, rfl, ?_⟩
          have Hx27 := hid qgg
          have zu24_2 := hm.size
          have Cx28 := hid (show Mod (fun k => (P2 k)) u23_2 u24_2 from hm)
          clear hm
          clear qgg Ko
          refine QSeq.nil (t' := [_, _, _]) rfl ?_
          obtain rfl := HA0.out
          clear HA0 oe6 oe13
          simp only [pz, Act.put, List.setIfInBounds_toArray, List.set_cons_zero, List.set_cons_succ]
          clear Hx22
          clear Hx24
          go_wp2_with fail
          go_meet
          case rel => exact ⟨x, y, rs, _, (fun k => (P1 k)), (fun k => (P2 k)), rfl, rfl, (by omega), by omega, (Hx25.out.mod Cx28.out (by intro k h1 h2; first | omega | (have hb := Kb1.out k h1; omega) | (have hb := Kb2.out k h2; omega) | exact Kd12.out k h1 h2 | exact Kd12.out k h2 h1 | (have hb := Kb1.out k h1; have hb2 := Kb2.out k h2; omega))).widen (fun _ h => h) (by omega), Hx27.out.widen (fun _ h => h) (by omega), (by intro k h1 h2; first | omega | (have hb := Kb1.out k h1; omega) | (have hb := Kb2.out k h2; omega) | exact Kd12.out k h1 h2 | exact Kd12.out k h2 h1 | (have hb := Kb1.out k h1; have hb2 := Kb2.out k h2; omega)), (by intro k h1; first | omega | (have hb := Kb1.out k h1; omega)), (by intro k h1; first | omega | (have hb := Kb2.out k h1; omega)), ((((Kl.out.mod Cx19.out (fun _ _ h => h)).mod Cx23.out (by intro k h1 h2; omega)).mod Cx26.out (by intro k h1 h2; have hb := Kb1.out k h2; omega)).mod Cx28.out (by intro k h1 h2; have hb := Kb2.out k h2; omega)), ((((Km.out.trans Cx19.out (fun _ _ h => h.elim)).trans Cx23.out (by intro k h1 h2; omega)).trans Cx26.out (by intro k h1 h2; first | exact h2 | omega | (have hb := Kb1.out k h2; omega))).trans Cx28.out (by intro k h1 h2; first | exact h2 | omega | (have hb := Kb2.out k h2; omega)))⟩
        · skip
          by_cases h56 : m = 5 ∨ m = 6
          · skip
            rcases h56 with h5 | h5
            go_upto_region 27 with (fail)
            all_goals
              refine wp_region_U 165 [93, 94, 95, 96] [0, 1, 2, 3] (fun a0 HA0 => ?_)
              have oe5 := ev HA0 5 rfl
              have oe12 := ev HA0 12 rfl
              refine QSeq.pure rfl _ (fun E => ex_move rfl (E.v oe5)) ?_
              refine QSeq.pure rfl (.pointer (some ⟨wl.heap.size, 1, none⟩)) (fun E => ex_field rfl Try.underlying52 rfl (by kernel_rfl) (E.v oe12)) ?_
              refine QSeq.pure rfl _ (fun E => ex_load1 rfl Try.underlying3 rfl (E.d 1 0) (Cs.lit1 Hx22.out rfl)) ?_
              refine QSeq.call rfl rfl Try.func22 (Crash_L (keep := a.n) ((Kg.out.mod Cx19.out (fun _ _ h => h)).mod Cx23.out (by intro k h1 h2; have hb := Kb1.out k h1; omega)) (by omega) HOK.out.2) (fun E => args2 (E.d 0 2) (E.d 2 0)) ?_
              rintro e u27_3 ⟨rfl, qlg, hm⟩
              refine ⟨_, rfl, ?_⟩
              have Hx29 := hid qlg
              have zu27_3 := hm.size
              have Cx30 := hid (show Mod (fun k => (P1 k)) u15_4 u27_3 from hm)
              clear hm
              clear qlg Kg
              refine QSeq.nil (t' := [_, _, _, _]) rfl ?_
              obtain rfl := HA0.out
              clear HA0 oe5 oe12
              simp only [pz, Act.put, List.setIfInBounds_toArray, List.set_cons_zero, List.set_cons_succ]
              go_upto_region 28 with (fail)
              refine wp_region_U 165 [97, 98, 99, 100] [0, 1, 2, 3] (fun a0 HA0 => ?_)
              have oe6 := ev HA0 6 rfl
              have oe12 := ev HA0 12 rfl
              refine QSeq.pure rfl _ (fun E => ex_move rfl (E.v oe6)) ?_
              refine QSeq.pure rfl (.pointer (some ⟨wl.heap.size, 1, none⟩)) (fun E => ex_field rfl Try.underlying52 rfl (by kernel_rfl) (E.v oe12)) ?_
              refine QSeq.pure rfl _ (fun E => ex_load1 rfl Try.underlying3 rfl (E.d 1 0) (Cs.lit1 (Hx22.out.mod Cx30.out (by intro h2; first | omega | (have hb := Kb1.out _ h2; omega))) rfl)) ?_
              refine QSeq.call rfl rfl Try.func27 (GCrash_L (keep := a.n) (((Ko.out.mod Cx19.out (fun _ _ h => h)).mod Cx23.out (by intro k h1 h2; have hb := Kb2.out k h1; omega)).mod Cx30.out (by intro k h1 h2; first | omega | (have hb := Kb2.out k h1; omega) | (have hb := Kb1.out k h2; omega) | exact Kd12.out k h1 h2 | exact Kd12.out k h2 h1 | (have hb := Kb2.out k h1; have hb2 := Kb1.out k h2; omega))) (by intro k h1; have hb := Kb2.out k h1; omega) (by omega) HOK.out.2) (fun E => args2 (E.d 0 2) (E.d 2 0)) ?_
              rintro e u28_3 ⟨rfl, qgg, hm⟩
              refine ⟨_, rfl, ?_⟩
              have Hx31 := hid qgg
              have zu28_3 := hm.size
              have Cx32 := hid (show Mod (fun k => (P2 k)) u27_3 u28_3 from hm)
              clear hm
              clear qgg Ko
              refine QSeq.nil (t' := [_, _, _, _]) rfl ?_
              obtain rfl := HA0.out
              clear HA0 oe6 oe12
              simp only [pz, Act.put, List.setIfInBounds_toArray, List.set_cons_zero, List.set_cons_succ]
              clear Hx22
              clear Hx24
              obtain ⟨db, hdb⟩ : ∃ d, d = (dCrash st a.n.toNat).b := ⟨_, rfl⟩
              have hby : Bytes db := by rw [hdb]; exact ((Hx29.out.mod Cx32.out (by intro k h1 h2; first | omega | (have hb := Kb1.out k h1; omega) | (have hb := Kb2.out k h2; omega) | exact Kd12.out k h1 h2 | exact Kd12.out k h2 h1 | (have hb := Kb1.out k h1; have hb2 := Kb2.out k h2; omega)))).byt
              obtain ⟨rs2, hP⟩ := Parse.any db.length db (Nat.le_refl _) hby
              rw [hdb] at hP
              have HP := Lib.hid hP
              have hr2 : rs2.length ≤ 100 + 160 * i := by have h1 := rowsE_count rs2; have h2 := HP.out.pre.2; have h3 := LgR.len (Hx29.out.mod Cx32.out (by intro k h1 h2; first | omega | (have hb := Kb1.out k h1; omega) | (have hb := Kb2.out k h2; omega) | exact Kd12.out k h1 h2 | exact Kd12.out k h2 h1 | (have hb := Kb1.out k h1; have hb2 := Kb2.out k h2; omega))); (try dsimp only at h3); omega
              clear hP hby hdb
              go_upto_region 29 with (fail)
              refine wp_region_U 165 [102, 103, 101, 104, 105, 7, 8] [0, 1, 2, 3, 4, 5, 6] (fun a0 HA0 => ?_)
              have oe5 := ev HA0 5 rfl
              refine QSeq.pure rfl _ (fun E => ex_move rfl (E.v oe5)) ?_
              refine QSeq.call rfl rfl Try.func9 (Open_L (Hx29.out.mod Cx32.out (by intro k h1 h2; first | omega | (have hb := Kb1.out k h1; omega) | (have hb := Kb2.out k h2; omega) | exact Kd12.out k h1 h2 | exact Kd12.out k h2 h1 | (have hb := Kb1.out k h1; have hb2 := Kb2.out k h2; omega))) (by intro k h1; have hb := Kb1.out k h1; omega) (by omega) HP.out) (fun E => args1 (E.d 0 0)) ?_
              rintro e u29_1 ⟨x2, rfl, qlg, hm⟩
              refine ⟨_, rfl, ?_⟩
              have Hx33 := hid (qlg.widen (R' := (fun k => (P1 k) ∨ (New u28_3 u29_1 k))) (fun _ h => h) (Nat.le_refl _))
              have zu29_1 := hm.size
              have Cx34 := hid (show Mod (fun k => (P1 k)) u28_3 u29_1 from hm)
              clear hm
              clear qlg Hx29
              refine QSeq.pure rfl _ (fun E => ex_move rfl (E.d 1 0)) ?_
              refine QSeq.pure rfl (.pointer (some ⟨x2, 0, none⟩)) (fun E => ex_extract rfl (E.d 2 0) rfl) ?_
              refine QSeq.pure rfl (.int .i64 0) (fun E => ex_extract rfl (E.d 2 1) rfl) ?_
              refine QSeq.pure rfl _ (fun E => ex_assign rfl (E.d 3 1)) ?_
              refine QSeq.pure rfl _ (fun E => ex_assign rfl (E.d 4 1)) ?_
              refine QSeq.nil (t' := [_, _, _, _, _, _, _]) rfl ?_
              obtain rfl := HA0.out
              clear HA0 oe5
              simp only [pz, Act.put, List.setIfInBounds_toArray, List.set_cons_zero, List.set_cons_succ]
              go_upto_region 30 with (fail)
              refine wp_region_U 165 [107, 108, 106, 109, 110, 9, 10] [0, 1, 2, 3, 4, 5, 6] (fun a0 HA0 => ?_)
              have oe6 := ev HA0 6 rfl
              refine QSeq.pure rfl _ (fun E => ex_move rfl (E.v oe6)) ?_
              refine QSeq.call rfl rfl Try.func24 (GOpen_L (Hx31.out.mod Cx34.out (by intro k h1 h2; first | omega | (have hb := Kb2.out k h1; omega) | (have hb := Kb1.out k h2; omega) | exact Kd12.out k h1 h2 | exact Kd12.out k h2 h1 | (have hb := Kb2.out k h1; have hb2 := Kb1.out k h2; omega))) (by intro k h1; have hb := Kb2.out k h1; omega) (by omega) HP.out) (fun E => args1 (E.d 0 0)) ?_
              rintro e u30_1 ⟨y2, rfl, qgg, hm⟩
              refine ⟨_, rfl, ?_⟩
              have Hx35 := hid (qgg.widen (R' := (fun k => (P2 k) ∨ (New u29_1 u30_1 k))) (fun _ h => h) (Nat.le_refl _))
              have zu30_1 := hm.size
              have Cx36 := hid (show Mod (fun k => (P2 k)) u29_1 u30_1 from hm)
              clear hm
              clear qgg Hx31
              refine QSeq.pure rfl _ (fun E => ex_move rfl (E.d 1 0)) ?_
              refine QSeq.pure rfl (.pointer (some ⟨y2, 0, none⟩)) (fun E => ex_extract rfl (E.d 2 0) rfl) ?_
              refine QSeq.pure rfl (.int .i64 0) (fun E => ex_extract rfl (E.d 2 1) rfl) ?_
              refine QSeq.pure rfl _ (fun E => ex_assign rfl (E.d 3 1)) ?_
              refine QSeq.pure rfl _ (fun E => ex_assign rfl (E.d 4 1)) ?_
              refine QSeq.nil (t' := [_, _, _, _, _, _, _]) rfl ?_
              obtain rfl := HA0.out
              clear HA0 oe6
              simp only [pz, Act.put, List.setIfInBounds_toArray, List.set_cons_zero, List.set_cons_succ]
              go_upto_region 31 with (fail)
              refine wp_region_U 165 [111, 112, 113, 114, 115, 116, 117] [0, 1, 2, 3, 4, 5, 6] (fun a0 HA0 => ?_)
              have oe7 := ev HA0 7 rfl
              have oe8 := ev HA0 8 rfl
              have oe10 := ev HA0 10 rfl
              refine QSeq.pure rfl _ (fun E => ex_move rfl (E.v oe8)) ?_
              refine QSeq.pure rfl _ (fun E => ex_move rfl (E.v oe10)) ?_
              refine QSeq.pure rfl (.bool false) (fun E => ex_binE rfl (E.d 0 1) (E.d 1 0) (guard_ints _ _ _ _ _ _) (run_neq_i _ _ _ Try.underlying26) (congrArg Value.bool (show _ = false from rfl))) ?_
              refine QSeq.pure rfl _ (fun E => ex_move rfl (E.d 2 0)) ?_
              refine QSeq.pureG rfl (.pointer (some ⟨x2, 0, none⟩)) (fun E => ((wanted_of rfl rfl (E.sz 114 (by decide)) (E.d 3 0)).trans rfl)) (fun E => ex_move rfl (E.v oe7)) ?_
              refine QSeq.pureG rfl (.bool false) (fun E => ((wanted_of rfl rfl (E.sz 114 (by decide)) (E.d 3 1)).trans rfl)) (fun E => ex_bin rfl (E.d 4 0) rfl (guard_ptr _ _ _ _ _ _ _) (run_eql_nil _ Try.underlying25 (by kernel_rfl) _)) ?_
              refine QSeq.pure rfl (.bool false) (fun E => ex_pick rfl (E.d 3 2) rfl (E.d 5 0)) ?_
              refine QSeq.nil (t' := [_, _, _, _, _, _, _]) rfl ?_
              obtain rfl := HA0.out
              clear HA0 oe7 oe8 oe10
              simp only [pz, Act.put, List.setIfInBounds_toArray, List.set_cons_zero, List.set_cons_succ]
              go_wp2_with fail
              go_meet
              case rel => exact ⟨x2, y2, rs2, _, (fun k => (P1 k) ∨ (New u28_3 u29_1 k)), (fun k => (P2 k) ∨ (New u29_1 u30_1 k)), rfl, rfl, (by omega), by omega, (Hx33.out.mod Cx36.out (by intro k h1 h2; rcases h1 with h1 | h1 <;> first | omega | (have hb := Kb1.out k h1; omega) | (have hb := Kb2.out k h2; omega) | exact Kd12.out k h1 h2 | exact Kd12.out k h2 h1 | (have hb := Kb1.out k h1; have hb2 := Kb2.out k h2; omega))).widen (fun _ h => h) (by omega), Hx35.out.widen (fun _ h => h) (by omega), (by intro k h1 h2; rcases h1 with h1 | h1 <;> rcases h2 with h2 | h2 <;> first | omega | (have hb := Kb1.out k h1; omega) | (have hb := Kb2.out k h2; omega) | exact Kd12.out k h1 h2 | exact Kd12.out k h2 h1 | (have hb := Kb1.out k h1; have hb2 := Kb2.out k h2; omega)), (by intro k h1; rcases h1 with h1 | h1 <;> first | omega | (have hb := Kb1.out k h1; omega)), (by intro k h1; rcases h1 with h1 | h1 <;> first | omega | (have hb := Kb2.out k h1; omega)), ((((((Kl.out.mod Cx19.out (fun _ _ h => h)).mod Cx23.out (by intro k h1 h2; omega)).mod Cx30.out (by intro k h1 h2; have hb := Kb1.out k h2; omega)).mod Cx32.out (by intro k h1 h2; have hb := Kb2.out k h2; omega)).mod Cx34.out (by intro k h1 h2; have hb := Kb1.out k h2; omega)).mod Cx36.out (by intro k h1 h2; have hb := Kb2.out k h2; omega)), ((((((Km.out.trans Cx19.out (fun _ _ h => h.elim)).trans Cx23.out (by intro k h1 h2; omega)).trans Cx30.out (by intro k h1 h2; first | exact h2 | omega | (have hb := Kb1.out k h2; omega))).trans Cx32.out (by intro k h1 h2; first | exact h2 | omega | (have hb := Kb2.out k h2; omega))).trans Cx34.out (by intro k h1 h2; first | exact h2 | omega | (have hb := Kb1.out k h2; omega))).trans Cx36.out (by intro k h1 h2; first | exact h2 | omega | (have hb := Kb2.out k h2; omega)))⟩
          · skip
            go_upto_region 21 with (fail)
            refine wp_region_U 165 [80, 79] [0, 1] (fun a0 HA0 => ?_)
            have oe65 := ev HA0 65 rfl
            refine QSeq.pure rfl (.bool false) (fun E => ex_binE rfl (E.v oe65) rfl (guard_ints _ _ _ _ _ _) (run_eql_i _ _ _ Try.underlying3) (congrArg Value.bool (eq_ff (by omega)))) ?_
            refine QSeq.pure rfl _ (fun E => ex_assign rfl (E.d 0 0)) ?_
            refine QSeq.nil (t' := [_, _]) rfl ?_
            obtain rfl := HA0.out
            clear HA0 oe65
            simp only [pz, Act.put, List.setIfInBounds_toArray, List.set_cons_zero, List.set_cons_succ]
            go_upto_region 25 with (fail)
            refine wp_region_U 165 [91, 90] [0, 1] (fun a0 HA0 => ?_)
            have oe65 := ev HA0 65 rfl
            refine QSeq.pure rfl (.bool false) (fun E => ex_binE rfl (E.v oe65) rfl (guard_ints _ _ _ _ _ _) (run_eql_i _ _ _ Try.underlying3) (congrArg Value.bool (eq_ff (by omega)))) ?_
            refine QSeq.pure rfl _ (fun E => ex_assign rfl (E.d 0 0)) ?_
            refine QSeq.nil (t' := [_, _]) rfl ?_
            obtain rfl := HA0.out
            clear HA0 oe65
            simp only [pz, Act.put, List.setIfInBounds_toArray, List.set_cons_zero, List.set_cons_succ]
            go_upto_region 26 with (fail)
            refine wp_region_U 165 [92, 90] [0, 1] (fun a0 HA0 => ?_)
            have oe65 := ev HA0 65 rfl
            refine QSeq.pure rfl (.bool false) (fun E => ex_binE rfl (E.v oe65) rfl (guard_ints _ _ _ _ _ _) (run_eql_i _ _ _ Try.underlying3) (congrArg Value.bool (eq_ff (by omega)))) ?_
            refine QSeq.pure rfl _ (fun E => ex_assign rfl (E.d 0 0)) ?_
            refine QSeq.nil (t' := [_, _]) rfl ?_
            obtain rfl := HA0.out
            clear HA0 oe65
            simp only [pz, Act.put, List.setIfInBounds_toArray, List.set_cons_zero, List.set_cons_succ]
            go_upto_region 17 with (fail)
            refine wp_region_U 165 [66, 67, 68, 14] [0, 1, 2, 3] (fun a0 HA0 => ?_)
            have oe12 := ev HA0 12 rfl
            refine QSeq.pure rfl (.pointer (some ⟨wl.heap.size, 2, none⟩)) (fun E => ex_field rfl Try.underlying52 rfl (by kernel_rfl) (E.v oe12)) ?_
            refine QSeq.pure rfl _ (fun E => ex_load1 rfl Try.underlying22 rfl (E.d 0 0) (Cs.lit1 Hx22.out rfl)) ?_
            refine QSeq.call rfl rfl Try.func28 (Copy_Q Hx24.out.rd (by omega)) (fun E => args1 (E.d 1 0)) ?_
            rintro e u17_2 ⟨v_x, rfl, qxc, hm⟩
            obtain ⟨ao_xc, cap_xc, rfl⟩ := qxc.shape
            refine ⟨_, rfl, ?_⟩
            have Hx37 := hid qxc
            have zu17_2 := hm.size
            have Cx38 := hid (show Mod (fun _ => False) u15_4 u17_2 from hm)
            clear hm
            clear qxc
            refine QSeq.pure rfl _ (fun E => ex_assign rfl (E.d 2 0)) ?_
            refine QSeq.nil (t' := [_, _, _, _]) rfl ?_
            obtain rfl := HA0.out
            clear HA0 oe12
            simp only [pz, Act.put, List.setIfInBounds_toArray, List.set_cons_zero, List.set_cons_succ]
            have hpl := putL_len rs st cb
            rcases putE_is st cb with he | he
            · skip
              go_upto_region 18 with (fail)
              generalize ha0 : Act.mk _ _ = a0
              have oe7 : a0.eval (.tmp 7) = .pointer (some ⟨x, 0, none⟩) := by rw [← ha0]; rfl
              have oe9 : a0.eval (.tmp 9) = .pointer (some ⟨y, 0, none⟩) := by rw [← ha0]; rfl
              have oe12 : a0.eval (.tmp 12) = .pointer (some ⟨wl.heap.size, 0, none⟩) := by rw [← ha0]; rfl
              have oe14 : a0.eval (.tmp 14) = .slice ao_xc cb.length cap_xc := by rw [← ha0]; rfl
              have hsz0 : a0.tmps.size = 165 := by rw [← ha0]; rfl
              have HA0 := hid ha0
              clear ha0
              refine wp_region_Q1 165 hsz0 [69, 70, 71, 72, 73, 74, 75, 76] (fun k => (P1 k) ∨ (P2 k)) (fun k j => (k = 0 ∧ ((P1 j))) ∨ (k = 1 ∧ ((P2 j)))) (by intro k j h; (try dsimp only at h ⊢); rcases h with ⟨-, h⟩ | ⟨-, h⟩; (exact Or.inl (h)); (exact Or.inr (h))) [qi (.pointer (some ⟨x, 0, none⟩)), qi (.slice ao_xc cb.length cap_xc), qi (.int .i64 0), qi (.pointer (some ⟨y, 0, none⟩)), qi (.pointer (some ⟨wl.heap.size, 2, none⟩)), qi (.slice ao_cut cb.length cap_cut), qi (.int .i64 0), qi (.bool false)] ⟨qi_stable, qi_stable, qi_stable, qi_stable, qi_stable, qi_stable, qi_stable, qi_stable, trivial⟩ [2, 6] ⟨?_, ?_, ?_, ?_, ?_, ?_, ?_, ?_, trivial⟩ ?_
              · exact stq (fun E => ex_move rfl (E.v oe7))
              · exact stq (fun E => ex_move rfl (E.v oe14))
              · exact stepq_chain rfl
              · exact stq (fun E => ex_move rfl (E.v oe9))
              · exact stq (fun E => ex_field rfl Try.underlying52 rfl (by kernel_rfl) (E.v oe12))
              · exact stq (fun E => ex_load1 rfl Try.underlying22 rfl (E.d 4) (Cs.lit1 ((Hx22.out.mod Cx38.out (fun h => h)).mod E.m (by intro h2; rcases h2 with ⟨h0, h2 | h2⟩ | h2 <;> first | omega | (have hb := Kb1.out _ h2; omega) | (have hb := Kb2.out _ h2; omega))) rfl))
              · exact stepq_chain rfl
              · exact stq (fun E => ex_binE rfl (E.d 2) (E.d 6) (guard_ints _ _ _ _ _ _) (run_neq_i _ _ _ Try.underlying26) (congrArg Value.bool (show _ = false from rfl)))
              intro u18_0 hr
              have zu18_0 := hr.size
              have Cx39 := hid (hr.new (S := (fun k => (P1 k) ∨ (P2 k))))
              have Hx40 := hid ((((Kg.out.mod Cx19.out (fun _ _ h => h)).mod Cx23.out (by intro k h1 h2; have hb := Kb1.out k h1; omega)).mod Cx38.out (fun _ _ h => h)).mod hr (by intro k h1 h2; have hb := Kb1.out k h1; omega))
              clear Kg
              have Hx41 := hid ((((Ko.out.mod Cx19.out (fun _ _ h => h)).mod Cx23.out (by intro k h1 h2; have hb := Kb2.out k h1; omega)).mod Cx38.out (fun _ _ h => h)).mod hr (by intro k h1 h2; have hb := Kb2.out k h1; omega))
              clear Ko
              clear hr
              refine QChain.go fun Z act E => ?_
              refine qc_callF (args := #[.pointer (some ⟨x, 0, none⟩), .slice ao_xc cb.length cap_xc]) rfl (wanted_none rfl) rfl Try.func12 (args2 (E.d 0) (E.d 1)) (Put_LE Hx40.out (Hx37.out.mod Cx39.out (by intro k h1 h2; rcases h2 with h2 | h2 <;> first | omega | (have hb := Kb1.out k h2; omega) | (have hb := Kb2.out k h2; omega))).rd (by intro k h1; have hb := Kb1.out k h1; omega) (by intro k h1; omega) (by intro k h1 h2; have hb := Kb1.out k h2; omega) (by omega) (by omega) (by omega) he) ?_
              rintro e u18_1a ⟨rfl, qlg, hm⟩
              have zu18_1a := hm.size
              refine ⟨_, rfl, hm.mono (by intro k hk h; first | omega | exact Or.inl ⟨(by have hb := Kb1.out k h; omega), Or.inl ⟨rfl, h⟩⟩), (fun _ => rfl), ?_⟩
              intro u18_1 hr
              have zu18_1 := hr.size
              have Hx42 := hid ((qlg.widen (R' := (fun k => (P1 k) ∨ (New u18_0 u18_1a k))) (fun _ h => h) (Nat.le_refl _)).mod hr (by intro k h1 h2; rcases h1 with h1 | h1 <;> first | omega | (have hb := Kb1.out k h1; omega)))
              have hmr := hm.two hr
              have Hx43 := hid (Hx41.out.mod hmr (by intro k h1 h2; rcases h2 with h2 | h2 <;> first | omega | (have hb := Kb2.out k h1; omega) | (have hb := Kb1.out k h2; omega) | exact Kd12.out k h1 h2 | exact Kd12.out k h2 h1 | (have hb := Kb2.out k h1; have hb2 := Kb1.out k h2; omega)))
              clear Hx41
              clear hmr
              have Cx44 := hid (Cx39.out.goM hm hr (by intro k h0 h2; first | omega | exact Or.inl h2 | exact Or.inr (h2)))
              clear Cx39 hm hr Z act E qlg Hx40
              refine QChain.go fun Z act E => ?_
              refine qc_callF (args := #[.pointer (some ⟨y, 0, none⟩), .slice ao_cut cb.length cap_cut]) rfl (wanted_none rfl) rfl Try.func29 (args2 (E.d 3) (E.d 5)) (GPut_E Hx43.out ((Hx24.out.mod Cx38.out (fun _ _ h => h)).mod Cx44.out (by intro k h1 h2; rcases h2 with h2 | h2 <;> first | omega | (have hb := Kb1.out k h2; omega) | (have hb := Kb2.out k h2; omega))).rd (by intro k h1; have hb := Kb2.out k h1; omega) (by intro k h1; omega) (by intro k h1 h2; have hb := Kb2.out k h2; omega) (by omega) (by omega) (by omega) he) ?_
              rintro e u18_2a ⟨rfl, qgg, hm⟩
              have zu18_2a := hm.size
              refine ⟨_, rfl, hm.mono (by intro k hk h; first | omega | exact Or.inl ⟨(by have hb := Kb2.out k h; omega), Or.inr (⟨rfl, h⟩)⟩), (fun _ => rfl), ?_⟩
              intro u18_2 hr
              have zu18_2 := hr.size
              have Hx45 := hid ((qgg.widen (R' := (fun k => (P2 k) ∨ (New u18_1 u18_2a k))) (fun _ h => h) (Nat.le_refl _)).mod hr (by intro k h1 h2; rcases h1 with h1 | h1 <;> first | omega | (have hb := Kb2.out k h1; omega)))
              have hmr := hm.two hr
              have Hx46 := hid (Hx42.out.mod hmr (by intro k h1 h2; rcases h1 with h1 | h1 <;> rcases h2 with h2 | h2 <;> first | omega | (have hb := Kb1.out k h1; omega) | (have hb := Kb2.out k h2; omega) | exact Kd12.out k h1 h2 | exact Kd12.out k h2 h1 | (have hb := Kb1.out k h1; have hb2 := Kb2.out k h2; omega)))
              clear Hx42
              clear hmr
              have Cx47 := hid (Cx44.out.goM hm hr (by intro k h0 h2; first | omega | exact Or.inl h2 | exact Or.inr (h2)))
              clear Cx44 hm hr Z act E qgg Hx43
              refine QChain.nil fun vs hl hzz hrows hne => ?_
              obtain ⟨Z, hYZ, hZb, hV⟩ := hzz
              have f0 := fvi hV hl 0
              have f1 := fvi hV hl 1
              have f2 := fvi hV hl 2
              have f3 := fvi hV hl 3
              have f6 := fvi hV hl 6
              have f7 := fvi hV hl 7
              rw [show vs = [gw vs 0, gw vs 1, gw vs 2, gw vs 3, gw vs 4, gw vs 5, gw vs 6, gw vs 7] from (gw_eta hl).trans rfl]
              have ha0 := HA0.out
              subst ha0
              clear HA0 hV hYZ hZb hsz0 hrows hne oe7 oe9 oe12 oe14
              simp only [putAll, Act.put, List.setIfInBounds_toArray, List.set_cons_zero, List.set_cons_succ, f0, f1, f2, f3, f6, f7]
              clear hl f0 f1 f2 f3 f6 f7
              clear Hx24
              clear Hx22
              go_upto_region 20 with (fail)
              refine wp_region_U 165 [77, 78] [0, 1] (fun a0 HA0 => ?_)
              have oe14 := ev HA0 14 rfl
              refine QSeq.pure rfl _ (fun E => ex_move rfl (E.v oe14)) ?_
              refine QSeq.call rfl rfl Try.func30 (Spoil_R (Hx37.out.mod Cx47.out (by intro k h1 h2; rcases h2 with h2 | h2 <;> first | omega | (have hb := Kb1.out k h2; omega) | (have hb := Kb2.out k h2; omega)))) (fun E => args1 (E.d 0 0)) ?_
              rintro e u20_1 ⟨rfl, hm⟩
              refine ⟨_, rfl, ?_⟩
              have zu20_1 := hm.size
              have Cx48 := hid (show Mod (fun k => (New u15_4 u17_2 k)) u18_2 u20_1 from hm)
              clear hm
              refine QSeq.nil (t' := [_, _]) rfl ?_
              obtain rfl := HA0.out
              clear HA0 oe14
              simp only [pz, Act.put, List.setIfInBounds_toArray, List.set_cons_zero, List.set_cons_succ]
              clear Hx37
              go_wp2_with fail
              go_meet
              case rel => exact ⟨x, y, _, _, (fun k => (P1 k) ∨ (New u18_0 u18_1a k)), (fun k => (P2 k) ∨ (New u18_1 u18_2a k)), rfl, rfl, (by omega), by omega, (Hx46.out.mod Cx48.out (by intro k h1 h2; rcases h1 with h1 | h1 <;> first | omega | (have hb := Kb1.out k h1; omega))).widen (fun _ h => h) (by omega), (Hx45.out.mod Cx48.out (by intro k h1 h2; rcases h1 with h1 | h1 <;> first | omega | (have hb := Kb2.out k h1; omega))).widen (fun _ h => h) (by omega), (by intro k h1 h2; rcases h1 with h1 | h1 <;> rcases h2 with h2 | h2 <;> first | omega | (have hb := Kb1.out k h1; omega) | (have hb := Kb2.out k h2; omega) | exact Kd12.out k h1 h2 | exact Kd12.out k h2 h1 | (have hb := Kb1.out k h1; have hb2 := Kb2.out k h2; omega)), (by intro k h1; rcases h1 with h1 | h1 <;> first | omega | (have hb := Kb1.out k h1; omega)), (by intro k h1; rcases h1 with h1 | h1 <;> first | omega | (have hb := Kb2.out k h1; omega)), (((((Kl.out.mod Cx19.out (fun _ _ h => h)).mod Cx23.out (by intro k h1 h2; omega)).mod Cx38.out (fun _ _ h => h)).mod Cx47.out (by intro k h1 h2; rcases h2 with h2 | h2 <;> first | omega | (have hb := Kb1.out k h2; omega) | (have hb := Kb2.out k h2; omega))).mod Cx48.out (by intro k h1 h2; omega)), (((((Km.out.trans Cx19.out (fun _ _ h => h.elim)).trans Cx23.out (by intro k h1 h2; omega)).trans Cx38.out (fun _ _ h => h.elim)).trans Cx47.out (by intro k h1 h2; rcases h2 with h2 | h2 <;> first | exact h2 | omega | (have hb := Kb1.out k h2; omega) | (have hb := Kb2.out k h2; omega))).trans Cx48.out (by intro k h1 h2; omega))⟩
            · skip
              go_upto_region 18 with (fail)
              generalize ha0 : Act.mk _ _ = a0
              have oe7 : a0.eval (.tmp 7) = .pointer (some ⟨x, 0, none⟩) := by rw [← ha0]; rfl
              have oe9 : a0.eval (.tmp 9) = .pointer (some ⟨y, 0, none⟩) := by rw [← ha0]; rfl
              have oe12 : a0.eval (.tmp 12) = .pointer (some ⟨wl.heap.size, 0, none⟩) := by rw [← ha0]; rfl
              have oe14 : a0.eval (.tmp 14) = .slice ao_xc cb.length cap_xc := by rw [← ha0]; rfl
              have hsz0 : a0.tmps.size = 165 := by rw [← ha0]; rfl
              have HA0 := hid ha0
              clear ha0
              refine wp_region_Q1 165 hsz0 [69, 70, 71, 72, 73, 74, 75, 76] (fun k => (P1 k) ∨ (P2 k)) (fun k j => (k = 0 ∧ ((P1 j))) ∨ (k = 1 ∧ ((P2 j)))) (by intro k j h; (try dsimp only at h ⊢); rcases h with ⟨-, h⟩ | ⟨-, h⟩; (exact Or.inl (h)); (exact Or.inr (h))) [qi (.pointer (some ⟨x, 0, none⟩)), qi (.slice ao_xc cb.length cap_xc), qi (.int .i64 9), qi (.pointer (some ⟨y, 0, none⟩)), qi (.pointer (some ⟨wl.heap.size, 2, none⟩)), qi (.slice ao_cut cb.length cap_cut), qi (.int .i64 9), qi (.bool false)] ⟨qi_stable, qi_stable, qi_stable, qi_stable, qi_stable, qi_stable, qi_stable, qi_stable, trivial⟩ [2, 6] ⟨?_, ?_, ?_, ?_, ?_, ?_, ?_, ?_, trivial⟩ ?_
              · exact stq (fun E => ex_move rfl (E.v oe7))
              · exact stq (fun E => ex_move rfl (E.v oe14))
              · exact stepq_chain rfl
              · exact stq (fun E => ex_move rfl (E.v oe9))
              · exact stq (fun E => ex_field rfl Try.underlying52 rfl (by kernel_rfl) (E.v oe12))
              · exact stq (fun E => ex_load1 rfl Try.underlying22 rfl (E.d 4) (Cs.lit1 ((Hx22.out.mod Cx38.out (fun h => h)).mod E.m (by intro h2; rcases h2 with ⟨h0, h2 | h2⟩ | h2 <;> first | omega | (have hb := Kb1.out _ h2; omega) | (have hb := Kb2.out _ h2; omega))) rfl))
              · exact stepq_chain rfl
              · exact stq (fun E => ex_binE rfl (E.d 2) (E.d 6) (guard_ints _ _ _ _ _ _) (run_neq_i _ _ _ Try.underlying26) (congrArg Value.bool (show _ = false from rfl)))
              intro u18_0 hr
              have zu18_0 := hr.size
              have Cx49 := hid (hr.new (S := (fun k => (P1 k) ∨ (P2 k))))
              have Hx50 := hid ((((Kg.out.mod Cx19.out (fun _ _ h => h)).mod Cx23.out (by intro k h1 h2; have hb := Kb1.out k h1; omega)).mod Cx38.out (fun _ _ h => h)).mod hr (by intro k h1 h2; have hb := Kb1.out k h1; omega))
              clear Kg
              have Hx51 := hid ((((Ko.out.mod Cx19.out (fun _ _ h => h)).mod Cx23.out (by intro k h1 h2; have hb := Kb2.out k h1; omega)).mod Cx38.out (fun _ _ h => h)).mod hr (by intro k h1 h2; have hb := Kb2.out k h1; omega))
              clear Ko
              clear hr
              refine QChain.go fun Z act E => ?_
              refine qc_callF (args := #[.pointer (some ⟨x, 0, none⟩), .slice ao_xc cb.length cap_xc]) rfl (wanted_none rfl) rfl Try.func12 (args2 (E.d 0) (E.d 1)) (Put_LE Hx50.out (Hx37.out.mod Cx49.out (by intro k h1 h2; rcases h2 with h2 | h2 <;> first | omega | (have hb := Kb1.out k h2; omega) | (have hb := Kb2.out k h2; omega))).rd (by intro k h1; have hb := Kb1.out k h1; omega) (by intro k h1; omega) (by intro k h1 h2; have hb := Kb1.out k h2; omega) (by omega) (by omega) (by omega) he) ?_
              rintro e u18_1a ⟨rfl, qlg, hm⟩
              have zu18_1a := hm.size
              refine ⟨_, rfl, hm.mono (by intro k hk h; first | omega | exact Or.inl ⟨(by have hb := Kb1.out k h; omega), Or.inl ⟨rfl, h⟩⟩), (fun _ => rfl), ?_⟩
              intro u18_1 hr
              have zu18_1 := hr.size
              have Hx52 := hid ((qlg.widen (R' := (fun k => (P1 k) ∨ (New u18_0 u18_1a k))) (fun _ h => h) (Nat.le_refl _)).mod hr (by intro k h1 h2; rcases h1 with h1 | h1 <;> first | omega | (have hb := Kb1.out k h1; omega)))
              have hmr := hm.two hr
              have Hx53 := hid (Hx51.out.mod hmr (by intro k h1 h2; rcases h2 with h2 | h2 <;> first | omega | (have hb := Kb2.out k h1; omega) | (have hb := Kb1.out k h2; omega) | exact Kd12.out k h1 h2 | exact Kd12.out k h2 h1 | (have hb := Kb2.out k h1; have hb2 := Kb1.out k h2; omega)))
              clear Hx51
              clear hmr
              have Cx54 := hid (Cx49.out.goM hm hr (by intro k h0 h2; first | omega | exact Or.inl h2 | exact Or.inr (h2)))
              clear Cx49 hm hr Z act E qlg Hx50
              refine QChain.go fun Z act E => ?_
              refine qc_callF (args := #[.pointer (some ⟨y, 0, none⟩), .slice ao_cut cb.length cap_cut]) rfl (wanted_none rfl) rfl Try.func29 (args2 (E.d 3) (E.d 5)) (GPut_E Hx53.out ((Hx24.out.mod Cx38.out (fun _ _ h => h)).mod Cx54.out (by intro k h1 h2; rcases h2 with h2 | h2 <;> first | omega | (have hb := Kb1.out k h2; omega) | (have hb := Kb2.out k h2; omega))).rd (by intro k h1; have hb := Kb2.out k h1; omega) (by intro k h1; omega) (by intro k h1 h2; have hb := Kb2.out k h2; omega) (by omega) (by omega) (by omega) he) ?_
              rintro e u18_2a ⟨rfl, qgg, hm⟩
              have zu18_2a := hm.size
              refine ⟨_, rfl, hm.mono (by intro k hk h; first | omega | exact Or.inl ⟨(by have hb := Kb2.out k h; omega), Or.inr (⟨rfl, h⟩)⟩), (fun _ => rfl), ?_⟩
              intro u18_2 hr
              have zu18_2 := hr.size
              have Hx55 := hid ((qgg.widen (R' := (fun k => (P2 k) ∨ (New u18_1 u18_2a k))) (fun _ h => h) (Nat.le_refl _)).mod hr (by intro k h1 h2; rcases h1 with h1 | h1 <;> first | omega | (have hb := Kb2.out k h1; omega)))
              have hmr := hm.two hr
              have Hx56 := hid (Hx52.out.mod hmr (by intro k h1 h2; rcases h1 with h1 | h1 <;> rcases h2 with h2 | h2 <;> first | omega | (have hb := Kb1.out k h1; omega) | (have hb := Kb2.out k h2; omega) | exact Kd12.out k h1 h2 | exact Kd12.out k h2 h1 | (have hb := Kb1.out k h1; have hb2 := Kb2.out k h2; omega)))
              clear Hx52
              clear hmr
              have Cx57 := hid (Cx54.out.goM hm hr (by intro k h0 h2; first | omega | exact Or.inl h2 | exact Or.inr (h2)))
              clear Cx54 hm hr Z act E qgg Hx53
              refine QChain.nil fun vs hl hzz hrows hne => ?_
              obtain ⟨Z, hYZ, hZb, hV⟩ := hzz
              have f0 := fvi hV hl 0
              have f1 := fvi hV hl 1
              have f2 := fvi hV hl 2
              have f3 := fvi hV hl 3
              have f6 := fvi hV hl 6
              have f7 := fvi hV hl 7
              rw [show vs = [gw vs 0, gw vs 1, gw vs 2, gw vs 3, gw vs 4, gw vs 5, gw vs 6, gw vs 7] from (gw_eta hl).trans rfl]
              have ha0 := HA0.out
              subst ha0
              clear HA0 hV hYZ hZb hsz0 hrows hne oe7 oe9 oe12 oe14
              simp only [putAll, Act.put, List.setIfInBounds_toArray, List.set_cons_zero, List.set_cons_succ, f0, f1, f2, f3, f6, f7]
              clear hl f0 f1 f2 f3 f6 f7
              clear Hx24
              clear Hx22
              go_upto_region 20 with (fail)
              refine wp_region_U 165 [77, 78] [0, 1] (fun a0 HA0 => ?_)
              have oe14 := ev HA0 14 rfl
              refine QSeq.pure rfl _ (fun E => ex_move rfl (E.v oe14)) ?_
              refine QSeq.call rfl rfl Try.func30 (Spoil_R (Hx37.out.mod Cx57.out (by intro k h1 h2; rcases h2 with h2 | h2 <;> first | omega | (have hb := Kb1.out k h2; omega) | (have hb := Kb2.out k h2; omega)))) (fun E => args1 (E.d 0 0)) ?_
              rintro e u20_1 ⟨rfl, hm⟩
              refine ⟨_, rfl, ?_⟩
              have zu20_1 := hm.size
              have Cx58 := hid (show Mod (fun k => (New u15_4 u17_2 k)) u18_2 u20_1 from hm)
              clear hm
              refine QSeq.nil (t' := [_, _]) rfl ?_
              obtain rfl := HA0.out
              clear HA0 oe14
              simp only [pz, Act.put, List.setIfInBounds_toArray, List.set_cons_zero, List.set_cons_succ]
              clear Hx37
              go_wp2_with fail
              go_meet
              case rel => exact ⟨x, y, _, _, (fun k => (P1 k) ∨ (New u18_0 u18_1a k)), (fun k => (P2 k) ∨ (New u18_1 u18_2a k)), rfl, rfl, (by omega), by omega, (Hx56.out.mod Cx58.out (by intro k h1 h2; rcases h1 with h1 | h1 <;> first | omega | (have hb := Kb1.out k h1; omega))).widen (fun _ h => h) (by omega), (Hx55.out.mod Cx58.out (by intro k h1 h2; rcases h1 with h1 | h1 <;> first | omega | (have hb := Kb2.out k h1; omega))).widen (fun _ h => h) (by omega), (by intro k h1 h2; rcases h1 with h1 | h1 <;> rcases h2 with h2 | h2 <;> first | omega | (have hb := Kb1.out k h1; omega) | (have hb := Kb2.out k h2; omega) | exact Kd12.out k h1 h2 | exact Kd12.out k h2 h1 | (have hb := Kb1.out k h1; have hb2 := Kb2.out k h2; omega)), (by intro k h1; rcases h1 with h1 | h1 <;> first | omega | (have hb := Kb1.out k h1; omega)), (by intro k h1; rcases h1 with h1 | h1 <;> first | omega | (have hb := Kb2.out k h1; omega)), (((((Kl.out.mod Cx19.out (fun _ _ h => h)).mod Cx23.out (by intro k h1 h2; omega)).mod Cx38.out (fun _ _ h => h)).mod Cx57.out (by intro k h1 h2; rcases h2 with h2 | h2 <;> first | omega | (have hb := Kb1.out k h2; omega) | (have hb := Kb2.out k h2; omega))).mod Cx58.out (by intro k h1 h2; omega)), (((((Km.out.trans Cx19.out (fun _ _ h => h.elim)).trans Cx23.out (by intro k h1 h2; omega)).trans Cx38.out (fun _ _ h => h.elim)).trans Cx57.out (by intro k h1 h2; rcases h2 with h2 | h2 <;> first | exact h2 | omega | (have hb := Kb1.out k h2; omega) | (have hb := Kb2.out k h2; omega))).trans Cx58.out (by intro k h1 h2; omega))⟩
      case rest =>
        clear Kg Ko Kl Km Hx22 Hx24
        obtain ⟨wq, rfl⟩ : ∃ x, x = wc := ⟨_, rfl⟩
        obtain ⟨x2, y2, rs2, st2, P3, P4, rfl, rfl, hrl2, hz2, hg, ho, hd12, hb1, hb2, hl, hm⟩ := hcut
        have Jg := Lib.hid hg
        have Jo := Lib.hid ho
        have Jd12 := Lib.hid hd12
        have Jb1 := Lib.hid hb1
        have Jb2 := Lib.hid hb2
        have Jl := Lib.hid hl
        have Jm := Lib.hid hm
        clear hg ho hd12 hb1 hb2 hl hm
        obtain ⟨aog, capg, aob, capb, fb2, hk1, hk2, hk3, hk4, hk5, hk6⟩ := GgR.open Jo.out
        have hyl := hk1.lt
        have hql := hk2.lt
        have HGW := Lib.hid hk1
        have HGL := Lib.hid hk5
        have HGB := Lib.hid hk6
        obtain ⟨bl, hbl⟩ : ∃ b, b = st2.b := ⟨_, rfl⟩
        rw [← hbl] at hk2 HGB
        have HGD := Lib.hid hk2
        have HBL := Lib.hid hbl
        clear hk1 hk2 hk3 hk4 hk5 hk6 hbl
        go_upto_region 33 with (fail)
        generalize ha0 : Act.mk _ _ = a0
        have oe5 : a0.eval (.tmp 5) = .pointer (some ⟨p, 0, none⟩) := by rw [← ha0]; rfl
        have oe6 : a0.eval (.tmp 6) = .pointer (some ⟨u1_0.heap.size, 0, none⟩) := by rw [← ha0]; rfl
        have oe7 : a0.eval (.tmp 7) = .pointer (some ⟨x2, 0, none⟩) := by rw [← ha0]; rfl
        have oe9 : a0.eval (.tmp 9) = .pointer (some ⟨y2, 0, none⟩) := by rw [← ha0]; rfl
        have hsz0 : a0.tmps.size = 165 := by rw [← ha0]; rfl
        have HA0 := hid ha0
        clear ha0
        refine wp_region_Q0 165 hsz0 [118, 119, 120, 121, 122, 123, 124, 125, 126, 127, 128, 129, 130, 131, 132, 133, 134, 135, 136, 137, 138, 139, 140, 141, 142, 143, 144, 145, 146, 147, 148, 149, 150, 151, 152, 153, 154, 155, 156, 157, 158, 159, 160, 161, 162, 163] [qi (.pointer (some ⟨x2, 0, none⟩)), qv 0, qi (.pointer (some ⟨y2, 0, none⟩)), qi (.pointer (some ⟨y2, 0, none⟩)), qi (.pointer (some ⟨y2, 1, none⟩)), qi (.slice aog rs2.length capg), qi (.bool true), qi (.bool false), qi (.bool false), qi (.pointer (some ⟨x2, 0, none⟩)), qi (.int .i64 ((rs2.length : Nat) : Int)), qi (.pointer (some ⟨y2, 0, none⟩)), qi (.pointer (some ⟨y2, 0, none⟩)), qi (.pointer (some ⟨y2, 1, none⟩)), qi (.slice aog rs2.length capg), qi (.int .i64 rs2.length), qi (.bool false), qi (.bool false), qi (.bool false), qi (.pointer (some ⟨p, 0, none⟩)), qv 2, qi (.pointer (some ⟨u1_0.heap.size, 0, none⟩)), qi (.pointer (some ⟨u1_0.heap.size, 0, none⟩)), qi (.pointer (some ⟨u1_0.heap.size, 0, none⟩)), qi (.slice aob bl.length capb), qi (.bool true), qi (.bool false), qi (.bool false), qi (.bool false), qi (.pointer (some ⟨p, 0, none⟩)), qi (.int .i64 ((st2.sy : Nat) : Int)), qi (.pointer (some ⟨u1_0.heap.size, 0, none⟩)), qi (.pointer (some ⟨u1_0.heap.size, 0, none⟩)), qi (.pointer (some ⟨u1_0.heap.size, 1, none⟩)), qi (.int .i64 ((st2.sy : Nat) : Int)), qi (.bool false), qi (.bool false), qi (.bool false), qi (.pointer (some ⟨p, 0, none⟩)), qi (.bool st2.dead), qi (.pointer (some ⟨u1_0.heap.size, 0, none⟩)), qi (.pointer (some ⟨u1_0.heap.size, 0, none⟩)), qi (.pointer (some ⟨u1_0.heap.size, 2, none⟩)), qi (.bool st2.dead), qi (.bool false), qi (.bool false)] ⟨qi_stable, qv_stable, qi_stable, qi_stable, qi_stable, qi_stable, qi_stable, qi_stable, qi_stable, qi_stable, qi_stable, qi_stable, qi_stable, qi_stable, qi_stable, qi_stable, qi_stable, qi_stable, qi_stable, qi_stable, qv_stable, qi_stable, qi_stable, qi_stable, qi_stable, qi_stable, qi_stable, qi_stable, qi_stable, qi_stable, qi_stable, qi_stable, qi_stable, qi_stable, qi_stable, qi_stable, qi_stable, qi_stable, qi_stable, qi_stable, qi_stable, qi_stable, qi_stable, qi_stable, qi_stable, qi_stable, trivial⟩ [1, 6, 20, 25] ⟨?_, ?_, ?_, ?_, ?_, ?_, ?_, ?_, ?_, ?_, ?_, ?_, ?_, ?_, ?_, ?_, ?_, ?_, ?_, ?_, ?_, ?_, ?_, ?_, ?_, ?_, ?_, ?_, ?_, ?_, ?_, ?_, ?_, ?_, ?_, ?_, ?_, ?_, ?_, ?_, ?_, ?_, ?_, ?_, ?_, ?_, trivial⟩ ?_
        · exact stq (fun E => ex_move rfl (E.v oe7))
        · exact stepq_chain rfl
        · exact stq (fun E => ex_move rfl (E.v oe9))
        · exact stq (fun E => ex_nil rfl (E.d 2))
        · exact stq (fun E => ex_field rfl Try.underlying56 rfl (by kernel_rfl) (E.d 3))
        · exact stq (fun E => ex_load1 rfl Try.underlying33 rfl (E.d 4) (Cs.lit1 (HGW.out.mod E.m.old (by intro h2; omega)) rfl))
        · exact stepq_chain rfl
        · exact stq (fun E => ex_not rfl (E.d 6))
        · exact stq (fun E => ex_move rfl (E.d 7))
        · refine stepq_env rfl rfl rfl fun _ _ _ _ _ _ _ hout hsz hd _ _ => ?_
          have h8 := hd ⟨8, .guard⟩ (by simp) rfl _ rfl
          refine qe_run rfl ((wanted_of rfl rfl (hsz 126 (by decide)) h8).trans rfl) (ex_move rfl ((hout 7 (by decide)).trans oe7)) QE.refl ?_
          rfl
        · refine stepq_env rfl rfl rfl fun _ _ _ _ _ hm _ _ hsz hd _ _ => ?_
          have h8 := hd ⟨8, .chain⟩ (by simp) rfl _ rfl
          have h9 := hd ⟨9, .data⟩ (by simp) rfl _ rfl
          refine qe_callF (args := #[.pointer (some ⟨x2, 0, none⟩)]) rfl ((wanted_of rfl rfl (hsz 126 (by decide)) h8).trans rfl) rfl Try.func13 (args1 h9) (WLen_L (Jg.out.mod hm.old (by intro k h1 h2; have hb := Jb1.out k h1; omega))) ?_
          rintro e w2 ⟨rfl, rfl⟩
          exact ⟨_, rfl, QE.refl, rfl⟩
        · refine stepq_env rfl rfl rfl fun _ _ _ _ _ _ _ hout hsz hd _ _ => ?_
          have h8 := hd ⟨8, .guard⟩ (by simp) rfl _ rfl
          refine qe_run rfl ((wanted_of rfl rfl (hsz 126 (by decide)) h8).trans rfl) (ex_move rfl ((hout 9 (by decide)).trans oe9)) QE.refl ?_
          rfl
        · refine stepq_env rfl rfl rfl fun _ _ _ _ _ _ _ _ hsz hd _ _ => ?_
          have h8 := hd ⟨8, .guard⟩ (by simp) rfl _ rfl
          have h11 := hd ⟨11, .data⟩ (by simp) rfl _ rfl
          refine qe_run rfl ((wanted_of rfl rfl (hsz 126 (by decide)) h8).trans rfl) (ex_nil rfl h11) QE.refl ?_
          rfl
        · refine stepq_env rfl rfl rfl fun _ _ _ _ _ _ _ _ hsz hd _ _ => ?_
          have h8 := hd ⟨8, .guard⟩ (by simp) rfl _ rfl
          have h12 := hd ⟨12, .data⟩ (by simp) rfl _ rfl
          refine qe_run rfl ((wanted_of rfl rfl (hsz 126 (by decide)) h8).trans rfl) (ex_field rfl Try.underlying56 rfl (by kernel_rfl) h12) QE.refl ?_
          rfl
        · refine stepq_env rfl rfl rfl fun _ _ _ _ _ hm _ _ hsz hd _ _ => ?_
          have h8 := hd ⟨8, .guard⟩ (by simp) rfl _ rfl
          have h13 := hd ⟨13, .data⟩ (by simp) rfl _ rfl
          refine qe_run rfl ((wanted_of rfl rfl (hsz 126 (by decide)) h8).trans rfl) (ex_load1 rfl Try.underlying33 rfl h13 (Cs.lit1 (HGW.out.mod hm.old (by intro h2; omega)) rfl)) QE.refl ?_
          rfl
        · refine stepq_env rfl rfl rfl fun _ _ _ _ _ _ _ _ hsz hd _ _ => ?_
          have h8 := hd ⟨8, .guard⟩ (by simp) rfl _ rfl
          have h14 := hd ⟨14, .data⟩ (by simp) rfl _ rfl
          refine qe_run rfl ((wanted_of rfl rfl (hsz 126 (by decide)) h8).trans rfl) (ex_lenS rfl h14 Try.underlying33) QE.refl ?_
          rfl
        · refine stepq_env rfl rfl rfl fun _ _ _ _ _ _ _ _ hsz hd _ _ => ?_
          have h8 := hd ⟨8, .guard⟩ (by simp) rfl _ rfl
          have h10 := hd ⟨10, .data⟩ (by simp) rfl _ rfl
          have h15 := hd ⟨15, .data⟩ (by simp) rfl _ rfl
          refine qe_run rfl ((wanted_of rfl rfl (hsz 126 (by decide)) h8).trans rfl) (ex_binE rfl h10 h15 (guard_ints _ _ _ _ _ _) (run_neq_i _ _ _ Try.underlying3) (congrArg Value.bool (ne_ff rfl))) QE.refl ?_
          rfl
        · exact stq (fun E => ex_pick rfl (E.d 8) rfl (E.d 16))
        · exact stq (fun E => ex_move rfl (E.d 17))
        · refine stepq_env rfl rfl rfl fun _ _ _ _ _ _ _ hout hsz hd _ _ => ?_
          have h18 := hd ⟨18, .guard⟩ (by simp) rfl _ rfl
          refine qe_run rfl ((wanted_of rfl rfl (hsz 136 (by decide)) h18).trans rfl) (ex_move rfl ((hout 5 (by decide)).trans oe5)) QE.refl ?_
          rfl
        · exact stepq_chain rfl
        · refine stepq_env rfl rfl rfl fun _ _ _ _ _ _ _ hout hsz hd _ _ => ?_
          have h18 := hd ⟨18, .guard⟩ (by simp) rfl _ rfl
          refine qe_run rfl ((wanted_of rfl rfl (hsz 136 (by decide)) h18).trans rfl) (ex_move rfl ((hout 6 (by decide)).trans oe6)) QE.refl ?_
          rfl
        · refine stepq_env rfl rfl rfl fun _ _ _ _ _ _ _ _ hsz hd _ _ => ?_
          have h18 := hd ⟨18, .guard⟩ (by simp) rfl _ rfl
          have h21 := hd ⟨21, .data⟩ (by simp) rfl _ rfl
          refine qe_run rfl ((wanted_of rfl rfl (hsz 136 (by decide)) h18).trans rfl) (ex_nil rfl h21) QE.refl ?_
          rfl
        · refine stepq_env rfl rfl rfl fun _ _ _ _ _ _ _ _ hsz hd _ _ => ?_
          have h18 := hd ⟨18, .guard⟩ (by simp) rfl _ rfl
          have h22 := hd ⟨22, .data⟩ (by simp) rfl _ rfl
          refine qe_run rfl ((wanted_of rfl rfl (hsz 136 (by decide)) h18).trans rfl) (ex_field rfl Try.underlying47 rfl (by kernel_rfl) h22) QE.refl ?_
          rfl
        · refine stepq_env rfl rfl rfl fun _ _ _ _ _ hm _ _ hsz hd _ _ => ?_
          have h18 := hd ⟨18, .guard⟩ (by simp) rfl _ rfl
          have h23 := hd ⟨23, .data⟩ (by simp) rfl _ rfl
          refine qe_run rfl ((wanted_of rfl rfl (hsz 136 (by decide)) h18).trans rfl) (ex_load1 rfl Try.underlying22 rfl h23 (Cs.lit1 (HGD.out.mod hm.old (by intro h2; omega)) rfl)) QE.refl ?_
          rfl
        · exact stepq_chain rfl
        · refine stepq_env rfl rfl rfl fun _ _ _ _ _ _ _ _ hsz hd _ _ => ?_
          have h18 := hd ⟨18, .guard⟩ (by simp) rfl _ rfl
          have h25 := hd ⟨25, .data⟩ (by simp) rfl _ rfl
          refine qe_run rfl ((wanted_of rfl rfl (hsz 136 (by decide)) h18).trans rfl) (ex_not rfl h25) QE.refl ?_
          rfl
        · exact stq (fun E => ex_pick rfl (E.d 18) rfl (E.d 26))
        · exact stq (fun E => ex_move rfl (E.d 27))
        · refine stepq_env rfl rfl rfl fun _ _ _ _ _ _ _ hout hsz hd _ _ => ?_
          have h28 := hd ⟨28, .guard⟩ (by simp) rfl _ rfl
          refine qe_run rfl ((wanted_of rfl rfl (hsz 146 (by decide)) h28).trans rfl) (ex_move rfl ((hout 5 (by decide)).trans oe5)) QE.refl ?_
          rfl
        · refine stepq_env rfl rfl rfl fun _ _ _ _ _ hm _ _ hsz hd _ _ => ?_
          have h28 := hd ⟨28, .chain⟩ (by simp) rfl _ rfl
          have h29 := hd ⟨29, .data⟩ (by simp) rfl _ rfl
          refine qe_callF (args := #[.pointer (some ⟨p, 0, none⟩)]) rfl ((wanted_of rfl rfl (hsz 146 (by decide)) h28).trans rfl) rfl Try.func19 (args1 h29) (Synced_L (Jg.out.mod hm.old (by intro k h1 h2; have hb := Jb1.out k h1; omega)) rfl) ?_
          rintro e w2 ⟨rfl, rfl⟩
          exact ⟨_, rfl, QE.refl, rfl⟩
        · refine stepq_env rfl rfl rfl fun _ _ _ _ _ _ _ hout hsz hd _ _ => ?_
          have h28 := hd ⟨28, .guard⟩ (by simp) rfl _ rfl
          refine qe_run rfl ((wanted_of rfl rfl (hsz 146 (by decide)) h28).trans rfl) (ex_move rfl ((hout 6 (by decide)).trans oe6)) QE.refl ?_
          rfl
        · refine stepq_env rfl rfl rfl fun _ _ _ _ _ _ _ _ hsz hd _ _ => ?_
          have h28 := hd ⟨28, .guard⟩ (by simp) rfl _ rfl
          have h31 := hd ⟨31, .data⟩ (by simp) rfl _ rfl
          refine qe_run rfl ((wanted_of rfl rfl (hsz 146 (by decide)) h28).trans rfl) (ex_nil rfl h31) QE.refl ?_
          rfl
        · refine stepq_env rfl rfl rfl fun _ _ _ _ _ _ _ _ hsz hd _ _ => ?_
          have h28 := hd ⟨28, .guard⟩ (by simp) rfl _ rfl
          have h32 := hd ⟨32, .data⟩ (by simp) rfl _ rfl
          refine qe_run rfl ((wanted_of rfl rfl (hsz 146 (by decide)) h28).trans rfl) (ex_field rfl Try.underlying47 rfl (by kernel_rfl) h32) QE.refl ?_
          rfl
        · refine stepq_env rfl rfl rfl fun _ _ _ _ _ hm _ _ hsz hd _ _ => ?_
          have h28 := hd ⟨28, .guard⟩ (by simp) rfl _ rfl
          have h33 := hd ⟨33, .data⟩ (by simp) rfl _ rfl
          refine qe_run rfl ((wanted_of rfl rfl (hsz 146 (by decide)) h28).trans rfl) (ex_load1 rfl Try.underlying3 rfl h33 (Cs.lit1 (HGD.out.mod hm.old (by intro h2; omega)) rfl)) QE.refl ?_
          rfl
        · refine stepq_env rfl rfl rfl fun _ _ _ _ _ _ _ _ hsz hd _ _ => ?_
          have h28 := hd ⟨28, .guard⟩ (by simp) rfl _ rfl
          have h30 := hd ⟨30, .data⟩ (by simp) rfl _ rfl
          have h34 := hd ⟨34, .data⟩ (by simp) rfl _ rfl
          refine qe_run rfl ((wanted_of rfl rfl (hsz 146 (by decide)) h28).trans rfl) (ex_binE rfl h30 h34 (guard_ints _ _ _ _ _ _) (run_neq_i _ _ _ Try.underlying3) (congrArg Value.bool (ne_ff rfl))) QE.refl ?_
          rfl
        · exact stq (fun E => ex_pick rfl (E.d 28) rfl (E.d 35))
        · exact stq (fun E => ex_move rfl (E.d 36))
        · refine stepq_env rfl rfl rfl fun _ _ _ _ _ _ _ hout hsz hd _ _ => ?_
          have h37 := hd ⟨37, .guard⟩ (by simp) rfl _ rfl
          refine qe_run rfl ((wanted_of rfl rfl (hsz 155 (by decide)) h37).trans rfl) (ex_move rfl ((hout 5 (by decide)).trans oe5)) QE.refl ?_
          rfl
        · refine stepq_env rfl rfl rfl fun _ _ _ _ _ hm _ _ hsz hd _ _ => ?_
          have h37 := hd ⟨37, .chain⟩ (by simp) rfl _ rfl
          have h38 := hd ⟨38, .data⟩ (by simp) rfl _ rfl
          refine qe_callF (args := #[.pointer (some ⟨p, 0, none⟩)]) rfl ((wanted_of rfl rfl (hsz 155 (by decide)) h37).trans rfl) rfl Try.func31 (args1 h38) (Dead_L (Jg.out.mod hm.old (by intro k h1 h2; have hb := Jb1.out k h1; omega)) rfl) ?_
          rintro e w2 ⟨rfl, rfl⟩
          exact ⟨_, rfl, QE.refl, rfl⟩
        · refine stepq_env rfl rfl rfl fun _ _ _ _ _ _ _ hout hsz hd _ _ => ?_
          have h37 := hd ⟨37, .guard⟩ (by simp) rfl _ rfl
          refine qe_run rfl ((wanted_of rfl rfl (hsz 155 (by decide)) h37).trans rfl) (ex_move rfl ((hout 6 (by decide)).trans oe6)) QE.refl ?_
          rfl
        · refine stepq_env rfl rfl rfl fun _ _ _ _ _ _ _ _ hsz hd _ _ => ?_
          have h37 := hd ⟨37, .guard⟩ (by simp) rfl _ rfl
          have h40 := hd ⟨40, .data⟩ (by simp) rfl _ rfl
          refine qe_run rfl ((wanted_of rfl rfl (hsz 155 (by decide)) h37).trans rfl) (ex_nil rfl h40) QE.refl ?_
          rfl
        · refine stepq_env rfl rfl rfl fun _ _ _ _ _ _ _ _ hsz hd _ _ => ?_
          have h37 := hd ⟨37, .guard⟩ (by simp) rfl _ rfl
          have h41 := hd ⟨41, .data⟩ (by simp) rfl _ rfl
          refine qe_run rfl ((wanted_of rfl rfl (hsz 155 (by decide)) h37).trans rfl) (ex_field rfl Try.underlying47 rfl (by kernel_rfl) h41) QE.refl ?_
          rfl
        · refine stepq_env rfl rfl rfl fun _ _ _ _ _ hm _ _ hsz hd _ _ => ?_
          have h37 := hd ⟨37, .guard⟩ (by simp) rfl _ rfl
          have h42 := hd ⟨42, .data⟩ (by simp) rfl _ rfl
          refine qe_run rfl ((wanted_of rfl rfl (hsz 155 (by decide)) h37).trans rfl) (ex_load1 rfl Try.underlying4 rfl h42 (Cs.lit1 (HGD.out.mod hm.old (by intro h2; omega)) rfl)) QE.refl ?_
          rfl
        · refine stepq_env rfl rfl rfl fun _ _ _ _ _ _ _ _ hsz hd _ _ => ?_
          have h37 := hd ⟨37, .guard⟩ (by simp) rfl _ rfl
          have h39 := hd ⟨39, .data⟩ (by simp) rfl _ rfl
          have h43 := hd ⟨43, .data⟩ (by simp) rfl _ rfl
          refine qe_run rfl ((wanted_of rfl rfl (hsz 155 (by decide)) h37).trans rfl) (ex_binE rfl h39 h43 (guard_bools _ _ _ _ _ _) (run_neq_bools _ _ _ Try.underlying4) (congrArg Value.bool (show (!(st2.dead == st2.dead)) = false by simp))) QE.refl ?_
          rfl
        · exact stq (fun E => ex_pick rfl (E.d 37) rfl (E.d 44))
        intro u33_0 hr
        have zu33_0 := hr.size
        have Cx59 := hid (hr.new (S := (fun _ => False)))
        clear hr
        refine QChain.go fun Z act E => ?_
        refine qc_callF (args := #[.pointer (some ⟨x2, 0, none⟩)]) rfl (wanted_none rfl) rfl Try.func14 (args1 (E.d 0)) (Records_L (Jg.out.mod Cx59.out (fun _ _ h => h)) (by intro k h1; have hb := Jb1.out k h1; omega) (by omega)) ?_
        rintro e u33_1a ⟨vr, rfl, qrec, hm⟩
        obtain ⟨ao_r, cap_r, rfl⟩ := qrec.shape
        have zu33_1a := hm.size
        refine ⟨_, rfl, hm.mono (fun _ _ h => h.elim), (fun _ => rfl), ?_⟩
        intro u33_1 hr
        have zu33_1 := hr.size
        have Hx60 := hid ((qrec.widen (R' := (fun k => (New u33_0 u33_1a k))) (E' := (fun k => (New u33_0 u33_1a k))) (fun _ h => h) (fun _ h => h)).mod hr (by intro k h1 h2; omega) (by intro k h1 h2; omega))
        have Cx61 := hid (Cx59.out.go hm hr)
        clear Cx59 hm hr Z act E qrec
        refine QChain.go fun Z act E => ?_
        refine qc_callF (args := #[.slice ao_r rs2.length cap_r, .slice aog rs2.length capg]) rfl (wanted_none rfl) rfl Try.func18 (args2 (chv (v := .slice ao_r rs2.length cap_r) (E.d 1)) (E.d 5)) (Rows_T (R := (fun k => (New u33_0 u33_1a k))) (R2 := P4) ((Hx60.out.widen (R' := (fun k => (New u33_0 u33_1a k))) (E' := (fun k => (New u33_0 u33_1a k))) (by intro k h1; first | omega | exact h1.elim | exact h1) (by intro k h1; first | omega | exact h1.elim | exact h1)).rd.widen (fun k h => h.elim id id)) (HGL.out.mod Cx61.out (fun _ _ h => h)) (by intro k h1; first | omega) (by intro k h1; have hb := Jb2.out k h1; omega)) ?_
        rintro e u33_2a ⟨rfl, hm⟩
        have zu33_2a := hm.size
        refine ⟨_, rfl, hm.mono (fun _ _ h => h.elim), (fun _ => rfl), ?_⟩
        intro u33_2 hr
        have zu33_2 := hr.size
        have hmr := Mod.after hm hr
        have Hx62 := hid (Hx60.out.mod hmr (by intro k h1 h2; omega) (by intro k h1 h2; omega))
        clear Hx60
        clear hmr
        have Cx63 := hid (Cx61.out.go hm hr)
        clear Cx61 hm hr Z act E
        refine QChain.go fun Z act E => ?_
        refine qc_callF (args := #[.pointer (some ⟨p, 0, none⟩)]) rfl ((wanted_of rfl rfl (E.sz 136 (by decide)) (E.e 18 .chain)).trans rfl) rfl Try.func17 (args1 (E.d 19)) (Read_L (Jg.out.mod Cx63.out (fun _ _ h => h)) (by omega) HBL.out.symm) ?_
        rintro e u33_3a ⟨vd, rfl, qrdd, hm⟩
        obtain ⟨ao_rd, cap_rd, rfl⟩ := qrdd.shape
        have zu33_3a := hm.size
        refine ⟨_, rfl, hm.mono (fun _ _ h => h.elim), (fun _ => rfl), ?_⟩
        intro u33_3 hr
        have zu33_3 := hr.size
        have Hx64 := hid ((qrdd.widen (R' := (fun k => (New u33_2 u33_3a k))) (fun _ h => h) (Nat.le_refl _)).mod hr (by intro k h1 h2; omega))
        have hmr := Mod.after hm hr
        have Hx65 := hid (Hx62.out.mod hmr (by intro k h1 h2; omega) (by intro k h1 h2; omega))
        clear Hx62
        clear hmr
        have Cx66 := hid (Cx63.out.go hm hr)
        clear Cx63 hm hr Z act E qrdd
        refine QChain.go fun Z act E => ?_
        refine qc_callF (args := #[.slice ao_rd bl.length cap_rd, .slice aob bl.length capb]) rfl ((wanted_of rfl rfl (E.sz 136 (by decide)) (E.e 18 .guard)).trans rfl) rfl Try.func15 (args2 (chv (v := .slice ao_rd bl.length cap_rd) (E.d 20)) (E.d 24)) (Same_T Hx64.out.rd (HGB.out.mod Cx66.out (fun _ _ h => h))) ?_
        rintro e u33_4a ⟨rfl, hm⟩
        have zu33_4a := hm.size
        refine ⟨_, rfl, hm.mono (fun _ _ h => h.elim), (fun _ => rfl), ?_⟩
        intro u33_4 hr
        have zu33_4 := hr.size
        have hmr := Mod.after hm hr
        have Hx67 := hid (Hx65.out.mod hmr (by intro k h1 h2; omega) (by intro k h1 h2; omega))
        have Hx68 := hid (Hx64.out.mod hmr (by intro k h1 h2; omega))
        clear Hx65 Hx64
        clear hmr
        have Cx69 := hid (Cx66.out.go hm hr)
        clear Cx66 hm hr Z act E
        refine QChain.nil fun vs hl hzz hrows hne => ?_
        obtain ⟨Z, hYZ, hZb, hV⟩ := hzz
        have f0 := fvi hV hl 0
        have f1 := fvc hV hl 1
        have f2 := fvi hV hl 2
        have f6 := fvi hV hl 6
        have f8 := fvi hV hl 8
        have f9 := fvi hV hl 9
        have f10 := fvi hV hl 10
        have f11 := fvi hV hl 11
        have f15 := fvi hV hl 15
        have f18 := fvi hV hl 18
        have f19 := fvi hV hl 19
        have f20 := fvc hV hl 20
        have f21 := fvi hV hl 21
        have f25 := fvi hV hl 25
        have f28 := fvi hV hl 28
        have f29 := fvi hV hl 29
        have f30 := fvi hV hl 30
        have f31 := fvi hV hl 31
        have f37 := fvi hV hl 37
        have f38 := fvi hV hl 38
        have f39 := fvi hV hl 39
        have f40 := fvi hV hl 40
        have f45 := fvi hV hl 45
        rw [show vs = [gw vs 0, gw vs 1, gw vs 2, gw vs 3, gw vs 4, gw vs 5, gw vs 6, gw vs 7, gw vs 8, gw vs 9, gw vs 10, gw vs 11, gw vs 12, gw vs 13, gw vs 14, gw vs 15, gw vs 16, gw vs 17, gw vs 18, gw vs 19, gw vs 20, gw vs 21, gw vs 22, gw vs 23, gw vs 24, gw vs 25, gw vs 26, gw vs 27, gw vs 28, gw vs 29, gw vs 30, gw vs 31, gw vs 32, gw vs 33, gw vs 34, gw vs 35, gw vs 36, gw vs 37, gw vs 38, gw vs 39, gw vs 40, gw vs 41, gw vs 42, gw vs 43, gw vs 44, gw vs 45] from (gw_eta hl).trans rfl]
        have ha0 := HA0.out
        subst ha0
        clear HA0 hV hYZ hZb hsz0 hrows hne oe5 oe6 oe7 oe9
        simp only [putAll, Act.put, List.setIfInBounds_toArray, List.set_cons_zero, List.set_cons_succ, f0, f1, f2, f6, f8, f9, f10, f11, f15, f18, f19, f20, f21, f25, f28, f29, f30, f31, f37, f38, f39, f40, f45]
        clear hl f0 f1 f2 f6 f8 f9 f10 f11 f15 f18 f19 f20 f21 f25 f28 f29 f30 f31 f37 f38 f39 f40 f45
        clear HGW
        clear HGD
        clear HGL
        clear HGB
        clear Hx67
        clear Hx68
        go_upto_region 13 with (fail)
        refine wp_region_U 165 [53, 54, 11] [0, 1, 2] (fun a0 HA0 => ?_)
        have oe11 := ev HA0 11 rfl
        refine QSeq.pure rfl _ (fun E => ex_move rfl (E.y 2 oe11)) ?_
        refine QSeq.pure rfl (.int .i64 (((i + 1 : Nat) : Nat) : Int)) (fun E => ex_binE rfl (E.d 0 0) rfl (guard_ints _ _ _ _ _ _) (run_add_i _ _ Try.underlying3) (congrArg (Value.int .i64) (i64_eq (b := ((i + 1 : Nat) : Int)) (by omega) (by omega) (by omega)))) ?_
        refine QSeq.pure rfl _ (fun E => ex_assign rfl (E.d 1 0)) ?_
        refine QSeq.nil (t' := [_, _, _]) rfl ?_
        obtain rfl := HA0.out
        clear HA0 oe11
        simp only [pz, Act.put, List.setIfInBounds_toArray, List.set_cons_zero, List.set_cons_succ]
        go_wp2
        go_roundw
        case rel => exact ⟨i + 1, x2, y2, rs2, st2, P3, P4, rfl, rfl, rfl, by omega, by omega, by omega, (Jg.out.mod Cx69.out (fun _ _ h => h)), (Jo.out.mod Cx69.out (fun _ _ h => h)), Jd12.out, (by intro k h1; have hb := Jb1.out k h1; omega), (by intro k h1; have hb := Jb2.out k h1; omega), (Jl.out.mod Cx69.out (fun _ _ h => h)), (Jm.out.trans Cx69.out (fun _ _ h => h.elim))⟩
        case measure => simp [intOf]; omega
    · obtain rfl : pb7 = false := HB7.out.trans (by rw [Bool.eq_false_iff]; intro h; simp only [Bool.and_eq_true, decide_eq_true_eq] at h; omega)
      go_upto_region 35 with (fail)
      refine wp_region_U 165 [164, 4] [0, 1] (fun a0 HA0 => ?_)
      refine QSeq.call rfl rfl Try.func16 (wakes08 _) (fun E => args0) ?_
      rintro e u35_0 ⟨rfl, hm⟩
      refine ⟨_, rfl, ?_⟩
      have zu35_0 := hm.size
      have Cx70 := hid (show Mod (fun _ => False) wl u35_0 from hm)
      clear hm
      refine QSeq.pure rfl _ (fun E => ex_assign rfl (E.d 0 0)) ?_
      refine QSeq.nil (t' := [_, _]) rfl ?_
      obtain rfl := HA0.out
      clear HA0
      simp only [pz, Act.put, List.setIfInBounds_toArray, List.set_cons_zero, List.set_cons_succ]
      go_wp2
      go_ret
      exact ⟨rfl, (Km.out.trans Cx70.out (fun _ _ h => h.elim))⟩
end Go.Proofs.Ythojipjleajajaa

namespace Go.Proofs.Ythojipjleajajaa.walPlays
open Go Go.RowKit Go.Gv Go.ChangeShapes Go.WideShapes Go.ChangeAt
open Go.ChangeMaps (open_string shut_string)

theorem own : ownKnob Try.prog.godebug = none := by kernel_rfl
theorem laidOut : laidOutB Try.prog = true := by kernel_rfl

theorem lifted (os : Os) (started : os.Started) (H : Type) (enc : TypeId × Value → H) :
    ReturnsInHanded {} Try.checked os 6 .any (Rows.walPlaysSpec.pre6 enc Try.prog Try.f6 Rows.walPlaysRow.domain false) (Rows.walPlaysSpec.post enc Try.prog Try.f6 false true false false) := by
  refine returnsInHanded_of_change (C := Try.checked) own started (by kernel_rfl) Try.func6
    (ChangeSpec.witness6 (enc := enc) (C := Try.checked) false ⟨#[], #[.slice none 0 0, .slice none 0 0], []⟩ 8 (by kernel_rfl) (by kernel_rfl) (by kernel_rfl) (by kernel_rfl)) ?_
  intro W base args ds gs before hval0 hW hcnd _
  have hval : ∀ (j : Nat) t v, Try.f6.params[j]? = some t → args[j]? = some v → Value.okWide Try.prog W .any base t v := hval0
  have hW' := hW
  obtain ⟨p, q, hA0, hV, rfl, hfz, hnd⟩ := hW
  have hA : DataW.TrodAll enc Try.prog W 0 (fun _ => true) true Try.f6.params.toList args.toList ds p := hA0
  rw [Try.params6] at hA hval
  obtain ⟨v0, vs0, d0, ds0, p0, q0, hargs, rfl, rfl, h0, r0⟩ := trodAll_cons hA
  obtain ⟨v1, vs1, d1, ds1, p1, q1, rfl, rfl, rfl, h1, r1⟩ := trodAll_cons r0
  obtain ⟨rfl, rfl, rfl⟩ := trodAll_nil r1
  obtain rfl : args = #[v0, v1] := by cases args; simp_all
  obtain ⟨rfl, rfl⟩ := trodVars_none hV
  have k0 := h0
  have lt0 : ∀ x ∈ p0, x.block < W.heap.size := by obtain ⟨m, hm⟩ := k0; exact DataW.trod_lt m _ _ _ hm
  have k1 := h1
  have lt1 : ∀ x ∈ p1, x.block < W.heap.size := by obtain ⟨m, hm⟩ := k1; exact DataW.trod_lt m _ _ _ hm
  obtain ⟨b0, w0, o0⟩ := bytes_of_trod (hval 0 22 v0 rfl rfl) h0
  obtain ⟨l1, e1⟩ := slice_arg reads_ac Try.underlying44 (by kernel_rfl) k1 (hval 1 44 v1 rfl rfl)
  clear hA0 hval0
  have q0 : RdR (fun k => k < W.heap.size) b0.length W v0 b0 := ⟨w0, fun h0 g hg => Nat.lt_of_not_le (o0 h0 g hg), Nat.le_refl _⟩
  refine (WalPlays_walk b0 l1 v0 v1 W q0 e1).mono fun e W' ⟨he, hmod⟩ => ?_
  subst he
  have bel : Below W.heap.size W W' := hmod.below (Nat.le_refl _) (fun _ _ => id)
  exact ⟨_, rfl, _, _, _, [], _, [], hW', trodAll_mk1 (shut_bool Try.underlying4 _), (trodAll_cons_mk (Below.trod laidOut (by kernel_rfl) (of_decide_eq_true (by kernel_rfl)) k0 bel lt0) (trodAll_cons_mk (Below.trod laidOut (by kernel_rfl) (of_decide_eq_true (by kernel_rfl)) k1 bel lt1) trodAll_mk0)), rfl, bel.frame _, fun h => by cases h⟩

theorem over : Rows.walPlaysRow.holds Try.pinned (OpenSpec.ofChange Rows.walPlaysSpec) :=
  OpenClaim.holds_of_wide 6 Try.f6 rfl rfl rfl rfl rfl rfl rfl ⟨rfl, rfl, rfl, rfl, rfl⟩ rfl rfl rfl rfl rfl (by kernel_rfl) Try.func6 (by kernel_rfl)
    (of_decide_eq_true (by kernel_rfl)) (by unfold Func.isWrapper; first | (rw [if_pos (by decide +kernel)]; kernel_rfl) | (rw [if_neg (by decide +kernel)]; exact ⟨rfl, rfl⟩))
    (fun os started H enc _ => lifted os started H enc)

theorem proved : Rows.WalPlaysSaid := over
end Go.Proofs.Ythojipjleajajaa.walPlays
