/- WireHashes: for every two readings the law returns true. No condition. -/
import Derived.Test.YtknpapcfhnhheaaMh8
import Derived.Deep.CutBlock
import Derived.ProofKit
import Derived.OpenShut
import Derived.ChangeOld
set_option maxRecDepth 100000
set_option linter.unusedVariables false
/- WireHashes: the walk. -/
namespace Go.Proofs.Ytknpapcfhnhheaa
open Go Go.RowKit Go.Gv

theorem Eqs.same {α : Type} {A : Rep α} {F : FuncId} (h : Eqs A F) {R R2 : Nat → Prop} {cs ds : List Value} {x : α} {w : World} (h1 : A.rd R w cs x) (h2 : A.rd R2 w ds x) (h3 : ∀ k, R k → k < w.heap.size) (h4 : ∀ k, R2 k → k < w.heap.size) :
    Calls Try.prog F #[.agg cs.toArray, .agg ds.toArray] w fun e w' => e = .returned (.bool true) ∧ Mod (fun _ => False) w w' :=
  (h R R2 cs ds x x w h1 h2 h3 h4).mono fun e w' ⟨he, hm⟩ => ⟨by rw [he, eqb_rfl], hm⟩

theorem Eqs.diff {α : Type} {A : Rep α} {F : FuncId} (h : Eqs A F) {R R2 : Nat → Prop} {cs ds : List Value} {x y : α} {w : World} (hn : ¬ x = y) (h1 : A.rd R w cs x) (h2 : A.rd R2 w ds y) (h3 : ∀ k, R k → k < w.heap.size) (h4 : ∀ k, R2 k → k < w.heap.size) :
    Calls Try.prog F #[.agg cs.toArray, .agg ds.toArray] w fun e w' => e = .returned (.bool false) ∧ Mod (fun _ => False) w w' :=
  (h R R2 cs ds x y w h1 h2 h3 h4).mono fun e w' ⟨he, hm⟩ => ⟨by rw [he, eqb_ne hn], hm⟩
theorem RdR_none (R : Nat → Prop) (w : World) : RdR R 0 w (.slice none 0 0) [] := ⟨⟨(fun b hb => by cases hb), Rd.nil _ _⟩, (fun h => by simp at h), Nat.le_refl _⟩
theorem RdS.bd2 {α : Type} {A : Rep α} {R : Nat → Prop} {w : World} {ao : Option Addr} {n cap : Nat} {l : List α} (h : RdS A R w (.slice ao n cap) l) : n ≤ cap := by
  obtain ⟨css, _, _, ⟨_, ao', cap', e, h1, h2, _⟩, _⟩ := h
  simp only [Value.slice.injEq] at e
  omega
set_option maxHeartbeats 8000000 in
theorem LHashes_any (R2 : Nat → Prop) (x : Ba) (cx : List Value) (what : Int) (w : World) (hx : BaR.rd R2 w cx x) (hwhat : I64 what) (hB2 : ∀ k, R2 k → k < w.heap.size) :
    Calls Try.prog 5 #[.agg cx.toArray, .int .i64 what] w fun e w' => e = .returned (.bool true) ∧ Mod (fun _ => False) w w' := by
  have HXtb := Lib.hid hx
  have HXso := Lib.hid hx
  have HXst := Lib.hid hx
  have HCX := hid (show cx.length = 5 from BaR.len hx)
  have HBT := Lib.hid hB2
  have HI := Lib.hid hwhat
  clear hx hB2 hwhat
  go_enter Try.func5, Try.ntmps5
  go_upto_region 1 with (fail)
  obtain ⟨w1, hw1⟩ : ∃ zz, zz = (w.alloc (.cells (cx : List Value).toArray 60)) := ⟨_, rfl⟩
  change Code.wp _ _ _ _ (w.alloc (.cells (cx : List Value).toArray 60))
  rw [← hw1]
  have HB2 := hid (show Cs w1 (w.heap.size) (cx : List Value).toArray 60 by rw [hw1]; exact Cs.new _ _ _)
  have hm : Mod (fun _ => False) w w1 := by rw [hw1]; exact (Mod.refl _ _).alloc _
  have HM0 := hid (show Mod (fun _ => False) w w1 from hm.mono (fun _ _ h => h.elim))
  have hs1 : w1.heap.size = w.heap.size + 1 := by rw [hw1]; simp
  have Hx1 := hid (HXtb.out.mod hm (fun _ _ h => h))
  clear HXtb
  have Hx2 := hid (HXso.out.mod hm (fun _ _ h => h))
  clear HXso
  have Hx3 := hid (HXst.out.mod hm (fun _ _ h => h))
  clear HXst
  clear hw1 hm
  go_upto_region 1 with (fail)
  refine wp_region_U 82 [7, 8, 9, 85] [0, 1, 2, 3] (fun a0 HA0 => ?_)
  have oe2 := ev HA0 2 rfl
  refine QSeq.pure rfl _ (fun E => ex_loadA rfl Try.underlying60 rfl (off := 0) (cs := cx) (by rw [HCX.out]; kernel_rfl) (E.v oe2) (Cs.whole HB2.out)) ?_
  refine QSeq.call rfl rfl Try.func25 (LBatch_c _ x _ _ Hx1.out (by intro k h1; have hb := HBT.out k h1; omega)) (fun E => args1 (E.d 0 0)) ?_
  rintro e u1_1 ⟨d1, rfl, qtb, hm⟩
  have qso := qtb
  have qst := qtb
  refine ⟨_, rfl, ?_⟩
  have Hx4 := hid (qtb.widen (R' := (fun k => (R2 k) ∨ (New w1 u1_1 k))) (fun _ h => h))
  have Hx5 := hid (qso.widen (R' := (fun k => (R2 k) ∨ (New w1 u1_1 k))) (fun _ h => h))
  have Hx6 := hid (qst.widen (R' := (fun k => (R2 k) ∨ (New w1 u1_1 k))) (fun _ h => h))
  have zu1_1 := hm.size
  have Cx7 := hid (show Mod (fun _ => False) w1 u1_1 from hm)
  clear hm
  clear qtb qso qst Hx1 Hx2 Hx3
  refine QSeq.call rfl rfl Try.func41 (niceBatch_c _ (cutBa x) _ _ Hx4.out (by intro k h1; rcases h1 with h1 | h1 <;> first | omega | (have hb := HBT.out k h1; omega)) (few_Ba x)) (fun E => args1 (E.d 1 0)) ?_
  rintro e u1_2 ⟨d2, rfl, qtb, hm⟩
  have HNY0 := baB_nic qtb
  have HKY0 := BaOk_nic qtb
  obtain ⟨y, hy⟩ : ∃ y, y = nicBa (cutBa x) := ⟨_, rfl⟩
  have HTY := hid (show nicBa y = y by rw [hy, nicBa_twice])
  have HFY := hid (show fewBa y by rw [hy, ← cutBa_nic]; exact few_Ba _)
  have HLY := hid (show y.ps.length ≤ 5 ∧ y.os.length ≤ 5 ∧ y.ts.length ≤ 5 by rw [hy]; refine ⟨?_, ?_, ?_⟩ <;> (simp only [nicBa, cutBa, List.length_map, List.length_take]; omega))
  rw [← hy] at qtb HNY0 HKY0
  clear hy
  have HNY := Lib.hid HNY0
  have HKY := Lib.hid HKY0
  clear HNY0 HKY0
  obtain ⟨vb1, vb2, vb3, rfl, hokb, qq1, qq2, qq3⟩ := qtb
  obtain ⟨ap0, cp0, rfl⟩ := qq1.shape
  obtain ⟨ap1, cp1, rfl⟩ := qq2.shape
  obtain ⟨ap2, cp2, rfl⟩ := qq3.shape
  have qtb := qq1
  have qso := qq2
  have qst := qq3
  have HOKY := Lib.hid hokb
  clear hokb qq1 qq2 qq3
  refine ⟨_, rfl, ?_⟩
  have Hx8 := hid (qtb.widen (R' := (fun k => (R2 k) ∨ (New w1 u1_1 k) ∨ (New u1_1 u1_2 k))) (by intro k h1; simp only [or_assoc] at h1 ⊢; exact h1))
  have Hx9 := hid (qso.widen (R' := (fun k => (R2 k) ∨ (New w1 u1_1 k) ∨ (New u1_1 u1_2 k))) (by intro k h1; simp only [or_assoc] at h1 ⊢; exact h1))
  have Hx10 := hid (qst.widen (R' := (fun k => (R2 k) ∨ (New w1 u1_1 k) ∨ (New u1_1 u1_2 k))) (by intro k h1; simp only [or_assoc] at h1 ⊢; exact h1))
  have zu1_2 := hm.size
  have HMu1_2 := hid hm
  have Cx11 := hid (Cx7.out.goE hm)
  clear hm Cx7
  clear qtb qso qst Hx4 Hx5 Hx6
  refine QSeq.go fun act E => ?_
  refine qc_store rfl (wanted_none rfl) rfl (HB2.out.mod Cx11.out (fun h => h)) (off := 0) (vs := [.int .i64 y.ep, .int .u64 (y.tm : Nat), Value.slice ap0 y.ps.length cp0, Value.slice ap1 y.os.length cp1, Value.slice ap2 y.ts.length cp2]) (by kernel_rfl) (by intro u hu; simp at hu; rcases hu with rfl | rfl | rfl | rfl | rfl <;> rfl) (by have h1 := HCX.out; show 0 + 5 ≤ List.length cx; omega) (E.v oe2) (ec (E.d 2 0)) ?_
  intro u1_3 qc0 hm
  have qB2 := qc0.eqv (b := #[.int .i64 y.ep, .int .u64 (y.tm : Nat), Value.slice ap0 y.ps.length cp0, Value.slice ap1 y.os.length cp1, Value.slice ap2 y.ts.length cp2]) (lay_whole cx.toArray _ (by have h1 := HCX.out; exact h1))
  clear qc0
  have Hx12 := hid qB2
  have zu1_3 := hm.size
  have HMu1_3 := hid hm
  have Cx13 := hid (Mod.goS (S' := (fun k => (k = w.heap.size))) Cx11.out hm (fun _ h => h.elim) (by intro k h0 h2; exact h2))
  clear hm Cx11
  clear act E qB2 HB2
  have Hx14 := hid (Hx8.out.mod HMu1_3.out (by intro k h1 h2; rcases h1 with h1 | h1 | h1 <;> first | omega | (have hb := HBT.out k h1; omega)))
  have Hx15 := hid (Hx9.out.mod HMu1_3.out (by intro k h1 h2; rcases h1 with h1 | h1 | h1 <;> first | omega | (have hb := HBT.out k h1; omega)))
  have Hx16 := hid (Hx10.out.mod HMu1_3.out (by intro k h1 h2; rcases h1 with h1 | h1 | h1 <;> first | omega | (have hb := HBT.out k h1; omega)))
  clear Hx8 Hx9 Hx10 HMu1_2 HMu1_3
  refine QSeq.nil (t' := [_, _, _, _]) rfl ?_
  obtain rfl := HA0.out
  clear HA0 oe2
  simp only [pz, Act.put, List.setIfInBounds_toArray, List.set_cons_zero, List.set_cons_succ, List.set_nil]
  go_upto_region 2 with (fail)
  refine wp_region_U 82 [10, 5, 84] [0, 1, 2] (fun a0 HA0 => ?_)
  have oe2 := ev HA0 2 rfl
  refine QSeq.pure rfl _ (fun E => ex_loadA rfl Try.underlying60 rfl (off := 0) (cs := [.int .i64 y.ep, .int .u64 (y.tm : Nat), Value.slice ap0 y.ps.length cp0, Value.slice ap1 y.os.length cp1, Value.slice ap2 y.ts.length cp2]) (by kernel_rfl) (E.v oe2) (Cs.whole Hx12.out)) ?_
  refine QSeq.go fun act E => ?_
  refine qc_alloc rfl (wanted_none rfl) rfl (z := [.int .i64 0, .int .u64 0, .slice none 0 0, .slice none 0 0, .slice none 0 0]) (by kernel_rfl) ?_
  intro u2_1 qB5 hm
  have zl2_1 := qB5.lt
  have Hx17 := hid qB5
  have zu2_1 := hm.size
  have Cx18 := hid (show Mod (fun _ => False) u1_3 u2_1 from hm)
  clear hm
  clear act E qB5
  refine QSeq.go fun act E => ?_
  refine qc_store rfl (wanted_none rfl) rfl Hx17.out (off := 0) (vs := [.int .i64 y.ep, .int .u64 (y.tm : Nat), Value.slice ap0 y.ps.length cp0, Value.slice ap1 y.os.length cp1, Value.slice ap2 y.ts.length cp2]) (by kernel_rfl) (by intro u hu; simp at hu; rcases hu with rfl | rfl | rfl | rfl | rfl <;> rfl) (by show 0 + 5 ≤ 5; decide) (E.d 1 0) (ec (E.d 0 1)) ?_
  intro u2_2 qc0 hm
  have qB5 := qc0.eqv (b := #[.int .i64 y.ep, .int .u64 (y.tm : Nat), Value.slice ap0 y.ps.length cp0, Value.slice ap1 y.os.length cp1, Value.slice ap2 y.ts.length cp2]) (lay_whole #[.int .i64 0, .int .u64 0, .slice none 0 0, .slice none 0 0, .slice none 0 0] _ rfl)
  clear qc0
  have Hx19 := hid qB5
  have zu2_2 := hm.size
  have HMu2_2 := hid hm
  have Cx20 := hid (Mod.goS (S' := (fun _ => False)) Cx18.out hm (fun _ h => h) (by intro k h0 h2; omega))
  clear hm Cx18
  clear act E qB5 Hx17
  clear HMu2_2
  refine QSeq.nil (t' := [_, _, _]) rfl ?_
  obtain rfl := HA0.out
  clear HA0 oe2
  simp only [pz, Act.put, List.setIfInBounds_toArray, List.set_cons_zero, List.set_cons_succ, List.set_nil]
  go_upto_region 3 with (fail)
  refine wp_region_U 82 [11, 12] [0, 1] (fun a0 HA0 => ?_)
  have oe1 := ev HA0 1 rfl
  refine QSeq.pure rfl _ (fun E => ex_move rfl (E.v oe1)) ?_
  refine QSeq.go fun act E => ?_
  refine qc_callF (args := #[.int .i64 what, .int .i64 4]) rfl (wanted_none rfl) rfl Try.func13 (args2 (E.d 0 0) rfl) (Within_any what 4 (by decide) (by decide) HI.out _) ?_
  rintro e w2 ⟨rfl, hw2⟩
  obtain rfl : u2_2 = w2 := by first | exact hw2 | exact hw2.symm
  refine ⟨_, rfl, ?_⟩
  clear act E
  refine QSeq.nil (t' := [_, _]) rfl ?_
  obtain rfl := HA0.out
  clear HA0 oe1
  simp only [pz, Act.put, List.setIfInBounds_toArray, List.set_cons_zero, List.set_cons_succ]
  go_upto_block 0 with (fail)
  go_cut [] from 13 (fun w' => ∃ (c : Ba) (dc : List Value), Cs w' (u1_3.heap.size) dc.toArray 60 ∧ BaR.rd (fun k => R2 k ∨ (w.heap.size ≤ k ∧ k < w'.heap.size)) w' dc c ∧ BaOk c ∧ (baB c).length ≤ 900000 ∧ Mod (fun k => k = u1_3.heap.size) u2_2 w')
  case first =>
    have hmz := hid (Mod.refl (fun k => k = u1_3.heap.size) u2_2)
    have HWR := hid (within_range what 4 (by decide))
    by_cases h0 : within what 4 = 0
    · have K0 := Lib.hid h0
      clear h0
      go_upto_region 5 with (fail)
      refine wp_region_U 82 [18, 17] [0, 1] (fun a0 HA0 => ?_)
      have oe12 := ev HA0 12 rfl
      refine QSeq.pure rfl (.bool true) (fun E => ex_binE rfl (E.v oe12) rfl (guard_ints _ _ _ _ _ _) (run_eql_i _ _ _ Try.underlying3) (congrArg Value.bool (eq_tt K0.out))) ?_
      refine QSeq.pure rfl _ (fun E => ex_assign rfl (E.d 0 0)) ?_
      refine QSeq.nil (t' := [_, _]) rfl ?_
      obtain rfl := HA0.out
      clear HA0 oe12
      simp only [pz, Act.put, List.setIfInBounds_toArray, List.set_cons_zero, List.set_cons_succ]
      go_upto_region 6 with (fail)
      refine wp_region_U 82 [19, 20, 21, 22, 23, 24, 88] [0, 1, 2, 3, 4, 5, 6] (fun a0 HA0 => ?_)
      have oe2 := ev HA0 2 rfl
      have oe5 := ev HA0 5 rfl
      refine QSeq.pure rfl (.agg #[.int .i64 3, .slice none 0 0, .int .u8 0, .int .u8 0, .int .u8 0, .int .u8 0, .int .u8 0, .int .u8 0, .int .u8 0, .int .u8 0, .int .u8 0, .int .u8 0, .int .u8 0, .int .u8 0, .int .u8 0, .int .u8 0, .int .u8 0, .int .u8 0, .int .u8 0, .int .u8 0, .int .u8 0, .int .u8 0, .int .u8 0, .int .u8 0, .int .u8 0, .int .u8 0, .int .u8 0, .int .u8 0, .int .u8 0, .int .u8 0, .int .u8 0, .int .u8 0, .int .u8 0, .int .u8 0]) (fun E => ex_build rfl (z := [.int .i64 0, .slice none 0 0, .int .u8 0, .int .u8 0, .int .u8 0, .int .u8 0, .int .u8 0, .int .u8 0, .int .u8 0, .int .u8 0, .int .u8 0, .int .u8 0, .int .u8 0, .int .u8 0, .int .u8 0, .int .u8 0, .int .u8 0, .int .u8 0, .int .u8 0, .int .u8 0, .int .u8 0, .int .u8 0, .int .u8 0, .int .u8 0, .int .u8 0, .int .u8 0, .int .u8 0, .int .u8 0, .int .u8 0, .int .u8 0, .int .u8 0, .int .u8 0, .int .u8 0, .int .u8 0]) (places := [(0, 1), (1, 1), (2, 32)]) (by kernel_rfl) (parts := [(0, .int .i64 3)]) (by simp only [List.map_toArray, List.map_cons, List.map_nil]; try rfl) (r := [.int .i64 3, .slice none 0 0, .int .u8 0, .int .u8 0, .int .u8 0, .int .u8 0, .int .u8 0, .int .u8 0, .int .u8 0, .int .u8 0, .int .u8 0, .int .u8 0, .int .u8 0, .int .u8 0, .int .u8 0, .int .u8 0, .int .u8 0, .int .u8 0, .int .u8 0, .int .u8 0, .int .u8 0, .int .u8 0, .int .u8 0, .int .u8 0, .int .u8 0, .int .u8 0, .int .u8 0, .int .u8 0, .int .u8 0, .int .u8 0, .int .u8 0, .int .u8 0, .int .u8 0, .int .u8 0]) (by rfl)) ?_
      refine QSeq.go fun act E => ?_
      refine qc_buildS (e := 87) (cs := [.int .i64 3, .slice none 0 0, .int .u8 0, .int .u8 0, .int .u8 0, .int .u8 0, .int .u8 0, .int .u8 0, .int .u8 0, .int .u8 0, .int .u8 0, .int .u8 0, .int .u8 0, .int .u8 0, .int .u8 0, .int .u8 0, .int .u8 0, .int .u8 0, .int .u8 0, .int .u8 0, .int .u8 0, .int .u8 0, .int .u8 0, .int .u8 0, .int .u8 0, .int .u8 0, .int .u8 0, .int .u8 0, .int .u8 0, .int .u8 0, .int .u8 0, .int .u8 0, .int .u8 0, .int .u8 0]) (zc := [.int .i64 0, .slice none 0 0, .int .u8 0, .int .u8 0, .int .u8 0, .int .u8 0, .int .u8 0, .int .u8 0, .int .u8 0, .int .u8 0, .int .u8 0, .int .u8 0, .int .u8 0, .int .u8 0, .int .u8 0, .int .u8 0, .int .u8 0, .int .u8 0, .int .u8 0, .int .u8 0, .int .u8 0, .int .u8 0, .int .u8 0, .int .u8 0, .int .u8 0, .int .u8 0, .int .u8 0, .int .u8 0, .int .u8 0, .int .u8 0, .int .u8 0, .int .u8 0, .int .u8 0, .int .u8 0]) (sz := 34) rfl (wanted_none rfl) rfl Try.underlying57 (by kernel_rfl) rfl (by decide) (by decide) (E.d 0 0) rfl ?_
      intro u6_1 qrow hm
      have zl6_1 := qrow.lt
      have Hx21 := hid qrow
      have zu6_1 := hm.size
      have Cx22 := hid (show Mod (fun _ => False) u2_2 u6_1 from hm)
      clear hm
      clear act E qrow
      have HOWN := hid (OwS.single (A := OpR) (R := (fun k => (New u2_2 u6_1 k))) (E := fun _ => False) Hx21.out (show OpR.rd _ _ [.int .i64 3, .slice none 0 0, .int .u8 0, .int .u8 0, .int .u8 0, .int .u8 0, .int .u8 0, .int .u8 0, .int .u8 0, .int .u8 0, .int .u8 0, .int .u8 0, .int .u8 0, .int .u8 0, .int .u8 0, .int .u8 0, .int .u8 0, .int .u8 0, .int .u8 0, .int .u8 0, .int .u8 0, .int .u8 0, .int .u8 0, .int .u8 0, .int .u8 0, .int .u8 0, .int .u8 0, .int .u8 0, .int .u8 0, .int .u8 0, .int .u8 0, .int .u8 0, .int .u8 0, .int .u8 0] op3 from ⟨_, rfl, ⟨by unfold I64 op3; decide, HK_zero⟩, RdR_none _ _⟩) (by show New u2_2 u6_1 u2_2.heap.size; omega))
      clear Hx21
      refine QSeq.pure rfl (.pointer (some ⟨w.heap.size, 3, none⟩)) (fun E => ex_field rfl Try.underlying60 rfl (by kernel_rfl) (E.v oe2)) ?_
      refine QSeq.pure rfl _ (fun E => ex_load1 rfl Try.underlying57 rfl (E.d 2 0) (Cs.lit1 ((Hx12.out.mod Cx20.out (fun h => h)).mod Cx22.out (fun h => h)) rfl)) ?_
      refine QSeq.go fun act E => ?_
      refine qc_appS (A := OpR) (e := 87) rfl (wanted_none rfl) rfl (.agg #[.int .i64 0, .slice none 0 0, .int .u8 0, .int .u8 0, .int .u8 0, .int .u8 0, .int .u8 0, .int .u8 0, .int .u8 0, .int .u8 0, .int .u8 0, .int .u8 0, .int .u8 0, .int .u8 0, .int .u8 0, .int .u8 0, .int .u8 0, .int .u8 0, .int .u8 0, .int .u8 0, .int .u8 0, .int .u8 0, .int .u8 0, .int .u8 0, .int .u8 0, .int .u8 0, .int .u8 0, .int .u8 0, .int .u8 0, .int .u8 0, .int .u8 0, .int .u8 0, .int .u8 0, .int .u8 0]) 64 Try.underlying57 info_Op (by rfl) (of_decide_eq_true (by kernel_rfl)) (E.d 1 2) (E.d 3 0) (HOWN.out) (((Hx15.out.mod Cx20.out (fun _ _ h => h)).mod Cx22.out (fun _ _ h => h))) (by intro k h1 h2; rcases h1 with h1 | h1 | h1 <;> first | omega | (have hb := HBT.out k h1; omega)) (by have h1 := HLY.out; simp only [List.length_cons, List.length_nil]; omega) (by have h1 := HLY.out; rw [maxLen_val]; simp only [List.length_cons, List.length_nil]; omega) ?_
      intro ao7 cap7 u6_4 qown hm
      have Hx23 := hid (qown.widen (R' := (fun k => (New u2_2 u6_1 k) ∨ (New u6_1 u6_4 k))) (E' := (fun k => (R2 k) ∨ (New w1 u1_1 k) ∨ (New u1_1 u1_2 k))) (fun _ h => h) (by intro k h1; rcases h1 with h1 | (h1 | h1 | h1) <;> first | omega | exact h1.elim | exact Or.inl h1 | exact Or.inr (Or.inl h1) | exact Or.inr (Or.inr (h1))))
      have zu6_4 := hm.size
      have HMu6_4 := hid hm
      have Cx24 := hid (Mod.goS (S' := (fun _ => False)) Cx22.out hm (fun _ h => h) (by intro k h0 h2; omega))
      clear hm Cx22
      clear act E qown HOWN
      refine QSeq.pure rfl (.pointer (some ⟨u1_3.heap.size, 3, none⟩)) (fun E => ex_field rfl Try.underlying60 rfl (by kernel_rfl) (E.v oe5)) ?_
      refine QSeq.go fun act E => ?_
      refine qc_store rfl (wanted_none rfl) rfl (Hx19.out.mod Cx24.out (fun h => h)) (off := 3) (vs := [Value.slice ao7 (1 + y.os.length) cap7]) (by kernel_rfl) one1 (by simp) (E.d 5 0) (ec (E.d 4 1)) ?_
      intro u6_6 qc0 hm
      have qB5 := qc0.eqv (b := #[.int .i64 y.ep, .int .u64 (y.tm : Nat), Value.slice ap0 y.ps.length cp0, Value.slice ao7 (1 + y.os.length) cap7, Value.slice ap2 y.ts.length cp2]) rfl
      clear qc0
      have Hx25 := hid qB5
      have zu6_6 := hm.size
      have HMu6_6 := hid hm
      have Cx26 := hid (Mod.goS (S' := (fun k => (k = u1_3.heap.size))) Cx24.out hm (fun _ h => h.elim) (by intro k h0 h2; exact h2))
      clear hm Cx24
      clear act E qB5 Hx19
      have Hx27 := hid (Hx23.out.mod HMu6_6.out (by intro k h1 h2; omega) (by intro k h1 h2; rcases h1 with h1 | h1 | h1 <;> first | omega | (have hb := HBT.out k h1; omega)))
      clear Hx23 HMu6_4 HMu6_6
      refine QSeq.nil (t' := [_, _, _, _, _, _, _]) rfl ?_
      obtain rfl := HA0.out
      clear HA0 oe2 oe5
      simp only [pz, Act.put, List.setIfInBounds_toArray, List.set_cons_zero, List.set_cons_succ, List.set_nil]
      go_wp2_with fail
      go_meet
      case rel => exact ⟨{ y with os := op3 :: y.os }, [.int .i64 y.ep, .int .u64 (y.tm : Nat), Value.slice ap0 y.ps.length cp0, Value.slice ao7 (1 + y.os.length) cap7, Value.slice ap2 y.ts.length cp2], Hx25.out, ⟨_, _, _, rfl, HOKY.out, ((Hx14.out.mod Cx20.out (fun _ _ h => h)).mod Cx26.out (by intro k h1 h2; rcases h1 with h1 | h1 | h1 <;> first | omega | (have hb := HBT.out k h1; omega))).widen (by intro k h1; rcases h1 with h1 | h1 | h1 <;> first | exact Or.inl h1 | (right; omega)), Hx27.out.rd.widen (by intro k h1; rcases h1 with h1 | h1 <;> (try dsimp only at h1) <;> first | exact Or.inl h1 | (right; omega) | (rcases h1 with h1 | h1 <;> first | exact Or.inl h1 | exact h1.elim | (right; omega)) | (rcases h1 with h1 | h1 | h1 <;> first | exact Or.inl h1 | exact h1.elim | (right; omega))), ((Hx16.out.mod Cx20.out (fun _ _ h => h)).mod Cx26.out (by intro k h1 h2; rcases h1 with h1 | h1 | h1 <;> first | omega | (have hb := HBT.out k h1; omega))).widen (by intro k h1; rcases h1 with h1 | h1 | h1 <;> first | exact Or.inl h1 | (right; omega))⟩, ba_os HKY.out HLY.out.2.1, ba_os_len HNY.out HLY.out.2.1, (hmz.out.trans Cx26.out (fun _ _ h => h))⟩
    · have K0 := Lib.hid h0
      clear h0
      go_upto_region 5 with (fail)
      refine wp_region_U 82 [18, 17] [0, 1] (fun a0 HA0 => ?_)
      have oe12 := ev HA0 12 rfl
      refine QSeq.pure rfl (.bool false) (fun E => ex_binE rfl (E.v oe12) rfl (guard_ints _ _ _ _ _ _) (run_eql_i _ _ _ Try.underlying3) (congrArg Value.bool (eq_ff K0.out))) ?_
      refine QSeq.pure rfl _ (fun E => ex_assign rfl (E.d 0 0)) ?_
      refine QSeq.nil (t' := [_, _]) rfl ?_
      obtain rfl := HA0.out
      clear HA0 oe12
      simp only [pz, Act.put, List.setIfInBounds_toArray, List.set_cons_zero, List.set_cons_succ]
      by_cases h1 : within what 4 = 1
      · have K1 := Lib.hid h1
        clear h1
        go_upto_region 7 with (fail)
        refine wp_region_U 82 [26, 25] [0, 1] (fun a0 HA0 => ?_)
        have oe12 := ev HA0 12 rfl
        refine QSeq.pure rfl (.bool true) (fun E => ex_binE rfl (E.v oe12) rfl (guard_ints _ _ _ _ _ _) (run_eql_i _ _ _ Try.underlying3) (congrArg Value.bool (eq_tt K1.out))) ?_
        refine QSeq.pure rfl _ (fun E => ex_assign rfl (E.d 0 0)) ?_
        refine QSeq.nil (t' := [_, _]) rfl ?_
        obtain rfl := HA0.out
        clear HA0 oe12
        simp only [pz, Act.put, List.setIfInBounds_toArray, List.set_cons_zero, List.set_cons_succ]
        go_upto_region 8 with (fail)
        refine wp_region_U 82 [27, 28, 29, 30, 31, 32, 88] [0, 1, 2, 3, 4, 5, 6] (fun a0 HA0 => ?_)
        have oe2 := ev HA0 2 rfl
        have oe5 := ev HA0 5 rfl
        refine QSeq.pure rfl (.agg #[.int .i64 3, .slice none 0 0]) (fun E => ex_build rfl (z := [.int .i64 0, .slice none 0 0]) (places := [(0, 1), (1, 1)]) (by kernel_rfl) (parts := [(0, .int .i64 3)]) (by simp only [List.map_toArray, List.map_cons, List.map_nil]; try rfl) (r := [.int .i64 3, .slice none 0 0]) (by rfl)) ?_
        refine QSeq.go fun act E => ?_
        refine qc_buildS (e := 90) (cs := [.int .i64 3, .slice none 0 0]) (zc := [.int .i64 0, .slice none 0 0]) (sz := 2) rfl (wanted_none rfl) rfl Try.underlying58 (by kernel_rfl) rfl (by decide) (by decide) (E.d 0 0) rfl ?_
        intro u8_1 qrow hm
        have zl8_1 := qrow.lt
        have Hx28 := hid qrow
        have zu8_1 := hm.size
        have Cx29 := hid (show Mod (fun _ => False) u2_2 u8_1 from hm)
        clear hm
        clear act E qrow
        have HOWN := hid (OwS.single (A := TbR) (R := (fun k => (New u2_2 u8_1 k))) (E := fun _ => False) Hx28.out (show TbR.rd _ _ [.int .i64 3, .slice none 0 0] tb3 from ⟨_, rfl, (by unfold Tb.OK I64 tb3; decide), RdS.nil _ _ _⟩) (by show New u2_2 u8_1 u2_2.heap.size; omega))
        clear Hx28
        refine QSeq.pure rfl (.pointer (some ⟨w.heap.size, 4, none⟩)) (fun E => ex_field rfl Try.underlying60 rfl (by kernel_rfl) (E.v oe2)) ?_
        refine QSeq.pure rfl _ (fun E => ex_load1 rfl Try.underlying58 rfl (E.d 2 0) (Cs.lit1 ((Hx12.out.mod Cx20.out (fun h => h)).mod Cx29.out (fun h => h)) rfl)) ?_
        refine QSeq.go fun act E => ?_
        refine qc_appS (A := TbR) (e := 90) rfl (wanted_none rfl) rfl (.agg #[.int .i64 0, .slice none 0 0]) 32 Try.underlying58 info_Tb (by rfl) (of_decide_eq_true (by kernel_rfl)) (E.d 1 2) (E.d 3 0) (HOWN.out) (((Hx16.out.mod Cx20.out (fun _ _ h => h)).mod Cx29.out (fun _ _ h => h))) (by intro k h1 h2; rcases h1 with h1 | h1 | h1 <;> first | omega | (have hb := HBT.out k h1; omega)) (by have h1 := HLY.out; simp only [List.length_cons, List.length_nil]; omega) (by have h1 := HLY.out; rw [maxLen_val]; simp only [List.length_cons, List.length_nil]; omega) ?_
        intro ao7 cap7 u8_4 qown hm
        have Hx30 := hid (qown.widen (R' := (fun k => (New u2_2 u8_1 k) ∨ (New u8_1 u8_4 k))) (E' := (fun k => (R2 k) ∨ (New w1 u1_1 k) ∨ (New u1_1 u1_2 k))) (fun _ h => h) (by intro k h1; rcases h1 with h1 | (h1 | h1 | h1) <;> first | omega | exact h1.elim | exact Or.inl h1 | exact Or.inr (Or.inl h1) | exact Or.inr (Or.inr (h1))))
        have zu8_4 := hm.size
        have HMu8_4 := hid hm
        have Cx31 := hid (Mod.goS (S' := (fun _ => False)) Cx29.out hm (fun _ h => h) (by intro k h0 h2; omega))
        clear hm Cx29
        clear act E qown HOWN
        refine QSeq.pure rfl (.pointer (some ⟨u1_3.heap.size, 4, none⟩)) (fun E => ex_field rfl Try.underlying60 rfl (by kernel_rfl) (E.v oe5)) ?_
        refine QSeq.go fun act E => ?_
        refine qc_store rfl (wanted_none rfl) rfl (Hx19.out.mod Cx31.out (fun h => h)) (off := 4) (vs := [Value.slice ao7 (1 + y.ts.length) cap7]) (by kernel_rfl) one1 (by simp) (E.d 5 0) (ec (E.d 4 1)) ?_
        intro u8_6 qc0 hm
        have qB5 := qc0.eqv (b := #[.int .i64 y.ep, .int .u64 (y.tm : Nat), Value.slice ap0 y.ps.length cp0, Value.slice ap1 y.os.length cp1, Value.slice ao7 (1 + y.ts.length) cap7]) rfl
        clear qc0
        have Hx32 := hid qB5
        have zu8_6 := hm.size
        have HMu8_6 := hid hm
        have Cx33 := hid (Mod.goS (S' := (fun k => (k = u1_3.heap.size))) Cx31.out hm (fun _ h => h.elim) (by intro k h0 h2; exact h2))
        clear hm Cx31
        clear act E qB5 Hx19
        have Hx34 := hid (Hx30.out.mod HMu8_6.out (by intro k h1 h2; omega) (by intro k h1 h2; rcases h1 with h1 | h1 | h1 <;> first | omega | (have hb := HBT.out k h1; omega)))
        clear Hx30 HMu8_4 HMu8_6
        refine QSeq.nil (t' := [_, _, _, _, _, _, _]) rfl ?_
        obtain rfl := HA0.out
        clear HA0 oe2 oe5
        simp only [pz, Act.put, List.setIfInBounds_toArray, List.set_cons_zero, List.set_cons_succ, List.set_nil]
        go_wp2_with fail
        go_meet
        case rel => exact ⟨{ y with ts := tb3 :: y.ts }, [.int .i64 y.ep, .int .u64 (y.tm : Nat), Value.slice ap0 y.ps.length cp0, Value.slice ap1 y.os.length cp1, Value.slice ao7 (1 + y.ts.length) cap7], Hx32.out, ⟨_, _, _, rfl, HOKY.out, ((Hx14.out.mod Cx20.out (fun _ _ h => h)).mod Cx33.out (by intro k h1 h2; rcases h1 with h1 | h1 | h1 <;> first | omega | (have hb := HBT.out k h1; omega))).widen (by intro k h1; rcases h1 with h1 | h1 | h1 <;> first | exact Or.inl h1 | (right; omega)), ((Hx15.out.mod Cx20.out (fun _ _ h => h)).mod Cx33.out (by intro k h1 h2; rcases h1 with h1 | h1 | h1 <;> first | omega | (have hb := HBT.out k h1; omega))).widen (by intro k h1; rcases h1 with h1 | h1 | h1 <;> first | exact Or.inl h1 | (right; omega)), Hx34.out.rd.widen (by intro k h1; rcases h1 with h1 | h1 <;> (try dsimp only at h1) <;> first | exact Or.inl h1 | (right; omega) | (rcases h1 with h1 | h1 <;> first | exact Or.inl h1 | exact h1.elim | (right; omega)) | (rcases h1 with h1 | h1 | h1 <;> first | exact Or.inl h1 | exact h1.elim | (right; omega)))⟩, ba_ts HKY.out HLY.out.2.2, ba_ts_len HNY.out HLY.out.2.2, (hmz.out.trans Cx33.out (fun _ _ h => h))⟩
      · have K1 := Lib.hid h1
        clear h1
        go_upto_region 7 with (fail)
        refine wp_region_U 82 [26, 25] [0, 1] (fun a0 HA0 => ?_)
        have oe12 := ev HA0 12 rfl
        refine QSeq.pure rfl (.bool false) (fun E => ex_binE rfl (E.v oe12) rfl (guard_ints _ _ _ _ _ _) (run_eql_i _ _ _ Try.underlying3) (congrArg Value.bool (eq_ff K1.out))) ?_
        refine QSeq.pure rfl _ (fun E => ex_assign rfl (E.d 0 0)) ?_
        refine QSeq.nil (t' := [_, _]) rfl ?_
        obtain rfl := HA0.out
        clear HA0 oe12
        simp only [pz, Act.put, List.setIfInBounds_toArray, List.set_cons_zero, List.set_cons_succ]
        by_cases h2 : within what 4 = 2
        · have K2 := Lib.hid h2
          clear h2
          go_upto_region 9 with (fail)
          refine wp_region_U 82 [34, 33] [0, 1] (fun a0 HA0 => ?_)
          have oe12 := ev HA0 12 rfl
          refine QSeq.pure rfl (.bool true) (fun E => ex_binE rfl (E.v oe12) rfl (guard_ints _ _ _ _ _ _) (run_eql_i _ _ _ Try.underlying3) (congrArg Value.bool (eq_tt K2.out))) ?_
          refine QSeq.pure rfl _ (fun E => ex_assign rfl (E.d 0 0)) ?_
          refine QSeq.nil (t' := [_, _]) rfl ?_
          obtain rfl := HA0.out
          clear HA0 oe12
          simp only [pz, Act.put, List.setIfInBounds_toArray, List.set_cons_zero, List.set_cons_succ]
          by_cases hp : 0 < y.ps.length
          · skip
            go_upto_region 10 with (fail)
            refine wp_region_U 82 [35, 36, 37, 38] [0, 1, 2, 3] (fun a0 HA0 => ?_)
            have oe2 := ev HA0 2 rfl
            refine QSeq.pure rfl (.pointer (some ⟨w.heap.size, 2, none⟩)) (fun E => ex_field rfl Try.underlying60 rfl (by kernel_rfl) (E.v oe2)) ?_
            refine QSeq.pure rfl _ (fun E => ex_load1 rfl Try.underlying56 rfl (E.d 0 0) (Cs.lit1 (Hx12.out.mod Cx20.out (fun h => h)) rfl)) ?_
            refine QSeq.pure rfl (.int .i64 y.ps.length) (fun E => ex_lenS rfl (E.d 1 0) Try.underlying56) ?_
            refine QSeq.pure rfl (.bool true) (fun E => ex_binE rfl (E.d 2 0) rfl (guard_ints _ _ _ _ _ _) (run_gtr_i _ _ _ Try.underlying3) (congrArg Value.bool (decide_eq_true (by omega)))) ?_
            refine QSeq.nil (t' := [_, _, _, _]) rfl ?_
            obtain rfl := HA0.out
            clear HA0 oe2
            simp only [pz, Act.put, List.setIfInBounds_toArray, List.set_cons_zero, List.set_cons_succ]
            go_upto_region 11 with (fail)
            refine wp_region_U 82 [39, 40, 41, 42, 86] [0, 1, 2, 3, 4] (fun a0 HA0 => ?_)
            have oe2 := ev HA0 2 rfl
            have oe5 := ev HA0 5 rfl
            refine QSeq.pure rfl (.pointer (some ⟨w.heap.size, 2, none⟩)) (fun E => ex_field rfl Try.underlying60 rfl (by kernel_rfl) (E.v oe2)) ?_
            refine QSeq.pure rfl _ (fun E => ex_load1 rfl Try.underlying56 rfl (E.d 0 0) (Cs.lit1 (Hx12.out.mod Cx20.out (fun h => h)) rfl)) ?_
            refine QSeq.pure rfl (frS 6 ap0 y.ps.length cp0 1) (fun E => ex_sliceFromS (i := 1) (s := 6) rfl Try.underlying56 (by kernel_rfl) (E.d 1 0) rfl (by omega) (RdS.bd2 (Hx14.out.mod Cx20.out (fun _ _ h => h)))) ?_
            refine QSeq.pure rfl (.pointer (some ⟨u1_3.heap.size, 2, none⟩)) (fun E => ex_field rfl Try.underlying60 rfl (by kernel_rfl) (E.v oe5)) ?_
            refine QSeq.go fun act E => ?_
            refine qc_store rfl (wanted_none rfl) rfl Hx19.out (off := 2) (vs := [frS 6 ap0 y.ps.length cp0 1]) (by kernel_rfl) one1 (by simp) (E.d 3 0) (ec (E.d 2 1)) ?_
            intro u11_4 qc0 hm
            have qB5 := qc0.eqv (b := #[.int .i64 y.ep, .int .u64 (y.tm : Nat), frS 6 ap0 y.ps.length cp0 1, Value.slice ap1 y.os.length cp1, Value.slice ap2 y.ts.length cp2]) rfl
            clear qc0
            have Hx35 := hid qB5
            have zu11_4 := hm.size
            have Cx36 := hid (show Mod (fun k => (k = u1_3.heap.size)) u2_2 u11_4 from hm)
            clear hm
            clear act E qB5 Hx19
            refine QSeq.nil (t' := [_, _, _, _, _]) rfl ?_
            obtain rfl := HA0.out
            clear HA0 oe2 oe5
            simp only [pz, Act.put, List.setIfInBounds_toArray, List.set_cons_zero, List.set_cons_succ, List.set_nil]
            go_wp2_with fail
            go_meet
            case rel => exact ⟨{ y with ps := y.ps.drop 1 }, [.int .i64 y.ep, .int .u64 (y.tm : Nat), (frS 6 ap0 y.ps.length cp0 1), Value.slice ap1 y.os.length cp1, Value.slice ap2 y.ts.length cp2], Hx35.out, ⟨_, _, _, rfl, HOKY.out, (((Hx14.out.mod Cx20.out (fun _ _ h => h)).mod Cx36.out (by intro k h1 h2; rcases h1 with h1 | h1 | h1 <;> first | omega | (have hb := HBT.out k h1; omega))).from 1 (by omega) hp).widen (by intro k h1; rcases h1 with h1 | h1 | h1 <;> first | exact Or.inl h1 | (right; omega)), ((Hx15.out.mod Cx20.out (fun _ _ h => h)).mod Cx36.out (by intro k h1 h2; rcases h1 with h1 | h1 | h1 <;> first | omega | (have hb := HBT.out k h1; omega))).widen (by intro k h1; rcases h1 with h1 | h1 | h1 <;> first | exact Or.inl h1 | (right; omega)), ((Hx16.out.mod Cx20.out (fun _ _ h => h)).mod Cx36.out (by intro k h1 h2; rcases h1 with h1 | h1 | h1 <;> first | omega | (have hb := HBT.out k h1; omega))).widen (by intro k h1; rcases h1 with h1 | h1 | h1 <;> first | exact Or.inl h1 | (right; omega))⟩, ba_ps HKY.out, ba_ps_len HNY.out HLY.out.1, (hmz.out.trans Cx36.out (fun _ _ h => h))⟩
          · skip
            go_upto_region 10 with (fail)
            refine wp_region_U 82 [35, 36, 37, 38] [0, 1, 2, 3] (fun a0 HA0 => ?_)
            have oe2 := ev HA0 2 rfl
            refine QSeq.pure rfl (.pointer (some ⟨w.heap.size, 2, none⟩)) (fun E => ex_field rfl Try.underlying60 rfl (by kernel_rfl) (E.v oe2)) ?_
            refine QSeq.pure rfl _ (fun E => ex_load1 rfl Try.underlying56 rfl (E.d 0 0) (Cs.lit1 (Hx12.out.mod Cx20.out (fun h => h)) rfl)) ?_
            refine QSeq.pure rfl (.int .i64 y.ps.length) (fun E => ex_lenS rfl (E.d 1 0) Try.underlying56) ?_
            refine QSeq.pure rfl (.bool false) (fun E => ex_binE rfl (E.d 2 0) rfl (guard_ints _ _ _ _ _ _) (run_gtr_i _ _ _ Try.underlying3) (congrArg Value.bool (decide_eq_false (by omega)))) ?_
            refine QSeq.nil (t' := [_, _, _, _]) rfl ?_
            obtain rfl := HA0.out
            clear HA0 oe2
            simp only [pz, Act.put, List.setIfInBounds_toArray, List.set_cons_zero, List.set_cons_succ]
            go_wp2_with fail
            go_meet
            case rel => exact ⟨y, [.int .i64 y.ep, .int .u64 (y.tm : Nat), Value.slice ap0 y.ps.length cp0, Value.slice ap1 y.os.length cp1, Value.slice ap2 y.ts.length cp2], Hx19.out, ⟨_, _, _, rfl, HOKY.out, (Hx14.out.mod Cx20.out (fun _ _ h => h)).widen (by intro k h1; rcases h1 with h1 | h1 | h1 <;> first | exact Or.inl h1 | (right; omega)), (Hx15.out.mod Cx20.out (fun _ _ h => h)).widen (by intro k h1; rcases h1 with h1 | h1 | h1 <;> first | exact Or.inl h1 | (right; omega)), (Hx16.out.mod Cx20.out (fun _ _ h => h)).widen (by intro k h1; rcases h1 with h1 | h1 | h1 <;> first | exact Or.inl h1 | (right; omega))⟩, HKY.out, (Nat.le_trans HNY.out (by decide)), hmz.out⟩
        · have K2 := Lib.hid h2
          clear h2
          go_upto_region 9 with (fail)
          refine wp_region_U 82 [34, 33] [0, 1] (fun a0 HA0 => ?_)
          have oe12 := ev HA0 12 rfl
          refine QSeq.pure rfl (.bool false) (fun E => ex_binE rfl (E.v oe12) rfl (guard_ints _ _ _ _ _ _) (run_eql_i _ _ _ Try.underlying3) (congrArg Value.bool (eq_ff K2.out))) ?_
          refine QSeq.pure rfl _ (fun E => ex_assign rfl (E.d 0 0)) ?_
          refine QSeq.nil (t' := [_, _]) rfl ?_
          obtain rfl := HA0.out
          clear HA0 oe12
          simp only [pz, Act.put, List.setIfInBounds_toArray, List.set_cons_zero, List.set_cons_succ]
          obtain ⟨t, ht, htl⟩ : ∃ t : Nat, bits .xor .u64 ((y.tm : Nat) : Int) 1 = ((t : Nat) : Int) ∧ t < U64 := ⟨(bits .xor .u64 ((y.tm : Nat) : Int) 1).toNat, (by have := bounds_u64 (wf_bits .xor .u64 ((y.tm : Nat) : Int) 1); omega), (by have := bounds_u64 (wf_bits .xor .u64 ((y.tm : Nat) : Int) 1); unfold U64; omega)⟩
          have HT := Lib.hid ht
          have HTL := Lib.hid htl
          clear ht htl
          go_upto_region 4 with (fail)
          refine wp_region_U 82 [13, 14, 15, 16, 86] [0, 1, 2, 3, 4] (fun a0 HA0 => ?_)
          have oe2 := ev HA0 2 rfl
          have oe5 := ev HA0 5 rfl
          refine QSeq.pure rfl (.pointer (some ⟨w.heap.size, 1, none⟩)) (fun E => ex_field rfl Try.underlying60 rfl (by kernel_rfl) (E.v oe2)) ?_
          refine QSeq.pure rfl _ (fun E => ex_load1 rfl Try.underlying26 rfl (E.d 0 0) (Cs.lit1 (Hx12.out.mod Cx20.out (fun h => h)) rfl)) ?_
          refine QSeq.pure rfl (.int .u64 (t : Nat)) (fun E => ex_binE rfl (E.d 1 0) rfl (guard_ints _ _ _ _ _ _) (run_xor_i _ _) (congrArg (Value.int .u64) HT.out)) ?_
          refine QSeq.pure rfl (.pointer (some ⟨u1_3.heap.size, 1, none⟩)) (fun E => ex_field rfl Try.underlying60 rfl (by kernel_rfl) (E.v oe5)) ?_
          refine QSeq.go fun act E => ?_
          refine qc_store rfl (wanted_none rfl) rfl Hx19.out (off := 1) (vs := [Value.int .u64 (t : Nat)]) (by kernel_rfl) one1 (by simp) (E.d 3 0) (ec (E.d 2 1)) ?_
          intro u4_4 qc0 hm
          have qB5 := qc0.eqv (b := #[.int .i64 y.ep, .int .u64 (t : Nat), Value.slice ap0 y.ps.length cp0, Value.slice ap1 y.os.length cp1, Value.slice ap2 y.ts.length cp2]) rfl
          clear qc0
          have Hx37 := hid qB5
          have zu4_4 := hm.size
          have Cx38 := hid (show Mod (fun k => (k = u1_3.heap.size)) u2_2 u4_4 from hm)
          clear hm
          clear act E qB5 Hx19
          refine QSeq.nil (t' := [_, _, _, _, _]) rfl ?_
          obtain rfl := HA0.out
          clear HA0 oe2 oe5
          simp only [pz, Act.put, List.setIfInBounds_toArray, List.set_cons_zero, List.set_cons_succ, List.set_nil]
          go_wp2_with fail
          go_meet
          case rel => exact ⟨{ y with tm := t }, [.int .i64 y.ep, .int .u64 (t : Nat), Value.slice ap0 y.ps.length cp0, Value.slice ap1 y.os.length cp1, Value.slice ap2 y.ts.length cp2], Hx37.out, ⟨_, _, _, rfl, ⟨HOKY.out.1, HTL.out⟩, ((Hx14.out.mod Cx20.out (fun _ _ h => h)).mod Cx38.out (by intro k h1 h2; rcases h1 with h1 | h1 | h1 <;> first | omega | (have hb := HBT.out k h1; omega))).widen (by intro k h1; rcases h1 with h1 | h1 | h1 <;> first | exact Or.inl h1 | (right; omega)), ((Hx15.out.mod Cx20.out (fun _ _ h => h)).mod Cx38.out (by intro k h1 h2; rcases h1 with h1 | h1 | h1 <;> first | omega | (have hb := HBT.out k h1; omega))).widen (by intro k h1; rcases h1 with h1 | h1 | h1 <;> first | exact Or.inl h1 | (right; omega)), ((Hx16.out.mod Cx20.out (fun _ _ h => h)).mod Cx38.out (by intro k h1 h2; rcases h1 with h1 | h1 | h1 <;> first | omega | (have hb := HBT.out k h1; omega))).widen (by intro k h1; rcases h1 with h1 | h1 | h1 <;> first | exact Or.inl h1 | (right; omega))⟩, ba_tm HKY.out HTL.out, ba_tm_len HNY.out HTL.out, (hmz.out.trans Cx38.out (fun _ _ h => h))⟩
  case rest =>
    obtain ⟨wq, rfl⟩ : ∃ x, x = wc := ⟨_, rfl⟩
    obtain ⟨c, dc, hb5, hrd, hok, hln, hm⟩ := hcut
    have zwq := hm.size
    have HB5 := Lib.hid hb5
    have HRD := Lib.hid hrd
    have HKC := Lib.hid hok
    have HNC := Lib.hid hln
    have HDC := hid (show dc.length = 5 from BaR.len hrd)
    clear hb5 hrd hok hln
    clear Hx19
    have Hx39 := hid ((Hx14.out.mod Cx20.out (fun _ _ h => h)).mod hm (by intro k h1 h2; rcases h1 with h1 | h1 | h1 <;> first | omega | (have hb := HBT.out k h1; omega)))
    have Hx40 := hid ((Hx15.out.mod Cx20.out (fun _ _ h => h)).mod hm (by intro k h1 h2; rcases h1 with h1 | h1 | h1 <;> first | omega | (have hb := HBT.out k h1; omega)))
    have Hx41 := hid ((Hx16.out.mod Cx20.out (fun _ _ h => h)).mod hm (by intro k h1 h2; rcases h1 with h1 | h1 | h1 <;> first | omega | (have hb := HBT.out k h1; omega)))
    have Hx42 := hid ((Hx12.out.mod Cx20.out (fun h => h)).mod hm (by intro h2; omega))
    have Hx43 := hid (((HM0.out.trans Cx13.out (by intro k h1 h2; omega)).trans Cx20.out (fun _ _ h => h.elim)).trans hm (by intro k h1 h2; omega))
    clear Hx14 Hx15 Hx16 Hx12 HM0
    clear hm
    by_cases hyc : y = c
    · subst hyc
      go_upto_region 12 with (fail)
      refine wp_region_U 82 [43, 44, 45, 6] [0, 1, 2, 3] (fun a0 HA0 => ?_)
      have oe2 := ev HA0 2 rfl
      have oe5 := ev HA0 5 rfl
      refine QSeq.pure rfl _ (fun E => ex_loadA rfl Try.underlying60 rfl (off := 0) (cs := [.int .i64 y.ep, .int .u64 (y.tm : Nat), Value.slice ap0 y.ps.length cp0, Value.slice ap1 y.os.length cp1, Value.slice ap2 y.ts.length cp2]) (by kernel_rfl) (E.v oe2) (Cs.whole Hx42.out)) ?_
      refine QSeq.pure rfl _ (fun E => ex_loadA rfl Try.underlying60 rfl (off := 0) (cs := dc) (by rw [HDC.out]; kernel_rfl) (E.v oe5) (Cs.whole HB5.out)) ?_
      refine QSeq.call rfl rfl Try.func36 (Eqs.same Eq_Ba (x := y) (show BaR.rd (fun k => (R2 k) ∨ (New w1 u1_1 k) ∨ (New u1_1 u1_2 k)) _ [.int .i64 y.ep, .int .u64 (y.tm : Nat), Value.slice ap0 y.ps.length cp0, Value.slice ap1 y.os.length cp1, Value.slice ap2 y.ts.length cp2] y from ⟨_, _, _, rfl, HOKY.out, Hx39.out, Hx40.out, Hx41.out⟩) HRD.out (by intro k h1; rcases h1 with h1 | h1 | h1 <;> first | omega | (have hb := HBT.out k h1; omega)) (by intro k h1; rcases h1 with h1 | h1 <;> first | omega | (have hb := HBT.out k h1; omega))) (fun E => args2 (E.d 0 1) (E.d 1 0)) ?_
      rintro e u12_2 ⟨rfl, hm⟩
      refine ⟨_, rfl, ?_⟩
      have zu12_2 := hm.size
      have Cx44 := hid (show Mod (fun _ => False) wq u12_2 from hm)
      clear hm
      refine QSeq.pure rfl _ (fun E => ex_assign rfl (E.d 2 0)) ?_
      refine QSeq.nil (t' := [_, _, _, _]) rfl ?_
      obtain rfl := HA0.out
      clear HA0 oe2 oe5
      simp only [pz, Act.put, List.setIfInBounds_toArray, List.set_cons_zero, List.set_cons_succ]
      go_upto_region 13 with (fail)
      generalize ha0 : Act.mk _ _ = a0
      have oe2 : a0.eval (.tmp 2) = .pointer (some ⟨w.heap.size, 0, none⟩) := by rw [← ha0]; rfl
      have oe5 : a0.eval (.tmp 5) = .pointer (some ⟨u1_3.heap.size, 0, none⟩) := by rw [← ha0]; rfl
      have oe6 : a0.eval (.tmp 6) = .bool true := by rw [← ha0]; rfl
      have hsz0 : a0.tmps.size = 82 := by rw [← ha0]; rfl
      have HA0 := hid ha0
      clear ha0
      refine wp_region_Q0 82 hsz0 [46, 47, 48, 49, 50, 51, 52, 53, 54, 55, 56, 57, 58, 59, 60, 61, 62, 63, 64, 65, 66, 67, 68, 69, 70, 71, 72, 73, 74, 75, 76, 77, 78, 79, 80, 81, 4] [qi (.agg #[.int .i64 y.ep, .int .u64 (y.tm : Nat), Value.slice ap0 y.ps.length cp0, Value.slice ap1 y.os.length cp1, Value.slice ap2 y.ts.length cp2]), qi (hv (shaF (baB y))), qi (.agg #[.int .i64 y.ep, .int .u64 (y.tm : Nat), Value.slice ap0 y.ps.length cp0, Value.slice ap1 y.os.length cp1, Value.slice ap2 y.ts.length cp2]), qv 1, qi (hv (shaF (baB y))), qi (.bool true), qi (.bool true), qi (.agg #[.int .i64 y.ep, .int .u64 (y.tm : Nat), Value.slice ap0 y.ps.length cp0, Value.slice ap1 y.os.length cp1, Value.slice ap2 y.ts.length cp2]), qv 3, qi (.agg dc.toArray), qv 4, qi (.bool true), qi (.bool true), qi (.bool true), qi (.bool true), qi (.bool true), qi (.bool true), qi (.bool false), qi (.bool false), qi (.agg #[.int .i64 y.ep, .int .u64 (y.tm : Nat), Value.slice ap0 y.ps.length cp0, Value.slice ap1 y.os.length cp1, Value.slice ap2 y.ts.length cp2]), qi (hv (shaF (baB y))), qi (.agg dc.toArray), qi (hv (shaF (baB y))), qi (.bool true), qi (.bool true), qi (.bool true), qi (.bool true), qi (.agg dc.toArray), qi (hv (shaF (baB y))), qi (.agg dc.toArray), qi (hv (shaF (baB y))), qi (.bool true), qi (.bool true), qi (.bool true), qi (.bool true), qi (.bool true), qi (.bool true)] ⟨qi_stable, qi_stable, qi_stable, qv_stable, qi_stable, qi_stable, qi_stable, qi_stable, qv_stable, qi_stable, qv_stable, qi_stable, qi_stable, qi_stable, qi_stable, qi_stable, qi_stable, qi_stable, qi_stable, qi_stable, qi_stable, qi_stable, qi_stable, qi_stable, qi_stable, qi_stable, qi_stable, qi_stable, qi_stable, qi_stable, qi_stable, qi_stable, qi_stable, qi_stable, qi_stable, qi_stable, qi_stable, trivial⟩ [1, 3, 4, 8, 10, 11, 20, 22, 28, 30, 34] ⟨?_, ?_, ?_, ?_, ?_, ?_, ?_, ?_, ?_, ?_, ?_, ?_, ?_, ?_, ?_, ?_, ?_, ?_, ?_, ?_, ?_, ?_, ?_, ?_, ?_, ?_, ?_, ?_, ?_, ?_, ?_, ?_, ?_, ?_, ?_, ?_, ?_, trivial⟩ ?_
      · exact stq (fun E => ex_loadA rfl Try.underlying60 rfl (off := 0) (cs := [.int .i64 y.ep, .int .u64 (y.tm : Nat), Value.slice ap0 y.ps.length cp0, Value.slice ap1 y.os.length cp1, Value.slice ap2 y.ts.length cp2]) (by kernel_rfl) (E.v oe2) (Cs.whole ((Hx42.out.mod Cx44.out (fun h => h)).mod E.m.old (by intro h2; omega))))
      · exact stepq_chain rfl
      · exact stq (fun E => ex_loadA rfl Try.underlying60 rfl (off := 0) (cs := [.int .i64 y.ep, .int .u64 (y.tm : Nat), Value.slice ap0 y.ps.length cp0, Value.slice ap1 y.os.length cp1, Value.slice ap2 y.ts.length cp2]) (by kernel_rfl) (E.v oe2) (Cs.whole ((Hx42.out.mod Cx44.out (fun h => h)).mod E.m.old (by intro h2; omega))))
      · exact stepq_chain rfl
      · exact stepq_chain rfl
      · exact stq (fun E => ex_binE rfl (E.d 1) (E.d 4) (hv_guard2 _ _ _ _ _ _) (hv_eql (shaF_len _) (shaF_len _) _) (congrArg Value.bool (decide_eq_true rfl)))
      · exact stq (fun E => ex_move rfl (E.d 5))
      · refine stepq_env rfl rfl rfl fun _ _ _ _ _ hm _ hout hsz hd _ _ => ?_
        have h6 := hd ⟨6, .guard⟩ (by simp) rfl _ rfl
        refine qe_run rfl ((wanted_of rfl rfl (hsz 52 (by decide)) h6).trans rfl) (ex_loadA rfl Try.underlying60 rfl (off := 0) (cs := [.int .i64 y.ep, .int .u64 (y.tm : Nat), Value.slice ap0 y.ps.length cp0, Value.slice ap1 y.os.length cp1, Value.slice ap2 y.ts.length cp2]) (by kernel_rfl) ((hout 2 (by decide)).trans oe2) (Cs.whole ((Hx42.out.mod Cx44.out (fun h => h)).mod hm.old (by intro h2; omega)))) QE.refl ?_
        rfl
      · exact stepq_chain rfl
      · refine stepq_env rfl rfl rfl fun _ _ _ _ _ hm _ hout hsz hd _ _ => ?_
        have h6 := hd ⟨6, .guard⟩ (by simp) rfl _ rfl
        refine qe_run rfl ((wanted_of rfl rfl (hsz 52 (by decide)) h6).trans rfl) (ex_loadA rfl Try.underlying60 rfl (off := 0) (cs := dc) (by rw [HDC.out]; kernel_rfl) ((hout 5 (by decide)).trans oe5) (Cs.whole ((HB5.out.mod Cx44.out (fun h => h)).mod hm.old (by intro h2; omega)))) QE.refl ?_
        rfl
      · exact stepq_chain rfl
      · exact stepq_chain rfl
      · refine stepq_env rfl rfl rfl fun _ _ _ _ _ _ _ hout hsz hd _ _ => ?_
        have h6 := hd ⟨6, .guard⟩ (by simp) rfl _ rfl
        refine qe_run rfl ((wanted_of rfl rfl (hsz 52 (by decide)) h6).trans rfl) (ex_move rfl ((hout 6 (by decide)).trans oe6)) QE.refl ?_
        rfl
      · refine stepq_env rfl rfl rfl fun _ _ _ _ _ _ _ _ hsz hd _ _ => ?_
        have h6 := hd ⟨6, .guard⟩ (by simp) rfl _ rfl
        have h11 := hd ⟨11, .data⟩ (by simp) rfl _ rfl
        have h12 := hd ⟨12, .data⟩ (by simp) rfl _ rfl
        refine qe_run rfl ((wanted_of rfl rfl (hsz 52 (by decide)) h6).trans rfl) (ex_binE rfl h11 h12 (guard_bools _ _ _ _ _ _) (run_eql_bools _ _ _ Try.underlying4) (congrArg Value.bool (beq_self_eq_true _))) QE.refl ?_
        rfl
      · exact stq (fun E => ex_pick rfl (E.d 6) (E.d 13) rfl)
      · exact stq (fun E => ex_move rfl (E.d 14))
      · refine stepq_env rfl rfl rfl fun _ _ _ _ _ _ _ hout hsz hd _ _ => ?_
        have h15 := hd ⟨15, .guard⟩ (by simp) rfl _ rfl
        refine qe_run rfl ((wanted_of rfl rfl (hsz 61 (by decide)) h15).trans rfl) (ex_move rfl ((hout 6 (by decide)).trans oe6)) QE.refl ?_
        rfl
      · refine stepq_env rfl rfl rfl fun _ _ _ _ _ _ _ _ hsz hd _ _ => ?_
        have h15 := hd ⟨15, .guard⟩ (by simp) rfl _ rfl
        have h16 := hd ⟨16, .data⟩ (by simp) rfl _ rfl
        refine qe_run rfl ((wanted_of rfl rfl (hsz 61 (by decide)) h15).trans rfl) (ex_not rfl h16) QE.refl ?_
        rfl
      · refine stepq_env rfl rfl rfl fun _ _ _ _ _ _ _ _ hsz hd _ _ => ?_
        have h15 := hd ⟨15, .chain⟩ (by simp) rfl _ rfl
        have h17 := hd ⟨17, .data⟩ (by simp) rfl _ rfl
        refine qe_run rfl ((wanted_of rfl rfl (hsz 61 (by decide)) h15).trans rfl) (ex_move rfl h17) QE.refl ?_
        rfl
      · refine stepq_env rfl rfl rfl fun _ _ _ _ _ hm _ hout hsz hd _ _ => ?_
        have h18 := hd ⟨18, .guard⟩ (by simp) rfl _ rfl
        refine qe_run rfl ((wanted_of rfl rfl (hsz 64 (by decide)) h18).trans rfl) (ex_loadA rfl Try.underlying60 rfl (off := 0) (cs := [.int .i64 y.ep, .int .u64 (y.tm : Nat), Value.slice ap0 y.ps.length cp0, Value.slice ap1 y.os.length cp1, Value.slice ap2 y.ts.length cp2]) (by kernel_rfl) ((hout 2 (by decide)).trans oe2) (Cs.whole ((Hx42.out.mod Cx44.out (fun h => h)).mod hm.old (by intro h2; omega)))) QE.refl ?_
        rfl
      · exact stepq_chain rfl
      · refine stepq_env rfl rfl rfl fun _ _ _ _ _ hm _ hout hsz hd _ _ => ?_
        have h18 := hd ⟨18, .guard⟩ (by simp) rfl _ rfl
        refine qe_run rfl ((wanted_of rfl rfl (hsz 64 (by decide)) h18).trans rfl) (ex_loadA rfl Try.underlying60 rfl (off := 0) (cs := dc) (by rw [HDC.out]; kernel_rfl) ((hout 5 (by decide)).trans oe5) (Cs.whole ((HB5.out.mod Cx44.out (fun h => h)).mod hm.old (by intro h2; omega)))) QE.refl ?_
        rfl
      · exact stepq_chain rfl
      · refine stepq_env rfl rfl rfl fun _ _ _ _ _ _ _ _ hsz hd _ _ => ?_
        have h18 := hd ⟨18, .guard⟩ (by simp) rfl _ rfl
        have h20 := hd ⟨20, .data⟩ (by simp) rfl _ rfl
        have h22 := hd ⟨22, .data⟩ (by simp) rfl _ rfl
        refine qe_run rfl ((wanted_of rfl rfl (hsz 64 (by decide)) h18).trans rfl) (ex_binE rfl h20 h22 (hv_guard2 _ _ _ _ _ _) (hv_eql (shaF_len _) (shaF_len _) _) (congrArg Value.bool (decide_eq_true rfl))) QE.refl ?_
        rfl
      · refine stepq_env rfl rfl rfl fun _ _ _ _ _ _ _ _ hsz hd _ _ => ?_
        have h15 := hd ⟨15, .guard⟩ (by simp) rfl _ rfl
        have h18 := hd ⟨18, .data⟩ (by simp) rfl _ rfl
        have h23 := hd ⟨23, .data⟩ (by simp) rfl _ rfl
        refine qe_run rfl ((wanted_of rfl rfl (hsz 61 (by decide)) h15).trans rfl) (ex_pick rfl h18 rfl h23) QE.refl ?_
        rfl
      · exact stq (fun E => ex_pick rfl (E.d 15) (E.d 24) rfl)
      · exact stq (fun E => ex_move rfl (E.d 25))
      · refine stepq_env rfl rfl rfl fun _ _ _ _ _ hm _ hout hsz hd _ _ => ?_
        have h26 := hd ⟨26, .guard⟩ (by simp) rfl _ rfl
        refine qe_run rfl ((wanted_of rfl rfl (hsz 72 (by decide)) h26).trans rfl) (ex_loadA rfl Try.underlying60 rfl (off := 0) (cs := dc) (by rw [HDC.out]; kernel_rfl) ((hout 5 (by decide)).trans oe5) (Cs.whole ((HB5.out.mod Cx44.out (fun h => h)).mod hm.old (by intro h2; omega)))) QE.refl ?_
        rfl
      · exact stepq_chain rfl
      · refine stepq_env rfl rfl rfl fun _ _ _ _ _ hm _ hout hsz hd _ _ => ?_
        have h26 := hd ⟨26, .guard⟩ (by simp) rfl _ rfl
        refine qe_run rfl ((wanted_of rfl rfl (hsz 72 (by decide)) h26).trans rfl) (ex_loadA rfl Try.underlying60 rfl (off := 0) (cs := dc) (by rw [HDC.out]; kernel_rfl) ((hout 5 (by decide)).trans oe5) (Cs.whole ((HB5.out.mod Cx44.out (fun h => h)).mod hm.old (by intro h2; omega)))) QE.refl ?_
        rfl
      · exact stepq_chain rfl
      · refine stepq_env rfl rfl rfl fun _ _ _ _ _ _ _ _ hsz hd _ _ => ?_
        have h26 := hd ⟨26, .guard⟩ (by simp) rfl _ rfl
        have h28 := hd ⟨28, .data⟩ (by simp) rfl _ rfl
        have h30 := hd ⟨30, .data⟩ (by simp) rfl _ rfl
        refine qe_run rfl ((wanted_of rfl rfl (hsz 72 (by decide)) h26).trans rfl) (ex_binE rfl h28 h30 (hv_guard2 _ _ _ _ _ _) (hv_eql (shaF_len _) (shaF_len _) _) (congrArg Value.bool (decide_eq_true rfl))) QE.refl ?_
        rfl
      · exact stq (fun E => ex_pick rfl (E.d 26) (E.d 31) rfl)
      · exact stq (fun E => ex_move rfl (E.d 32))
      · exact stepq_chain rfl
      · exact stq (fun E => ex_pick rfl (E.d 33) (E.d 34) rfl)
      · exact stq (fun E => ex_assign rfl (E.d 35))
      intro u13_0 hr
      have zu13_0 := hr.size
      have Cx45 := hid (hr.new (S := (fun _ => False)))
      clear hr
      refine QChain.go fun Z act E => ?_
      refine qc_callF (args := #[.agg #[.int .i64 y.ep, .int .u64 (y.tm : Nat), Value.slice ap0 y.ps.length cp0, Value.slice ap1 y.os.length cp1, Value.slice ap2 y.ts.length cp2]]) rfl (wanted_none rfl) rfl Try.func42 (args1 (E.d 0)) (BatchHash_Q _ _ y _ (show BaR.rd (fun k => (R2 k) ∨ (New w1 u1_1 k) ∨ (New u1_1 u1_2 k)) _ [.int .i64 y.ep, .int .u64 (y.tm : Nat), Value.slice ap0 y.ps.length cp0, Value.slice ap1 y.os.length cp1, Value.slice ap2 y.ts.length cp2] y from ⟨_, _, _, rfl, HOKY.out, ((Hx39.out.mod Cx44.out (fun _ _ h => h)).mod Cx45.out (fun _ _ h => h)), ((Hx40.out.mod Cx44.out (fun _ _ h => h)).mod Cx45.out (fun _ _ h => h)), ((Hx41.out.mod Cx44.out (fun _ _ h => h)).mod Cx45.out (fun _ _ h => h))⟩) (by intro k h1; rcases h1 with h1 | h1 | h1 <;> first | omega | (have hb := HBT.out k h1; omega)) (Nat.le_trans HNY.out (by decide))) ?_
      rintro e u13_1a ⟨rfl, hm⟩
      have zu13_1a := hm.size
      refine ⟨_, rfl, hm.mono (fun _ _ h => h.elim), (fun _ => rfl), ?_⟩
      intro u13_1 hr
      have zu13_1 := hr.size
      have Cx46 := hid (Cx45.out.go hm hr)
      clear Cx45 hm hr Z act E
      refine QChain.go fun Z act E => ?_
      refine qc_callF (args := #[.agg #[.int .i64 y.ep, .int .u64 (y.tm : Nat), Value.slice ap0 y.ps.length cp0, Value.slice ap1 y.os.length cp1, Value.slice ap2 y.ts.length cp2]]) rfl (wanted_none rfl) rfl Try.func41 (args1 (E.d 2)) (niceBatch_c _ y _ _ (show BaR.rd (fun k => (R2 k) ∨ (New w1 u1_1 k) ∨ (New u1_1 u1_2 k)) _ [.int .i64 y.ep, .int .u64 (y.tm : Nat), Value.slice ap0 y.ps.length cp0, Value.slice ap1 y.os.length cp1, Value.slice ap2 y.ts.length cp2] y from ⟨_, _, _, rfl, HOKY.out, ((Hx39.out.mod Cx44.out (fun _ _ h => h)).mod Cx46.out (fun _ _ h => h)), ((Hx40.out.mod Cx44.out (fun _ _ h => h)).mod Cx46.out (fun _ _ h => h)), ((Hx41.out.mod Cx44.out (fun _ _ h => h)).mod Cx46.out (fun _ _ h => h))⟩) (by intro k h1; rcases h1 with h1 | h1 | h1 <;> first | omega | (have hb := HBT.out k h1; omega)) HFY.out) ?_
      rintro e u13_2a ⟨d3, rfl, qny, hm⟩
      rw [HTY.out] at qny
      have zu13_2a := hm.size
      refine ⟨_, rfl, hm.mono (fun _ _ h => h.elim), (fun _ => rfl), ?_⟩
      intro u13_2 hr
      have zu13_2 := hr.size
      have Hx47 := hid ((qny.widen (R' := (fun k => (R2 k) ∨ (New w1 u1_1 k) ∨ (New u1_1 u1_2 k) ∨ (New u13_1 u13_2a k))) (by intro k h1; simp only [or_assoc] at h1 ⊢; exact h1)).mod hr (by intro k h1 h2; rcases h1 with h1 | h1 | h1 | h1 <;> first | omega | (have hb := HBT.out k h1; omega)))
      have Cx48 := hid (Cx46.out.go hm hr)
      clear Cx46 hm hr Z act E qny
      refine QChain.go fun Z act E => ?_
      refine qc_callF (args := #[.agg d3.toArray]) rfl (wanted_none rfl) rfl Try.func42 (args1 (chv (v := .agg d3.toArray) (E.d 3))) (BatchHash_Q _ _ y _ Hx47.out (by intro k h1; rcases h1 with h1 | h1 | h1 | h1 <;> first | omega | (have hb := HBT.out k h1; omega)) (Nat.le_trans HNY.out (by decide))) ?_
      rintro e u13_3a ⟨rfl, hm⟩
      have zu13_3a := hm.size
      refine ⟨_, rfl, hm.mono (fun _ _ h => h.elim), (fun _ => rfl), ?_⟩
      intro u13_3 hr
      have zu13_3 := hr.size
      have hmr := Mod.after hm hr
      have Hx49 := hid (Hx47.out.mod hmr (by intro k h1 h2; rcases h1 with h1 | h1 | h1 | h1 <;> first | omega | (have hb := HBT.out k h1; omega)))
      clear Hx47
      clear hmr
      have Cx50 := hid (Cx48.out.go hm hr)
      clear Cx48 hm hr Z act E
      refine QChain.go fun Z act E => ?_
      refine qc_callF (args := #[.agg #[.int .i64 y.ep, .int .u64 (y.tm : Nat), Value.slice ap0 y.ps.length cp0, Value.slice ap1 y.os.length cp1, Value.slice ap2 y.ts.length cp2]]) rfl ((wanted_of rfl rfl (E.sz 52 (by decide)) (E.e 6 .chain)).trans rfl) rfl Try.func24 (args1 (E.d 7)) (RefBa_Q _ _ y _ (show BaR.rd (fun k => (R2 k) ∨ (New w1 u1_1 k) ∨ (New u1_1 u1_2 k)) _ [.int .i64 y.ep, .int .u64 (y.tm : Nat), Value.slice ap0 y.ps.length cp0, Value.slice ap1 y.os.length cp1, Value.slice ap2 y.ts.length cp2] y from ⟨_, _, _, rfl, HOKY.out, ((Hx39.out.mod Cx44.out (fun _ _ h => h)).mod Cx50.out (fun _ _ h => h)), ((Hx40.out.mod Cx44.out (fun _ _ h => h)).mod Cx50.out (fun _ _ h => h)), ((Hx41.out.mod Cx44.out (fun _ _ h => h)).mod Cx50.out (fun _ _ h => h))⟩) (by intro k h1; rcases h1 with h1 | h1 | h1 <;> first | omega | (have hb := HBT.out k h1; omega)) (Nat.le_trans HNY.out (by decide))) ?_
      rintro e u13_4a ⟨v_a1, rfl, qa1, hm⟩
      obtain ⟨ao_a1, cap_a1, rfl⟩ := qa1.shape
      have zu13_4a := hm.size
      refine ⟨_, rfl, hm.mono (fun _ _ h => h.elim), (fun _ => rfl), ?_⟩
      intro u13_4 hr
      have zu13_4 := hr.size
      have Hx51 := hid ((qa1.widen (R' := (fun k => (New u13_3 u13_4a k))) (fun _ h => h) (Nat.le_refl _)).mod hr (by intro k h1 h2; omega))
      have hmr := Mod.after hm hr
      have Hx52 := hid (Hx49.out.mod hmr (by intro k h1 h2; rcases h1 with h1 | h1 | h1 | h1 <;> first | omega | (have hb := HBT.out k h1; omega)))
      clear Hx49
      clear hmr
      have Cx53 := hid (Cx50.out.go hm hr)
      clear Cx50 hm hr Z act E qa1
      refine QChain.go fun Z act E => ?_
      refine qc_callF (args := #[.agg dc.toArray]) rfl ((wanted_of rfl rfl (E.sz 52 (by decide)) (E.e 6 .guard)).trans rfl) rfl Try.func24 (args1 (E.d 9)) (RefBa_Q _ _ y _ ((HRD.out.mod Cx44.out (fun _ _ h => h)).mod Cx53.out (fun _ _ h => h)) (by intro k h1; rcases h1 with h1 | h1 <;> first | omega | (have hb := HBT.out k h1; omega)) HNC.out) ?_
      rintro e u13_5a ⟨v_a2, rfl, qa2, hm⟩
      obtain ⟨ao_a2, cap_a2, rfl⟩ := qa2.shape
      have zu13_5a := hm.size
      refine ⟨_, rfl, hm.mono (fun _ _ h => h.elim), (fun _ => rfl), ?_⟩
      intro u13_5 hr
      have zu13_5 := hr.size
      have Hx54 := hid ((qa2.widen (R' := (fun k => (New u13_4 u13_5a k))) (fun _ h => h) (Nat.le_refl _)).mod hr (by intro k h1 h2; omega))
      have hmr := Mod.after hm hr
      have Hx55 := hid (Hx52.out.mod hmr (by intro k h1 h2; rcases h1 with h1 | h1 | h1 | h1 <;> first | omega | (have hb := HBT.out k h1; omega)))
      have Hx56 := hid (Hx51.out.mod hmr (by intro k h1 h2; omega))
      clear Hx52 Hx51
      clear hmr
      have Cx57 := hid (Cx53.out.go hm hr)
      clear Cx53 hm hr Z act E qa2
      refine QChain.go fun Z act E => ?_
      refine qc_callF (args := #[.slice ao_a1 ((baB y).length) cap_a1, .slice ao_a2 ((baB y).length) cap_a2]) rfl ((wanted_of rfl rfl (E.sz 52 (by decide)) (E.e 6 .guard)).trans rfl) rfl Try.func18 (args2 (chv (v := .slice ao_a1 ((baB y).length) cap_a1) (E.d 8)) (chv (v := .slice ao_a2 ((baB y).length) cap_a2) (E.d 10))) (Same_true Hx56.out.rd Hx54.out.rd rfl) ?_
      rintro e u13_6a ⟨rfl, hm⟩
      have zu13_6a := hm.size
      refine ⟨_, rfl, hm.mono (fun _ _ h => h.elim), (fun _ => rfl), ?_⟩
      intro u13_6 hr
      have zu13_6 := hr.size
      have hmr := Mod.after hm hr
      have Hx58 := hid (Hx55.out.mod hmr (by intro k h1 h2; rcases h1 with h1 | h1 | h1 | h1 <;> first | omega | (have hb := HBT.out k h1; omega)))
      have Hx59 := hid (Hx56.out.mod hmr (by intro k h1 h2; omega))
      have Hx60 := hid (Hx54.out.mod hmr (by intro k h1 h2; omega))
      clear Hx55 Hx56 Hx54
      clear hmr
      have Cx61 := hid (Cx57.out.go hm hr)
      clear Cx57 hm hr Z act E
      refine QChain.go fun Z act E => ?_
      refine qc_callF (args := #[.agg #[.int .i64 y.ep, .int .u64 (y.tm : Nat), Value.slice ap0 y.ps.length cp0, Value.slice ap1 y.os.length cp1, Value.slice ap2 y.ts.length cp2]]) rfl ((wanted_of rfl rfl (E.sz 64 (by decide)) (E.e 18 .chain)).trans rfl) rfl Try.func42 (args1 (E.d 19)) (BatchHash_Q _ _ y _ (show BaR.rd (fun k => (R2 k) ∨ (New w1 u1_1 k) ∨ (New u1_1 u1_2 k)) _ [.int .i64 y.ep, .int .u64 (y.tm : Nat), Value.slice ap0 y.ps.length cp0, Value.slice ap1 y.os.length cp1, Value.slice ap2 y.ts.length cp2] y from ⟨_, _, _, rfl, HOKY.out, ((Hx39.out.mod Cx44.out (fun _ _ h => h)).mod Cx61.out (fun _ _ h => h)), ((Hx40.out.mod Cx44.out (fun _ _ h => h)).mod Cx61.out (fun _ _ h => h)), ((Hx41.out.mod Cx44.out (fun _ _ h => h)).mod Cx61.out (fun _ _ h => h))⟩) (by intro k h1; rcases h1 with h1 | h1 | h1 <;> first | omega | (have hb := HBT.out k h1; omega)) (Nat.le_trans HNY.out (by decide))) ?_
      rintro e u13_7a ⟨rfl, hm⟩
      have zu13_7a := hm.size
      refine ⟨_, rfl, hm.mono (fun _ _ h => h.elim), (fun _ => rfl), ?_⟩
      intro u13_7 hr
      have zu13_7 := hr.size
      have hmr := Mod.after hm hr
      have Hx62 := hid (Hx58.out.mod hmr (by intro k h1 h2; rcases h1 with h1 | h1 | h1 | h1 <;> first | omega | (have hb := HBT.out k h1; omega)))
      have Hx63 := hid (Hx59.out.mod hmr (by intro k h1 h2; omega))
      have Hx64 := hid (Hx60.out.mod hmr (by intro k h1 h2; omega))
      clear Hx58 Hx59 Hx60
      clear hmr
      have Cx65 := hid (Cx61.out.go hm hr)
      clear Cx61 hm hr Z act E
      refine QChain.go fun Z act E => ?_
      refine qc_callF (args := #[.agg dc.toArray]) rfl ((wanted_of rfl rfl (E.sz 64 (by decide)) (E.e 18 .guard)).trans rfl) rfl Try.func42 (args1 (E.d 21)) (BatchHash_Q _ _ y _ ((HRD.out.mod Cx44.out (fun _ _ h => h)).mod Cx65.out (fun _ _ h => h)) (by intro k h1; rcases h1 with h1 | h1 <;> first | omega | (have hb := HBT.out k h1; omega)) HNC.out) ?_
      rintro e u13_8a ⟨rfl, hm⟩
      have zu13_8a := hm.size
      refine ⟨_, rfl, hm.mono (fun _ _ h => h.elim), (fun _ => rfl), ?_⟩
      intro u13_8 hr
      have zu13_8 := hr.size
      have hmr := Mod.after hm hr
      have Hx66 := hid (Hx62.out.mod hmr (by intro k h1 h2; rcases h1 with h1 | h1 | h1 | h1 <;> first | omega | (have hb := HBT.out k h1; omega)))
      have Hx67 := hid (Hx63.out.mod hmr (by intro k h1 h2; omega))
      have Hx68 := hid (Hx64.out.mod hmr (by intro k h1 h2; omega))
      clear Hx62 Hx63 Hx64
      clear hmr
      have Cx69 := hid (Cx65.out.go hm hr)
      clear Cx65 hm hr Z act E
      refine QChain.go fun Z act E => ?_
      refine qc_callF (args := #[.agg dc.toArray]) rfl ((wanted_of rfl rfl (E.sz 72 (by decide)) (E.e 26 .chain)).trans rfl) rfl Try.func42 (args1 (E.d 27)) (BatchHash_Q _ _ y _ ((HRD.out.mod Cx44.out (fun _ _ h => h)).mod Cx69.out (fun _ _ h => h)) (by intro k h1; rcases h1 with h1 | h1 <;> first | omega | (have hb := HBT.out k h1; omega)) HNC.out) ?_
      rintro e u13_9a ⟨rfl, hm⟩
      have zu13_9a := hm.size
      refine ⟨_, rfl, hm.mono (fun _ _ h => h.elim), (fun _ => rfl), ?_⟩
      intro u13_9 hr
      have zu13_9 := hr.size
      have hmr := Mod.after hm hr
      have Hx70 := hid (Hx66.out.mod hmr (by intro k h1 h2; rcases h1 with h1 | h1 | h1 | h1 <;> first | omega | (have hb := HBT.out k h1; omega)))
      have Hx71 := hid (Hx67.out.mod hmr (by intro k h1 h2; omega))
      have Hx72 := hid (Hx68.out.mod hmr (by intro k h1 h2; omega))
      clear Hx66 Hx67 Hx68
      clear hmr
      have Cx73 := hid (Cx69.out.go hm hr)
      clear Cx69 hm hr Z act E
      refine QChain.go fun Z act E => ?_
      refine qc_callF (args := #[.agg dc.toArray]) rfl ((wanted_of rfl rfl (E.sz 72 (by decide)) (E.e 26 .guard)).trans rfl) rfl Try.func43 (args1 (E.d 29)) (RefBatchHash_Q _ _ y _ ((HRD.out.mod Cx44.out (fun _ _ h => h)).mod Cx73.out (fun _ _ h => h)) (by intro k h1; rcases h1 with h1 | h1 <;> first | omega | (have hb := HBT.out k h1; omega)) HNC.out) ?_
      rintro e u13_10a ⟨rfl, hm⟩
      have zu13_10a := hm.size
      refine ⟨_, rfl, hm.mono (fun _ _ h => h.elim), (fun _ => rfl), ?_⟩
      intro u13_10 hr
      have zu13_10 := hr.size
      have hmr := Mod.after hm hr
      have Hx74 := hid (Hx70.out.mod hmr (by intro k h1 h2; rcases h1 with h1 | h1 | h1 | h1 <;> first | omega | (have hb := HBT.out k h1; omega)))
      have Hx75 := hid (Hx71.out.mod hmr (by intro k h1 h2; omega))
      have Hx76 := hid (Hx72.out.mod hmr (by intro k h1 h2; omega))
      clear Hx70 Hx71 Hx72
      clear hmr
      have Cx77 := hid (Cx73.out.go hm hr)
      clear Cx73 hm hr Z act E
      refine QChain.go fun Z act E => ?_
      refine qc_callF (args := #[]) rfl ((wanted_of rfl rfl (E.sz 79 (by decide)) (E.e 33 .chain)).trans rfl) rfl Try.func19 args0 (wakes05 _) ?_
      rintro e u13_11a ⟨rfl, hm⟩
      have zu13_11a := hm.size
      refine ⟨_, rfl, hm.mono (fun _ _ h => h.elim), (fun _ => rfl), ?_⟩
      intro u13_11 hr
      have zu13_11 := hr.size
      have hmr := Mod.after hm hr
      have Hx78 := hid (Hx74.out.mod hmr (by intro k h1 h2; rcases h1 with h1 | h1 | h1 | h1 <;> first | omega | (have hb := HBT.out k h1; omega)))
      have Hx79 := hid (Hx75.out.mod hmr (by intro k h1 h2; omega))
      have Hx80 := hid (Hx76.out.mod hmr (by intro k h1 h2; omega))
      clear Hx74 Hx75 Hx76
      clear hmr
      have Cx81 := hid (Cx77.out.go hm hr)
      clear Cx77 hm hr Z act E
      refine QChain.nil fun vs hl hzz hrows hne => ?_
      obtain ⟨Z, hYZ, hZb, hV⟩ := hzz
      have f36 := fvi hV hl 36
      rw [show vs = [gw vs 0, gw vs 1, gw vs 2, gw vs 3, gw vs 4, gw vs 5, gw vs 6, gw vs 7, gw vs 8, gw vs 9, gw vs 10, gw vs 11, gw vs 12, gw vs 13, gw vs 14, gw vs 15, gw vs 16, gw vs 17, gw vs 18, gw vs 19, gw vs 20, gw vs 21, gw vs 22, gw vs 23, gw vs 24, gw vs 25, gw vs 26, gw vs 27, gw vs 28, gw vs 29, gw vs 30, gw vs 31, gw vs 32, gw vs 33, gw vs 34, gw vs 35, gw vs 36] from (gw_eta hl).trans rfl]
      have ha0 := HA0.out
      subst ha0
      clear HA0 hV hYZ hZb hsz0 hrows hne oe2 oe5 oe6
      simp only [putAll, Act.put, List.setIfInBounds_toArray, List.set_cons_zero, List.set_cons_succ, f36]
      clear hl f36
      go_wp2
      go_ret
      exact ⟨rfl, ((Hx43.out.trans Cx44.out (fun _ _ h => h.elim)).trans Cx81.out (fun _ _ h => h.elim))⟩
    · have HYC := Lib.hid hyc
      clear hyc
      go_upto_region 12 with (fail)
      refine wp_region_U 82 [43, 44, 45, 6] [0, 1, 2, 3] (fun a0 HA0 => ?_)
      have oe2 := ev HA0 2 rfl
      have oe5 := ev HA0 5 rfl
      refine QSeq.pure rfl _ (fun E => ex_loadA rfl Try.underlying60 rfl (off := 0) (cs := [.int .i64 y.ep, .int .u64 (y.tm : Nat), Value.slice ap0 y.ps.length cp0, Value.slice ap1 y.os.length cp1, Value.slice ap2 y.ts.length cp2]) (by kernel_rfl) (E.v oe2) (Cs.whole Hx42.out)) ?_
      refine QSeq.pure rfl _ (fun E => ex_loadA rfl Try.underlying60 rfl (off := 0) (cs := dc) (by rw [HDC.out]; kernel_rfl) (E.v oe5) (Cs.whole HB5.out)) ?_
      refine QSeq.call rfl rfl Try.func36 (Eqs.diff Eq_Ba HYC.out (show BaR.rd (fun k => (R2 k) ∨ (New w1 u1_1 k) ∨ (New u1_1 u1_2 k)) _ [.int .i64 y.ep, .int .u64 (y.tm : Nat), Value.slice ap0 y.ps.length cp0, Value.slice ap1 y.os.length cp1, Value.slice ap2 y.ts.length cp2] y from ⟨_, _, _, rfl, HOKY.out, Hx39.out, Hx40.out, Hx41.out⟩) HRD.out (by intro k h1; rcases h1 with h1 | h1 | h1 <;> first | omega | (have hb := HBT.out k h1; omega)) (by intro k h1; rcases h1 with h1 | h1 <;> first | omega | (have hb := HBT.out k h1; omega))) (fun E => args2 (E.d 0 1) (E.d 1 0)) ?_
      rintro e u12_2 ⟨rfl, hm⟩
      refine ⟨_, rfl, ?_⟩
      have zu12_2 := hm.size
      have Cx82 := hid (show Mod (fun _ => False) wq u12_2 from hm)
      clear hm
      refine QSeq.pure rfl _ (fun E => ex_assign rfl (E.d 2 0)) ?_
      refine QSeq.nil (t' := [_, _, _, _]) rfl ?_
      obtain rfl := HA0.out
      clear HA0 oe2 oe5
      simp only [pz, Act.put, List.setIfInBounds_toArray, List.set_cons_zero, List.set_cons_succ]
      go_upto_region 13 with (fail)
      generalize ha0 : Act.mk _ _ = a0
      have oe2 : a0.eval (.tmp 2) = .pointer (some ⟨w.heap.size, 0, none⟩) := by rw [← ha0]; rfl
      have oe5 : a0.eval (.tmp 5) = .pointer (some ⟨u1_3.heap.size, 0, none⟩) := by rw [← ha0]; rfl
      have oe6 : a0.eval (.tmp 6) = .bool false := by rw [← ha0]; rfl
      have hsz0 : a0.tmps.size = 82 := by rw [← ha0]; rfl
      have HA0 := hid ha0
      clear ha0
      refine wp_region_Q0 82 hsz0 [46, 47, 48, 49, 50, 51, 52, 53, 54, 55, 56, 57, 58, 59, 60, 61, 62, 63, 64, 65, 66, 67, 68, 69, 70, 71, 72, 73, 74, 75, 76, 77, 78, 79, 80, 81, 4] [qi (.agg #[.int .i64 y.ep, .int .u64 (y.tm : Nat), Value.slice ap0 y.ps.length cp0, Value.slice ap1 y.os.length cp1, Value.slice ap2 y.ts.length cp2]), qi (hv (shaF (baB y))), qi (.agg #[.int .i64 y.ep, .int .u64 (y.tm : Nat), Value.slice ap0 y.ps.length cp0, Value.slice ap1 y.os.length cp1, Value.slice ap2 y.ts.length cp2]), qv 1, qi (hv (shaF (baB y))), qi (.bool true), qi (.bool true), qi (.agg #[.int .i64 y.ep, .int .u64 (y.tm : Nat), Value.slice ap0 y.ps.length cp0, Value.slice ap1 y.os.length cp1, Value.slice ap2 y.ts.length cp2]), qv 3, qi (.agg dc.toArray), qv 4, qi (.bool false), qi (.bool false), qi (.bool true), qi (.bool true), qi (.bool true), qi (.bool false), qi (.bool true), qi (.bool true), qi undef, qi undef, qi undef, qi undef, qi undef, qi (.bool true), qi (.bool true), qi (.bool true), qi (.agg dc.toArray), qi (hv (shaF (baB c))), qi (.agg dc.toArray), qi (hv (shaF (baB c))), qi (.bool true), qi (.bool true), qi (.bool true), qi (.bool true), qi (.bool true), qi (.bool true)] ⟨qi_stable, qi_stable, qi_stable, qv_stable, qi_stable, qi_stable, qi_stable, qi_stable, qv_stable, qi_stable, qv_stable, qi_stable, qi_stable, qi_stable, qi_stable, qi_stable, qi_stable, qi_stable, qi_stable, qi_stable, qi_stable, qi_stable, qi_stable, qi_stable, qi_stable, qi_stable, qi_stable, qi_stable, qi_stable, qi_stable, qi_stable, qi_stable, qi_stable, qi_stable, qi_stable, qi_stable, qi_stable, trivial⟩ [1, 3, 4, 8, 10, 11, 28, 30, 34] ⟨?_, ?_, ?_, ?_, ?_, ?_, ?_, ?_, ?_, ?_, ?_, ?_, ?_, ?_, ?_, ?_, ?_, ?_, ?_, ?_, ?_, ?_, ?_, ?_, ?_, ?_, ?_, ?_, ?_, ?_, ?_, ?_, ?_, ?_, ?_, ?_, ?_, trivial⟩ ?_
      · exact stq (fun E => ex_loadA rfl Try.underlying60 rfl (off := 0) (cs := [.int .i64 y.ep, .int .u64 (y.tm : Nat), Value.slice ap0 y.ps.length cp0, Value.slice ap1 y.os.length cp1, Value.slice ap2 y.ts.length cp2]) (by kernel_rfl) (E.v oe2) (Cs.whole ((Hx42.out.mod Cx82.out (fun h => h)).mod E.m.old (by intro h2; omega))))
      · exact stepq_chain rfl
      · exact stq (fun E => ex_loadA rfl Try.underlying60 rfl (off := 0) (cs := [.int .i64 y.ep, .int .u64 (y.tm : Nat), Value.slice ap0 y.ps.length cp0, Value.slice ap1 y.os.length cp1, Value.slice ap2 y.ts.length cp2]) (by kernel_rfl) (E.v oe2) (Cs.whole ((Hx42.out.mod Cx82.out (fun h => h)).mod E.m.old (by intro h2; omega))))
      · exact stepq_chain rfl
      · exact stepq_chain rfl
      · exact stq (fun E => ex_binE rfl (E.d 1) (E.d 4) (hv_guard2 _ _ _ _ _ _) (hv_eql (shaF_len _) (shaF_len _) _) (congrArg Value.bool (decide_eq_true rfl)))
      · exact stq (fun E => ex_move rfl (E.d 5))
      · refine stepq_env rfl rfl rfl fun _ _ _ _ _ hm _ hout hsz hd _ _ => ?_
        have h6 := hd ⟨6, .guard⟩ (by simp) rfl _ rfl
        refine qe_run rfl ((wanted_of rfl rfl (hsz 52 (by decide)) h6).trans rfl) (ex_loadA rfl Try.underlying60 rfl (off := 0) (cs := [.int .i64 y.ep, .int .u64 (y.tm : Nat), Value.slice ap0 y.ps.length cp0, Value.slice ap1 y.os.length cp1, Value.slice ap2 y.ts.length cp2]) (by kernel_rfl) ((hout 2 (by decide)).trans oe2) (Cs.whole ((Hx42.out.mod Cx82.out (fun h => h)).mod hm.old (by intro h2; omega)))) QE.refl ?_
        rfl
      · exact stepq_chain rfl
      · refine stepq_env rfl rfl rfl fun _ _ _ _ _ hm _ hout hsz hd _ _ => ?_
        have h6 := hd ⟨6, .guard⟩ (by simp) rfl _ rfl
        refine qe_run rfl ((wanted_of rfl rfl (hsz 52 (by decide)) h6).trans rfl) (ex_loadA rfl Try.underlying60 rfl (off := 0) (cs := dc) (by rw [HDC.out]; kernel_rfl) ((hout 5 (by decide)).trans oe5) (Cs.whole ((HB5.out.mod Cx82.out (fun h => h)).mod hm.old (by intro h2; omega)))) QE.refl ?_
        rfl
      · exact stepq_chain rfl
      · exact stepq_chain rfl
      · refine stepq_env rfl rfl rfl fun _ _ _ _ _ _ _ hout hsz hd _ _ => ?_
        have h6 := hd ⟨6, .guard⟩ (by simp) rfl _ rfl
        refine qe_run rfl ((wanted_of rfl rfl (hsz 52 (by decide)) h6).trans rfl) (ex_move rfl ((hout 6 (by decide)).trans oe6)) QE.refl ?_
        rfl
      · refine stepq_env rfl rfl rfl fun _ _ _ _ _ _ _ _ hsz hd _ _ => ?_
        have h6 := hd ⟨6, .guard⟩ (by simp) rfl _ rfl
        have h11 := hd ⟨11, .data⟩ (by simp) rfl _ rfl
        have h12 := hd ⟨12, .data⟩ (by simp) rfl _ rfl
        refine qe_run rfl ((wanted_of rfl rfl (hsz 52 (by decide)) h6).trans rfl) (ex_binE rfl h11 h12 (guard_bools _ _ _ _ _ _) (run_eql_bools _ _ _ Try.underlying4) (congrArg Value.bool (beq_self_eq_true _))) QE.refl ?_
        rfl
      · exact stq (fun E => ex_pick rfl (E.d 6) (E.d 13) rfl)
      · exact stq (fun E => ex_move rfl (E.d 14))
      · refine stepq_env rfl rfl rfl fun _ _ _ _ _ _ _ hout hsz hd _ _ => ?_
        have h15 := hd ⟨15, .guard⟩ (by simp) rfl _ rfl
        refine qe_run rfl ((wanted_of rfl rfl (hsz 61 (by decide)) h15).trans rfl) (ex_move rfl ((hout 6 (by decide)).trans oe6)) QE.refl ?_
        rfl
      · refine stepq_env rfl rfl rfl fun _ _ _ _ _ _ _ _ hsz hd _ _ => ?_
        have h15 := hd ⟨15, .guard⟩ (by simp) rfl _ rfl
        have h16 := hd ⟨16, .data⟩ (by simp) rfl _ rfl
        refine qe_run rfl ((wanted_of rfl rfl (hsz 61 (by decide)) h15).trans rfl) (ex_not rfl h16) QE.refl ?_
        rfl
      · refine stepq_env rfl rfl rfl fun _ _ _ _ _ _ _ _ hsz hd _ _ => ?_
        have h15 := hd ⟨15, .chain⟩ (by simp) rfl _ rfl
        have h17 := hd ⟨17, .data⟩ (by simp) rfl _ rfl
        refine qe_run rfl ((wanted_of rfl rfl (hsz 61 (by decide)) h15).trans rfl) (ex_move rfl h17) QE.refl ?_
        rfl
      · refine stepq_env rfl rfl rfl fun _ _ _ _ _ _ _ _ hsz hd _ _ => ?_
        have h18 := hd ⟨18, .guard⟩ (by simp) rfl _ rfl
        exact qe_skip rfl ((wanted_of rfl rfl (hsz 64 (by decide)) h18).trans rfl) rfl
      · refine stepq_env rfl rfl rfl fun _ _ _ _ _ _ _ _ hsz hd _ _ => ?_
        have h18 := hd ⟨18, .chain⟩ (by simp) rfl _ rfl
        exact qe_skip rfl ((wanted_of rfl rfl (hsz 64 (by decide)) h18).trans rfl) rfl
      · refine stepq_env rfl rfl rfl fun _ _ _ _ _ _ _ _ hsz hd _ _ => ?_
        have h18 := hd ⟨18, .guard⟩ (by simp) rfl _ rfl
        exact qe_skip rfl ((wanted_of rfl rfl (hsz 64 (by decide)) h18).trans rfl) rfl
      · refine stepq_env rfl rfl rfl fun _ _ _ _ _ _ _ _ hsz hd _ _ => ?_
        have h18 := hd ⟨18, .guard⟩ (by simp) rfl _ rfl
        exact qe_skip rfl ((wanted_of rfl rfl (hsz 64 (by decide)) h18).trans rfl) rfl
      · refine stepq_env rfl rfl rfl fun _ _ _ _ _ _ _ _ hsz hd _ _ => ?_
        have h18 := hd ⟨18, .guard⟩ (by simp) rfl _ rfl
        exact qe_skip rfl ((wanted_of rfl rfl (hsz 64 (by decide)) h18).trans rfl) rfl
      · refine stepq_env rfl rfl rfl fun _ _ _ _ _ _ _ _ hsz hd _ _ => ?_
        have h15 := hd ⟨15, .guard⟩ (by simp) rfl _ rfl
        have h18 := hd ⟨18, .data⟩ (by simp) rfl _ rfl
        have h23 := hd ⟨23, .data⟩ (by simp) rfl _ rfl
        refine qe_run rfl ((wanted_of rfl rfl (hsz 61 (by decide)) h15).trans rfl) (ex_pick rfl h18 rfl h23) QE.refl ?_
        rfl
      · exact stq (fun E => ex_pick rfl (E.d 15) (E.d 24) rfl)
      · exact stq (fun E => ex_move rfl (E.d 25))
      · refine stepq_env rfl rfl rfl fun _ _ _ _ _ hm _ hout hsz hd _ _ => ?_
        have h26 := hd ⟨26, .guard⟩ (by simp) rfl _ rfl
        refine qe_run rfl ((wanted_of rfl rfl (hsz 72 (by decide)) h26).trans rfl) (ex_loadA rfl Try.underlying60 rfl (off := 0) (cs := dc) (by rw [HDC.out]; kernel_rfl) ((hout 5 (by decide)).trans oe5) (Cs.whole ((HB5.out.mod Cx82.out (fun h => h)).mod hm.old (by intro h2; omega)))) QE.refl ?_
        rfl
      · exact stepq_chain rfl
      · refine stepq_env rfl rfl rfl fun _ _ _ _ _ hm _ hout hsz hd _ _ => ?_
        have h26 := hd ⟨26, .guard⟩ (by simp) rfl _ rfl
        refine qe_run rfl ((wanted_of rfl rfl (hsz 72 (by decide)) h26).trans rfl) (ex_loadA rfl Try.underlying60 rfl (off := 0) (cs := dc) (by rw [HDC.out]; kernel_rfl) ((hout 5 (by decide)).trans oe5) (Cs.whole ((HB5.out.mod Cx82.out (fun h => h)).mod hm.old (by intro h2; omega)))) QE.refl ?_
        rfl
      · exact stepq_chain rfl
      · refine stepq_env rfl rfl rfl fun _ _ _ _ _ _ _ _ hsz hd _ _ => ?_
        have h26 := hd ⟨26, .guard⟩ (by simp) rfl _ rfl
        have h28 := hd ⟨28, .data⟩ (by simp) rfl _ rfl
        have h30 := hd ⟨30, .data⟩ (by simp) rfl _ rfl
        refine qe_run rfl ((wanted_of rfl rfl (hsz 72 (by decide)) h26).trans rfl) (ex_binE rfl h28 h30 (hv_guard2 _ _ _ _ _ _) (hv_eql (shaF_len _) (shaF_len _) _) (congrArg Value.bool (decide_eq_true rfl))) QE.refl ?_
        rfl
      · exact stq (fun E => ex_pick rfl (E.d 26) (E.d 31) rfl)
      · exact stq (fun E => ex_move rfl (E.d 32))
      · exact stepq_chain rfl
      · exact stq (fun E => ex_pick rfl (E.d 33) (E.d 34) rfl)
      · exact stq (fun E => ex_assign rfl (E.d 35))
      intro u13_0 hr
      have zu13_0 := hr.size
      have Cx83 := hid (hr.new (S := (fun _ => False)))
      clear hr
      refine QChain.go fun Z act E => ?_
      refine qc_callF (args := #[.agg #[.int .i64 y.ep, .int .u64 (y.tm : Nat), Value.slice ap0 y.ps.length cp0, Value.slice ap1 y.os.length cp1, Value.slice ap2 y.ts.length cp2]]) rfl (wanted_none rfl) rfl Try.func42 (args1 (E.d 0)) (BatchHash_Q _ _ y _ (show BaR.rd (fun k => (R2 k) ∨ (New w1 u1_1 k) ∨ (New u1_1 u1_2 k)) _ [.int .i64 y.ep, .int .u64 (y.tm : Nat), Value.slice ap0 y.ps.length cp0, Value.slice ap1 y.os.length cp1, Value.slice ap2 y.ts.length cp2] y from ⟨_, _, _, rfl, HOKY.out, ((Hx39.out.mod Cx82.out (fun _ _ h => h)).mod Cx83.out (fun _ _ h => h)), ((Hx40.out.mod Cx82.out (fun _ _ h => h)).mod Cx83.out (fun _ _ h => h)), ((Hx41.out.mod Cx82.out (fun _ _ h => h)).mod Cx83.out (fun _ _ h => h))⟩) (by intro k h1; rcases h1 with h1 | h1 | h1 <;> first | omega | (have hb := HBT.out k h1; omega)) (Nat.le_trans HNY.out (by decide))) ?_
      rintro e u13_1a ⟨rfl, hm⟩
      have zu13_1a := hm.size
      refine ⟨_, rfl, hm.mono (fun _ _ h => h.elim), (fun _ => rfl), ?_⟩
      intro u13_1 hr
      have zu13_1 := hr.size
      have Cx84 := hid (Cx83.out.go hm hr)
      clear Cx83 hm hr Z act E
      refine QChain.go fun Z act E => ?_
      refine qc_callF (args := #[.agg #[.int .i64 y.ep, .int .u64 (y.tm : Nat), Value.slice ap0 y.ps.length cp0, Value.slice ap1 y.os.length cp1, Value.slice ap2 y.ts.length cp2]]) rfl (wanted_none rfl) rfl Try.func41 (args1 (E.d 2)) (niceBatch_c _ y _ _ (show BaR.rd (fun k => (R2 k) ∨ (New w1 u1_1 k) ∨ (New u1_1 u1_2 k)) _ [.int .i64 y.ep, .int .u64 (y.tm : Nat), Value.slice ap0 y.ps.length cp0, Value.slice ap1 y.os.length cp1, Value.slice ap2 y.ts.length cp2] y from ⟨_, _, _, rfl, HOKY.out, ((Hx39.out.mod Cx82.out (fun _ _ h => h)).mod Cx84.out (fun _ _ h => h)), ((Hx40.out.mod Cx82.out (fun _ _ h => h)).mod Cx84.out (fun _ _ h => h)), ((Hx41.out.mod Cx82.out (fun _ _ h => h)).mod Cx84.out (fun _ _ h => h))⟩) (by intro k h1; rcases h1 with h1 | h1 | h1 <;> first | omega | (have hb := HBT.out k h1; omega)) HFY.out) ?_
      rintro e u13_2a ⟨d3, rfl, qny, hm⟩
      rw [HTY.out] at qny
      have zu13_2a := hm.size
      refine ⟨_, rfl, hm.mono (fun _ _ h => h.elim), (fun _ => rfl), ?_⟩
      intro u13_2 hr
      have zu13_2 := hr.size
      have Hx85 := hid ((qny.widen (R' := (fun k => (R2 k) ∨ (New w1 u1_1 k) ∨ (New u1_1 u1_2 k) ∨ (New u13_1 u13_2a k))) (by intro k h1; simp only [or_assoc] at h1 ⊢; exact h1)).mod hr (by intro k h1 h2; rcases h1 with h1 | h1 | h1 | h1 <;> first | omega | (have hb := HBT.out k h1; omega)))
      have Cx86 := hid (Cx84.out.go hm hr)
      clear Cx84 hm hr Z act E qny
      refine QChain.go fun Z act E => ?_
      refine qc_callF (args := #[.agg d3.toArray]) rfl (wanted_none rfl) rfl Try.func42 (args1 (chv (v := .agg d3.toArray) (E.d 3))) (BatchHash_Q _ _ y _ Hx85.out (by intro k h1; rcases h1 with h1 | h1 | h1 | h1 <;> first | omega | (have hb := HBT.out k h1; omega)) (Nat.le_trans HNY.out (by decide))) ?_
      rintro e u13_3a ⟨rfl, hm⟩
      have zu13_3a := hm.size
      refine ⟨_, rfl, hm.mono (fun _ _ h => h.elim), (fun _ => rfl), ?_⟩
      intro u13_3 hr
      have zu13_3 := hr.size
      have hmr := Mod.after hm hr
      have Hx87 := hid (Hx85.out.mod hmr (by intro k h1 h2; rcases h1 with h1 | h1 | h1 | h1 <;> first | omega | (have hb := HBT.out k h1; omega)))
      clear Hx85
      clear hmr
      have Cx88 := hid (Cx86.out.go hm hr)
      clear Cx86 hm hr Z act E
      refine QChain.go fun Z act E => ?_
      refine qc_callF (args := #[.agg #[.int .i64 y.ep, .int .u64 (y.tm : Nat), Value.slice ap0 y.ps.length cp0, Value.slice ap1 y.os.length cp1, Value.slice ap2 y.ts.length cp2]]) rfl ((wanted_of rfl rfl (E.sz 52 (by decide)) (E.e 6 .chain)).trans rfl) rfl Try.func24 (args1 (E.d 7)) (RefBa_Q _ _ y _ (show BaR.rd (fun k => (R2 k) ∨ (New w1 u1_1 k) ∨ (New u1_1 u1_2 k)) _ [.int .i64 y.ep, .int .u64 (y.tm : Nat), Value.slice ap0 y.ps.length cp0, Value.slice ap1 y.os.length cp1, Value.slice ap2 y.ts.length cp2] y from ⟨_, _, _, rfl, HOKY.out, ((Hx39.out.mod Cx82.out (fun _ _ h => h)).mod Cx88.out (fun _ _ h => h)), ((Hx40.out.mod Cx82.out (fun _ _ h => h)).mod Cx88.out (fun _ _ h => h)), ((Hx41.out.mod Cx82.out (fun _ _ h => h)).mod Cx88.out (fun _ _ h => h))⟩) (by intro k h1; rcases h1 with h1 | h1 | h1 <;> first | omega | (have hb := HBT.out k h1; omega)) (Nat.le_trans HNY.out (by decide))) ?_
      rintro e u13_4a ⟨v_a3, rfl, qa3, hm⟩
      obtain ⟨ao_a3, cap_a3, rfl⟩ := qa3.shape
      have zu13_4a := hm.size
      refine ⟨_, rfl, hm.mono (fun _ _ h => h.elim), (fun _ => rfl), ?_⟩
      intro u13_4 hr
      have zu13_4 := hr.size
      have Hx89 := hid ((qa3.widen (R' := (fun k => (New u13_3 u13_4a k))) (fun _ h => h) (Nat.le_refl _)).mod hr (by intro k h1 h2; omega))
      have hmr := Mod.after hm hr
      have Hx90 := hid (Hx87.out.mod hmr (by intro k h1 h2; rcases h1 with h1 | h1 | h1 | h1 <;> first | omega | (have hb := HBT.out k h1; omega)))
      clear Hx87
      clear hmr
      have Cx91 := hid (Cx88.out.go hm hr)
      clear Cx88 hm hr Z act E qa3
      refine QChain.go fun Z act E => ?_
      refine qc_callF (args := #[.agg dc.toArray]) rfl ((wanted_of rfl rfl (E.sz 52 (by decide)) (E.e 6 .guard)).trans rfl) rfl Try.func24 (args1 (E.d 9)) (RefBa_Q _ _ c _ ((HRD.out.mod Cx82.out (fun _ _ h => h)).mod Cx91.out (fun _ _ h => h)) (by intro k h1; rcases h1 with h1 | h1 <;> first | omega | (have hb := HBT.out k h1; omega)) HNC.out) ?_
      rintro e u13_5a ⟨v_a4, rfl, qa4, hm⟩
      obtain ⟨ao_a4, cap_a4, rfl⟩ := qa4.shape
      have zu13_5a := hm.size
      refine ⟨_, rfl, hm.mono (fun _ _ h => h.elim), (fun _ => rfl), ?_⟩
      intro u13_5 hr
      have zu13_5 := hr.size
      have Hx92 := hid ((qa4.widen (R' := (fun k => (New u13_4 u13_5a k))) (fun _ h => h) (Nat.le_refl _)).mod hr (by intro k h1 h2; omega))
      have hmr := Mod.after hm hr
      have Hx93 := hid (Hx90.out.mod hmr (by intro k h1 h2; rcases h1 with h1 | h1 | h1 | h1 <;> first | omega | (have hb := HBT.out k h1; omega)))
      have Hx94 := hid (Hx89.out.mod hmr (by intro k h1 h2; omega))
      clear Hx90 Hx89
      clear hmr
      have Cx95 := hid (Cx91.out.go hm hr)
      clear Cx91 hm hr Z act E qa4
      refine QChain.go fun Z act E => ?_
      refine qc_callF (args := #[.slice ao_a3 ((baB y).length) cap_a3, .slice ao_a4 ((baB c).length) cap_a4]) rfl ((wanted_of rfl rfl (E.sz 52 (by decide)) (E.e 6 .guard)).trans rfl) rfl Try.func18 (args2 (chv (v := .slice ao_a3 ((baB y).length) cap_a3) (E.d 8)) (chv (v := .slice ao_a4 ((baB c).length) cap_a4) (E.d 10))) (Same_b Hx94.out.rd Hx92.out.rd (decide_eq_false (fun e => HYC.out (baB_inj HKY.out HKC.out e)))) ?_
      rintro e u13_6a ⟨rfl, hm⟩
      have zu13_6a := hm.size
      refine ⟨_, rfl, hm.mono (fun _ _ h => h.elim), (fun _ => rfl), ?_⟩
      intro u13_6 hr
      have zu13_6 := hr.size
      have hmr := Mod.after hm hr
      have Hx96 := hid (Hx93.out.mod hmr (by intro k h1 h2; rcases h1 with h1 | h1 | h1 | h1 <;> first | omega | (have hb := HBT.out k h1; omega)))
      have Hx97 := hid (Hx94.out.mod hmr (by intro k h1 h2; omega))
      have Hx98 := hid (Hx92.out.mod hmr (by intro k h1 h2; omega))
      clear Hx93 Hx94 Hx92
      clear hmr
      have Cx99 := hid (Cx95.out.go hm hr)
      clear Cx95 hm hr Z act E
      refine QChain.go fun Z act E => ?_
      refine qc_callF (args := #[.agg dc.toArray]) rfl ((wanted_of rfl rfl (E.sz 72 (by decide)) (E.e 26 .chain)).trans rfl) rfl Try.func42 (args1 (E.d 27)) (BatchHash_Q _ _ c _ ((HRD.out.mod Cx82.out (fun _ _ h => h)).mod Cx99.out (fun _ _ h => h)) (by intro k h1; rcases h1 with h1 | h1 <;> first | omega | (have hb := HBT.out k h1; omega)) HNC.out) ?_
      rintro e u13_7a ⟨rfl, hm⟩
      have zu13_7a := hm.size
      refine ⟨_, rfl, hm.mono (fun _ _ h => h.elim), (fun _ => rfl), ?_⟩
      intro u13_7 hr
      have zu13_7 := hr.size
      have hmr := Mod.after hm hr
      have Hx100 := hid (Hx96.out.mod hmr (by intro k h1 h2; rcases h1 with h1 | h1 | h1 | h1 <;> first | omega | (have hb := HBT.out k h1; omega)))
      have Hx101 := hid (Hx97.out.mod hmr (by intro k h1 h2; omega))
      have Hx102 := hid (Hx98.out.mod hmr (by intro k h1 h2; omega))
      clear Hx96 Hx97 Hx98
      clear hmr
      have Cx103 := hid (Cx99.out.go hm hr)
      clear Cx99 hm hr Z act E
      refine QChain.go fun Z act E => ?_
      refine qc_callF (args := #[.agg dc.toArray]) rfl ((wanted_of rfl rfl (E.sz 72 (by decide)) (E.e 26 .guard)).trans rfl) rfl Try.func43 (args1 (E.d 29)) (RefBatchHash_Q _ _ c _ ((HRD.out.mod Cx82.out (fun _ _ h => h)).mod Cx103.out (fun _ _ h => h)) (by intro k h1; rcases h1 with h1 | h1 <;> first | omega | (have hb := HBT.out k h1; omega)) HNC.out) ?_
      rintro e u13_8a ⟨rfl, hm⟩
      have zu13_8a := hm.size
      refine ⟨_, rfl, hm.mono (fun _ _ h => h.elim), (fun _ => rfl), ?_⟩
      intro u13_8 hr
      have zu13_8 := hr.size
      have hmr := Mod.after hm hr
      have Hx104 := hid (Hx100.out.mod hmr (by intro k h1 h2; rcases h1 with h1 | h1 | h1 | h1 <;> first | omega | (have hb := HBT.out k h1; omega)))
      have Hx105 := hid (Hx101.out.mod hmr (by intro k h1 h2; omega))
      have Hx106 := hid (Hx102.out.mod hmr (by intro k h1 h2; omega))
      clear Hx100 Hx101 Hx102
      clear hmr
      have Cx107 := hid (Cx103.out.go hm hr)
      clear Cx103 hm hr Z act E
      refine QChain.go fun Z act E => ?_
      refine qc_callF (args := #[]) rfl ((wanted_of rfl rfl (E.sz 79 (by decide)) (E.e 33 .chain)).trans rfl) rfl Try.func19 args0 (wakes05 _) ?_
      rintro e u13_9a ⟨rfl, hm⟩
      have zu13_9a := hm.size
      refine ⟨_, rfl, hm.mono (fun _ _ h => h.elim), (fun _ => rfl), ?_⟩
      intro u13_9 hr
      have zu13_9 := hr.size
      have hmr := Mod.after hm hr
      have Hx108 := hid (Hx104.out.mod hmr (by intro k h1 h2; rcases h1 with h1 | h1 | h1 | h1 <;> first | omega | (have hb := HBT.out k h1; omega)))
      have Hx109 := hid (Hx105.out.mod hmr (by intro k h1 h2; omega))
      have Hx110 := hid (Hx106.out.mod hmr (by intro k h1 h2; omega))
      clear Hx104 Hx105 Hx106
      clear hmr
      have Cx111 := hid (Cx107.out.go hm hr)
      clear Cx107 hm hr Z act E
      refine QChain.nil fun vs hl hzz hrows hne => ?_
      obtain ⟨Z, hYZ, hZb, hV⟩ := hzz
      have f36 := fvi hV hl 36
      rw [show vs = [gw vs 0, gw vs 1, gw vs 2, gw vs 3, gw vs 4, gw vs 5, gw vs 6, gw vs 7, gw vs 8, gw vs 9, gw vs 10, gw vs 11, gw vs 12, gw vs 13, gw vs 14, gw vs 15, gw vs 16, gw vs 17, gw vs 18, gw vs 19, gw vs 20, gw vs 21, gw vs 22, gw vs 23, gw vs 24, gw vs 25, gw vs 26, gw vs 27, gw vs 28, gw vs 29, gw vs 30, gw vs 31, gw vs 32, gw vs 33, gw vs 34, gw vs 35, gw vs 36] from (gw_eta hl).trans rfl]
      have ha0 := HA0.out
      subst ha0
      clear HA0 hV hYZ hZb hsz0 hrows hne oe2 oe5 oe6
      simp only [putAll, Act.put, List.setIfInBounds_toArray, List.set_cons_zero, List.set_cons_succ, f36]
      clear hl f36
      go_wp2
      go_ret
      exact ⟨rfl, ((Hx43.out.trans Cx82.out (fun _ _ h => h.elim)).trans Cx111.out (fun _ _ h => h.elim))⟩
end Go.Proofs.Ytknpapcfhnhheaa

/- Pairs, commitments as arguments. -/
namespace Go.Proofs.Ytknpapcfhnhheaa
open Go Go.RowKit Go.Gv Go.ChangeShapes Go.WideShapes Go.ChangeAt Go.Deep

section
variable {H : Type} {enc : TypeId × Value → H} {W : World}
theorem trod_pair {t : TypeId} {fs : Array Field} {fuel : Nat} {cs : List Value} {x : DataW H × List MemPlace} (ht : Try.prog.underlying t = some (.struct fs)) (hs : fs.size = 2) (h0 : (fs[0]?).map (fun f => (f.offset, f.type)) = some (0, 3)) (h1 : (fs[1]?).map (fun f => (f.offset, f.type)) = some (1, 3)) (hc : Try.prog.cellsOf t = 2)
    (h : DataW.trod enc Try.prog W 0 (fun _ => true) true fuel t cs = some x) : ∃ a b : Int, cs = [.int .i64 a, .int .i64 b] ∧ I64 a ∧ I64 b := by
  obtain ⟨xs, n, _, -, hl, hn, hf⟩ := DataW.trod_struct ht h
  rw [hc] at hl
  have hxs : xs.length = 2 := hn.trans hs
  obtain ⟨q0, e0, hq0⟩ : ∃ f, fs[0]? = some f ∧ (f.offset, f.type) = (0, 3) := by
    cases hh : fs[0]? with
    | none => rw [hh] at h0; cases h0
    | some f => rw [hh] at h0; exact ⟨f, rfl, Option.some.inj h0⟩
  obtain ⟨q1, e1, hq1⟩ : ∃ f, fs[1]? = some f ∧ (f.offset, f.type) = (1, 3) := by
    cases hh : fs[1]? with
    | none => rw [hh] at h1; cases h1
    | some f => rw [hh] at h1; exact ⟨f, rfl, Option.some.inj h1⟩
  have f0 := hf 0 _ e0
  have f1 := hf 1 _ e1
  rw [show q0.offset = 0 from congrArg Prod.fst hq0, show q0.type = 3 from congrArg Prod.snd hq0] at f0
  rw [show q1.offset = 1 from congrArg Prod.fst hq1, show q1.type = 3 from congrArg Prod.snd hq1] at f1
  rw [List.getElem?_eq_getElem (by omega), show Try.prog.cellsOf 3 = 1 from by kernel_rfl] at f0 f1
  match cs, hl with
  | [c0, c1], _ =>
    simp only [List.drop_zero, List.drop_succ_cons, List.take_succ_cons, List.take_zero] at f0 f1
    obtain ⟨p0, e0, _, w0⟩ := DataW.trod_int Try.underlying3 f0
    obtain ⟨p1, e1, _, w1⟩ := DataW.trod_int Try.underlying3 f1
    simp at e0 e1
    subst e0 e1
    exact ⟨p0, p1, rfl, bounds_i64 w0, bounds_i64 w1⟩
theorem cm_cells {fuel : Nat} {cs : List Value} {x : DataW H × List MemPlace} (h : DataW.trod enc Try.prog W 0 (fun _ => true) true fuel 49 cs = some x) : ∃ c : Cm, cs = c.cells ∧ c.OK := by
  obtain ⟨xs, n, _, -, hl, hn, hf⟩ := DataW.trod_struct Try.underlying49 h
  rw [show Try.prog.cellsOf 49 = 37 from by kernel_rfl] at hl
  have hxs : xs.length = 4 := hn
  have f0 : DataW.trod enc Try.prog W 0 (fun _ => true) true n 23 ((cs.drop 0).take (Try.prog.cellsOf 23)) = xs[0]? := hf 0 _ rfl
  have f1 : DataW.trod enc Try.prog W 0 (fun _ => true) true n 25 ((cs.drop 2).take (Try.prog.cellsOf 25)) = xs[1]? := hf 1 _ rfl
  have f2 : DataW.trod enc Try.prog W 0 (fun _ => true) true n 3 ((cs.drop 34).take (Try.prog.cellsOf 3)) = xs[2]? := hf 2 _ rfl
  have f3 : DataW.trod enc Try.prog W 0 (fun _ => true) true n 28 ((cs.drop 35).take (Try.prog.cellsOf 28)) = xs[3]? := hf 3 _ rfl
  rw [List.getElem?_eq_getElem (by omega)] at f0 f1 f2 f3
  obtain ⟨a, b, e0, h1, h2⟩ := trod_pair Try.underlying23 rfl rfl rfl (by kernel_rfl) f0
  obtain ⟨hs, e1, hb, hl32⟩ := trod_arr Try.underlying25 Try.underlying5 (by kernel_rfl) (by kernel_rfl) f1
  obtain ⟨sa, sb, e3, h3, h4⟩ := trod_pair Try.underlying28 rfl rfl rfl (by kernel_rfl) f3
  rw [show Try.prog.cellsOf 23 = 2 from by kernel_rfl] at e0
  rw [show Try.prog.cellsOf 25 = 32 from by kernel_rfl] at e1
  rw [show Try.prog.cellsOf 3 = 1 from by kernel_rfl] at f2
  rw [show Try.prog.cellsOf 28 = 2 from by kernel_rfl] at e3
  obtain ⟨q, e2, _, w2⟩ := DataW.trod_int Try.underlying3 f2
  refine ⟨⟨a, b, hs, q, sa, sb⟩, ?_, ⟨h1, h2, bounds_i64 w2, h3, h4⟩, hl32, hb⟩
  have d1 : cs = cs.take 2 ++ cs.drop 2 := (List.take_append_drop 2 cs).symm
  have d2 : cs.drop 2 = (cs.drop 2).take 32 ++ cs.drop 34 := by conv => lhs; rw [← List.take_append_drop 32 (cs.drop 2)]; rw [List.drop_drop]
  have d3 : cs.drop 34 = (cs.drop 34).take 1 ++ cs.drop 35 := by conv => lhs; rw [← List.take_append_drop 1 (cs.drop 34)]; rw [List.drop_drop]
  have d4 : cs.drop 35 = (cs.drop 35).take 2 := (List.take_of_length_le (by rw [List.length_drop]; omega)).symm
  rw [List.drop_zero] at e0
  rw [d1, d2, d3, d4, e0, e1, e2, e3]
  rfl
end
end Go.Proofs.Ytknpapcfhnhheaa

/- Things as arguments: whatever a reading gives of them. -/
namespace Go.Proofs.Ytknpapcfhnhheaa
open Go Go.RowKit Go.Gv Go.ChangeShapes Go.WideShapes Go.ChangeAt Go.Deep

def segs (cs : List Value) : Nat → List Nat → List (List Value)
  | _, [] => []
  | off, n :: ns => (cs.drop off).take n :: segs cs (off + n) ns
theorem segs_all (cs : List Value) : ∀ (ns : List Nat) (off : Nat), cs.length = off + ns.sum → cs.drop off = (segs cs off ns).flatten
  | [], off, h => by simp at h; simp [segs, List.drop_of_length_le (show cs.length ≤ off by omega)]
  | n :: ns, off, h => by
    have ih := segs_all cs ns (off + n) (by simp at h; omega)
    simp only [segs, List.flatten_cons]
    rw [← ih, ← List.drop_drop, List.take_append_drop]
theorem seg_one {cs : List Value} {off : Nat} (h : off < cs.length) : ∃ v, (cs.drop off).take 1 = [v] := ⟨cs[off], by rw [List.drop_eq_getElem_cons h]; rfl⟩
/-- whatever reads as a T reads as one of A -/
def Reads {α : Type} (A : Rep α) (T : TypeId) : Prop := ∀ (H : Type) (enc : TypeId × Value → H) (W : World) (fuel : Nat) (cs : List Value) (x : DataW H × List MemPlace), DataW.trod enc Try.prog W 0 (fun _ => true) true fuel T cs = some x → ∃ a, A.rd (fun k => k < W.heap.size) W cs a
theorem all_list {α : Type} {P : List Value → α → Prop} : ∀ (css : List (List Value)), (∀ cs ∈ css, ∃ a, P cs a) → ∃ l : List α, l.length = css.length ∧ ∀ (i : Nat) cs a, css[i]? = some cs → l[i]? = some a → P cs a
  | [], _ => ⟨[], rfl, fun i cs a h => by simp at h⟩
  | c :: r, h => by
    obtain ⟨a, ha⟩ := h c (by simp)
    obtain ⟨l, h1, h2⟩ := all_list r fun cs hcs => h cs (by simp [hcs])
    refine ⟨a :: l, by simp [h1], fun i cs b hi hb => ?_⟩
    cases i with
    | zero => simp at hi hb; subst hi hb; exact ha
    | succ i => simp at hi hb; exact h2 i cs b hi hb
theorem trod_slice {α : Type} {A : Rep α} {t e : TypeId} {H : Type} {enc : TypeId × Value → H} {W : World} {fuel : Nat} {v : Value} {x : DataW H × List MemPlace} (hr : Reads A e) (ht : Try.prog.underlying t = some (.slice e)) (hce : Try.prog.cellsOf e = A.sz)
    (h : DataW.trod enc Try.prog W 0 (fun _ => true) true fuel t [v] = some x) : ∃ l : List α, RdS A (fun k => k < W.heap.size) W v l := by
  haveI : Inhabited {cs : List Value // cs.length = A.sz} := ⟨⟨List.replicate A.sz undef, by simp⟩⟩
  have hsh : ∃ ao n cap, v = .slice ao n cap ∧ n ≤ cap ∧ cap ≤ maxLen ∧ (ao = none → cap = 0) := by
    rcases open_slice ht h with ⟨hcs, _⟩ | ⟨a, len, cap, m, n, D, Pl, hcs, _, hl, hm, hmm, _, hel⟩
    · simp at hcs; subst hcs; exact ⟨none, 0, 0, rfl, Nat.le_refl _, Nat.zero_le _, fun _ => rfl⟩
    · simp at hcs; subst hcs; simp only [if_true] at hmm; subst hmm; exact ⟨some a, len, _, rfl, hl, hm, fun h => by cases h⟩
  obtain ⟨raws, h1, h2⟩ := trod_list (fun a : {cs : List Value // cs.length = A.sz} => a.1) (fun a => ∃ y, A.rd (fun k => k < W.heap.size) W a.1 y) ht hce A.pos (fun a => a.2)
    (fun fuel cs x hx => by obtain ⟨a, ha⟩ := hr H enc W fuel cs x hx; exact ⟨⟨cs, A.len ha⟩, rfl, a, ha⟩) h
  obtain ⟨l, hl, hP⟩ := all_list (P := fun cs a => A.rd (fun k => k < W.heap.size) W cs a) (raws.map (·.1)) (fun cs hcs => by obtain ⟨a, ha, rfl⟩ := List.mem_map.1 hcs; exact h2 a ha)
  have hl' : l.length = raws.length := by simpa using hl
  refine ⟨l, raws.map (·.1), by simp [hl'], hP, ?_, ?_⟩
  · have hcl : ∀ cs ∈ raws.map (·.1), cs.length = A.sz := fun cs hcs => by obtain ⟨a, _, rfl⟩ := List.mem_map.1 hcs; exact a.2
    have hfl := flat_len hcl
    rcases h1 with ⟨rfl, ao, cap, rfl⟩ | ⟨g, o, cap, hg, rfl, h0, hc, hm, hcell⟩
    · obtain ⟨ao', n', cap', e', g1, g2, g3⟩ := hsh
      cases e'
      obtain rfl : l = [] := List.eq_nil_of_length_eq_zero (by simpa using hl')
      exact Rd.zero _ _ _ _ g2 g3
    · rw [hl']
      refine Rd.mk hc hm (by rw [hfl]; simp) fun j u hu => ?_
      have hj := (List.getElem?_eq_some_iff.1 hu).1
      rw [hfl] at hj
      simp only [List.length_map] at hj
      have hq : j / A.sz < raws.length := Nat.div_lt_of_lt_mul (by rw [Nat.mul_comm]; exact hj)
      have hmod := Nat.mod_lt j A.pos
      have hdm := Nat.div_add_mod j A.sz
      have hgt := flat_get hcl (j / A.sz) raws[j / A.sz].1 (by simp [List.getElem?_eq_getElem hq]) (j % A.sz) (raws[j / A.sz].1[j % A.sz]'(by rw [raws[j / A.sz].2]; exact hmod)) (List.getElem?_eq_getElem _)
      rw [show j / A.sz * A.sz + j % A.sz = j by rw [Nat.mul_comm]; exact hdm] at hgt
      rw [hgt] at hu
      have := hcell (j / A.sz) hq (j % A.sz) u (by rw [List.getElem?_eq_getElem (by rw [raws[j / A.sz].2]; exact hmod)]; exact hu)
      rw [show o + j / A.sz * A.sz + j % A.sz = o + j by rw [Nat.add_assoc, Nat.mul_comm, hdm]] at this
      exact this
  · intro h0 g hg
    rcases h1 with ⟨rfl, ao, cap, rfl⟩ | ⟨g', o, cap, hg', rfl, _⟩
    · simp at hl'; rw [hl'] at h0; simp at h0
    · simp [Value.ownBlock] at hg; subst hg; exact hg'
theorem reads_arg {α : Type} {A : Rep α} {T : TypeId} (hr : Reads A T) {fs : Array Field} (hu : Try.prog.underlying T = some (.struct fs)) {H : Type} {enc : TypeId × Value → H} {W : World} {base : Nat} {v : Value} {d : DataW H} {p : List MemPlace} (hv' : Value.okWide Try.prog W .any base T v)
    (h : DataW.Trod enc Try.prog W 0 (fun _ => true) true T v d p) : ∃ cs a, v = .agg cs.toArray ∧ A.rd (fun k => k < W.heap.size) W cs a := by
  obtain ⟨fuel, hf⟩ := h
  simp only [Value.okWide, hu] at hv'
  obtain ⟨cs, rfl, -, -⟩ := hv'
  obtain ⟨a, ha⟩ := hr _ _ _ _ _ _ hf
  exact ⟨_, a, (by congr 1), ha⟩
theorem reads_cm : Reads CmR 49 := fun H enc W fuel cs x h => by obtain ⟨c, e, hok⟩ := cm_cells h; exact ⟨c, e, hok⟩
theorem reads_st : Reads StR 30 := by
  intro H enc W fuel cs x h
  obtain ⟨xs, n, _, -, hl, hn, hf⟩ := DataW.trod_struct Try.underlying30 h
  rw [show Try.prog.cellsOf 30 = 38 from by kernel_rfl] at hl
  have hxs : xs.length = 5 := hn
  have f0 : DataW.trod enc Try.prog W 0 (fun _ => true) true n 3 ((cs.drop 0).take (Try.prog.cellsOf 3)) = xs[0]? := hf 0 _ rfl
  rw [List.getElem?_eq_getElem (by omega), show Try.prog.cellsOf 3 = 1 from by kernel_rfl] at f0
  have f1 : DataW.trod enc Try.prog W 0 (fun _ => true) true n 23 ((cs.drop 1).take (Try.prog.cellsOf 23)) = xs[1]? := hf 1 _ rfl
  rw [List.getElem?_eq_getElem (by omega), show Try.prog.cellsOf 23 = 2 from by kernel_rfl] at f1
  have f2 : DataW.trod enc Try.prog W 0 (fun _ => true) true n 25 ((cs.drop 3).take (Try.prog.cellsOf 25)) = xs[2]? := hf 2 _ rfl
  rw [List.getElem?_eq_getElem (by omega), show Try.prog.cellsOf 25 = 32 from by kernel_rfl] at f2
  have f3 : DataW.trod enc Try.prog W 0 (fun _ => true) true n 26 ((cs.drop 35).take (Try.prog.cellsOf 26)) = xs[3]? := hf 3 _ rfl
  rw [List.getElem?_eq_getElem (by omega), show Try.prog.cellsOf 26 = 1 from by kernel_rfl] at f3
  have f4 : DataW.trod enc Try.prog W 0 (fun _ => true) true n 28 ((cs.drop 36).take (Try.prog.cellsOf 28)) = xs[4]? := hf 4 _ rfl
  rw [List.getElem?_eq_getElem (by omega), show Try.prog.cellsOf 28 = 2 from by kernel_rfl] at f4
  obtain ⟨rp, e0, _, w0⟩ := DataW.trod_int Try.underlying3 f0
  obtain ⟨cl, sq, e1, w1, w1'⟩ := trod_pair Try.underlying23 rfl rfl rfl (by kernel_rfl) f1
  obtain ⟨hh, e2, w2, w2'⟩ := trod_arr Try.underlying25 Try.underlying5 (by kernel_rfl) (by kernel_rfl) f2
  obtain ⟨tm', e3, _, w3⟩ := DataW.trod_int Try.underlying26 f3
  obtain ⟨tm, rfl, w3'⟩ := u64_nat w3
  obtain ⟨sb, mr, e4, w4, w4'⟩ := trod_pair Try.underlying28 rfl rfl rfl (by kernel_rfl) f4
  have hcs := segs_all cs [1, 2, 32, 1, 2] 0 (by simpa using hl)
  simp only [List.drop_zero, segs, List.flatten_cons, List.flatten_nil, List.append_nil, Nat.zero_add, Nat.reduceAdd, e0, e1, e2, e3, e4] at hcs
  (try rw [List.drop_zero] at e0)
  (try simp only [e0] at hcs)
  exact ⟨⟨rp, cl, sq, hh, tm, sb, mr⟩, by rw [hcs]; rfl, ⟨bounds_i64 w0, w1, w1', ⟨w2', w2⟩, w3', w4, w4'⟩⟩
theorem reads_dn : Reads DnR 34 := by
  intro H enc W fuel cs x h
  obtain ⟨xs, n, _, -, hl, hn, hf⟩ := DataW.trod_struct Try.underlying34 h
  rw [show Try.prog.cellsOf 34 = 4 from by kernel_rfl] at hl
  have hxs : xs.length = 3 := hn
  have f0 : DataW.trod enc Try.prog W 0 (fun _ => true) true n 3 ((cs.drop 0).take (Try.prog.cellsOf 3)) = xs[0]? := hf 0 _ rfl
  rw [List.getElem?_eq_getElem (by omega), show Try.prog.cellsOf 3 = 1 from by kernel_rfl] at f0
  have f1 : DataW.trod enc Try.prog W 0 (fun _ => true) true n 3 ((cs.drop 1).take (Try.prog.cellsOf 3)) = xs[1]? := hf 1 _ rfl
  rw [List.getElem?_eq_getElem (by omega), show Try.prog.cellsOf 3 = 1 from by kernel_rfl] at f1
  have f2 : DataW.trod enc Try.prog W 0 (fun _ => true) true n 28 ((cs.drop 2).take (Try.prog.cellsOf 28)) = xs[2]? := hf 2 _ rfl
  rw [List.getElem?_eq_getElem (by omega), show Try.prog.cellsOf 28 = 2 from by kernel_rfl] at f2
  obtain ⟨rp, e0, _, w0⟩ := DataW.trod_int Try.underlying3 f0
  obtain ⟨ix, e1, _, w1⟩ := DataW.trod_int Try.underlying3 f1
  obtain ⟨sb, mr, e2, w2, w2'⟩ := trod_pair Try.underlying28 rfl rfl rfl (by kernel_rfl) f2
  have hcs := segs_all cs [1, 1, 2] 0 (by simpa using hl)
  simp only [List.drop_zero, segs, List.flatten_cons, List.flatten_nil, List.append_nil, Nat.zero_add, Nat.reduceAdd, e0, e1, e2] at hcs
  (try rw [List.drop_zero] at e0)
  (try simp only [e0] at hcs)
  exact ⟨⟨rp, ix, sb, mr⟩, by rw [hcs]; rfl, ⟨bounds_i64 w0, bounds_i64 w1, w2, w2'⟩⟩
theorem reads_ce : Reads CeR 52 := by
  intro H enc W fuel cs x h
  obtain ⟨xs, n, _, -, hl, hn, hf⟩ := DataW.trod_struct Try.underlying52 h
  rw [show Try.prog.cellsOf 52 = 38 from by kernel_rfl] at hl
  have hxs : xs.length = 2 := hn
  have f0 : DataW.trod enc Try.prog W 0 (fun _ => true) true n 49 ((cs.drop 0).take (Try.prog.cellsOf 49)) = xs[0]? := hf 0 _ rfl
  rw [List.getElem?_eq_getElem (by omega), show Try.prog.cellsOf 49 = 37 from by kernel_rfl] at f0
  have f1 : DataW.trod enc Try.prog W 0 (fun _ => true) true n 50 ((cs.drop 37).take (Try.prog.cellsOf 50)) = xs[1]? := hf 1 _ rfl
  rw [List.getElem?_eq_getElem (by omega), show Try.prog.cellsOf 50 = 1 from by kernel_rfl] at f1
  obtain ⟨c, e0, w0⟩ := reads_cm _ _ _ _ _ _ f0
  obtain ⟨v, e1⟩ := seg_one (cs := cs) (off := 37) (by omega)
  rw [e1] at f1
  obtain ⟨l, w1⟩ := trod_slice reads_st Try.underlying50 (by kernel_rfl) f1
  have hcs := segs_all cs [37, 1] 0 (by simpa using hl)
  simp only [List.drop_zero, segs, List.flatten_cons, List.flatten_nil, List.append_nil, Nat.zero_add, Nat.reduceAdd, e0, e1] at hcs
  (try rw [List.drop_zero] at e0)
  (try simp only [e0] at hcs)
  exact ⟨⟨c, l⟩, v, hcs, w0, w1⟩
theorem reads_pm : Reads PmR 55 := by
  intro H enc W fuel cs x h
  obtain ⟨xs, n, _, -, hl, hn, hf⟩ := DataW.trod_struct Try.underlying55 h
  rw [show Try.prog.cellsOf 55 = 6 from by kernel_rfl] at hl
  have hxs : xs.length = 5 := hn
  have f0 : DataW.trod enc Try.prog W 0 (fun _ => true) true n 3 ((cs.drop 0).take (Try.prog.cellsOf 3)) = xs[0]? := hf 0 _ rfl
  rw [List.getElem?_eq_getElem (by omega), show Try.prog.cellsOf 3 = 1 from by kernel_rfl] at f0
  have f1 : DataW.trod enc Try.prog W 0 (fun _ => true) true n 3 ((cs.drop 1).take (Try.prog.cellsOf 3)) = xs[1]? := hf 1 _ rfl
  rw [List.getElem?_eq_getElem (by omega), show Try.prog.cellsOf 3 = 1 from by kernel_rfl] at f1
  have f2 : DataW.trod enc Try.prog W 0 (fun _ => true) true n 26 ((cs.drop 2).take (Try.prog.cellsOf 26)) = xs[2]? := hf 2 _ rfl
  rw [List.getElem?_eq_getElem (by omega), show Try.prog.cellsOf 26 = 1 from by kernel_rfl] at f2
  have f3 : DataW.trod enc Try.prog W 0 (fun _ => true) true n 53 ((cs.drop 3).take (Try.prog.cellsOf 53)) = xs[3]? := hf 3 _ rfl
  rw [List.getElem?_eq_getElem (by omega), show Try.prog.cellsOf 53 = 1 from by kernel_rfl] at f3
  have f4 : DataW.trod enc Try.prog W 0 (fun _ => true) true n 28 ((cs.drop 4).take (Try.prog.cellsOf 28)) = xs[4]? := hf 4 _ rfl
  rw [List.getElem?_eq_getElem (by omega), show Try.prog.cellsOf 28 = 2 from by kernel_rfl] at f4
  obtain ⟨rp, e0, _, w0⟩ := DataW.trod_int Try.underlying3 f0
  obtain ⟨ep, e1, _, w1⟩ := DataW.trod_int Try.underlying3 f1
  obtain ⟨fl', e2, _, w2⟩ := DataW.trod_int Try.underlying26 f2
  obtain ⟨fl, rfl, w2'⟩ := u64_nat w2
  obtain ⟨v, e3⟩ := seg_one (cs := cs) (off := 3) (by omega)
  rw [e3] at f3
  obtain ⟨l, w3⟩ := trod_slice reads_ce Try.underlying53 (by kernel_rfl) f3
  obtain ⟨sb, mr, e4, w4, w4'⟩ := trod_pair Try.underlying28 rfl rfl rfl (by kernel_rfl) f4
  have hcs := segs_all cs [1, 1, 1, 1, 2] 0 (by simpa using hl)
  simp only [List.drop_zero, segs, List.flatten_cons, List.flatten_nil, List.append_nil, Nat.zero_add, Nat.reduceAdd, e0, e1, e2, e3, e4] at hcs
  (try rw [List.drop_zero] at e0)
  (try simp only [e0] at hcs)
  exact ⟨⟨rp, ep, fl, l, sb, mr⟩, v, hcs, ⟨bounds_i64 w0, bounds_i64 w1, w2', w4, w4'⟩, w3⟩
theorem reads_op : Reads OpR 87 := by
  intro H enc W fuel cs x h
  obtain ⟨xs, n, _, -, hl, hn, hf⟩ := DataW.trod_struct Try.underlying87 h
  rw [show Try.prog.cellsOf 87 = 34 from by kernel_rfl] at hl
  have hxs : xs.length = 3 := hn
  have f0 : DataW.trod enc Try.prog W 0 (fun _ => true) true n 3 ((cs.drop 0).take (Try.prog.cellsOf 3)) = xs[0]? := hf 0 _ rfl
  rw [List.getElem?_eq_getElem (by omega), show Try.prog.cellsOf 3 = 1 from by kernel_rfl] at f0
  have f1 : DataW.trod enc Try.prog W 0 (fun _ => true) true n 38 ((cs.drop 1).take (Try.prog.cellsOf 38)) = xs[1]? := hf 1 _ rfl
  rw [List.getElem?_eq_getElem (by omega), show Try.prog.cellsOf 38 = 1 from by kernel_rfl] at f1
  have f2 : DataW.trod enc Try.prog W 0 (fun _ => true) true n 25 ((cs.drop 2).take (Try.prog.cellsOf 25)) = xs[2]? := hf 2 _ rfl
  rw [List.getElem?_eq_getElem (by omega), show Try.prog.cellsOf 25 = 32 from by kernel_rfl] at f2
  obtain ⟨ix, e0, _, w0⟩ := DataW.trod_int Try.underlying3 f0
  obtain ⟨v, e1⟩ := seg_one (cs := cs) (off := 1) (by omega)
  rw [e1] at f1
  obtain ⟨pl, w1⟩ := trod_bytes f1
  obtain ⟨hh, e2, w2, w2'⟩ := trod_arr Try.underlying25 Try.underlying5 (by kernel_rfl) (by kernel_rfl) f2
  have hcs := segs_all cs [1, 1, 32] 0 (by simpa using hl)
  simp only [List.drop_zero, segs, List.flatten_cons, List.flatten_nil, List.append_nil, Nat.zero_add, Nat.reduceAdd, e0, e1, e2] at hcs
  (try rw [List.drop_zero] at e0)
  (try simp only [e0] at hcs)
  exact ⟨⟨ix, pl, hh⟩, v, hcs, ⟨bounds_i64 w0, w2', w2⟩, w1⟩
theorem reads_tb : Reads TbR 90 := by
  intro H enc W fuel cs x h
  obtain ⟨xs, n, _, -, hl, hn, hf⟩ := DataW.trod_struct Try.underlying90 h
  rw [show Try.prog.cellsOf 90 = 2 from by kernel_rfl] at hl
  have hxs : xs.length = 2 := hn
  have f0 : DataW.trod enc Try.prog W 0 (fun _ => true) true n 3 ((cs.drop 0).take (Try.prog.cellsOf 3)) = xs[0]? := hf 0 _ rfl
  rw [List.getElem?_eq_getElem (by omega), show Try.prog.cellsOf 3 = 1 from by kernel_rfl] at f0
  have f1 : DataW.trod enc Try.prog W 0 (fun _ => true) true n 88 ((cs.drop 1).take (Try.prog.cellsOf 88)) = xs[1]? := hf 1 _ rfl
  rw [List.getElem?_eq_getElem (by omega), show Try.prog.cellsOf 88 = 1 from by kernel_rfl] at f1
  obtain ⟨ix, e0, _, w0⟩ := DataW.trod_int Try.underlying3 f0
  obtain ⟨v, e1⟩ := seg_one (cs := cs) (off := 1) (by omega)
  rw [e1] at f1
  obtain ⟨l, w1⟩ := trod_slice reads_dn Try.underlying88 (by kernel_rfl) f1
  have hcs := segs_all cs [1, 1] 0 (by simpa using hl)
  simp only [List.drop_zero, segs, List.flatten_cons, List.flatten_nil, List.append_nil, Nat.zero_add, Nat.reduceAdd, e0, e1] at hcs
  (try rw [List.drop_zero] at e0)
  (try simp only [e0] at hcs)
  exact ⟨⟨ix, l⟩, v, hcs, bounds_i64 w0, w1⟩
theorem reads_ba : Reads BaR 60 := by
  intro H enc W fuel cs x h
  obtain ⟨xs, n, _, -, hl, hn, hf⟩ := DataW.trod_struct Try.underlying60 h
  rw [show Try.prog.cellsOf 60 = 5 from by kernel_rfl] at hl
  have hxs : xs.length = 5 := hn
  have f0 : DataW.trod enc Try.prog W 0 (fun _ => true) true n 3 ((cs.drop 0).take (Try.prog.cellsOf 3)) = xs[0]? := hf 0 _ rfl
  rw [List.getElem?_eq_getElem (by omega), show Try.prog.cellsOf 3 = 1 from by kernel_rfl] at f0
  have f1 : DataW.trod enc Try.prog W 0 (fun _ => true) true n 26 ((cs.drop 1).take (Try.prog.cellsOf 26)) = xs[1]? := hf 1 _ rfl
  rw [List.getElem?_eq_getElem (by omega), show Try.prog.cellsOf 26 = 1 from by kernel_rfl] at f1
  have f2 : DataW.trod enc Try.prog W 0 (fun _ => true) true n 56 ((cs.drop 2).take (Try.prog.cellsOf 56)) = xs[2]? := hf 2 _ rfl
  rw [List.getElem?_eq_getElem (by omega), show Try.prog.cellsOf 56 = 1 from by kernel_rfl] at f2
  have f3 : DataW.trod enc Try.prog W 0 (fun _ => true) true n 57 ((cs.drop 3).take (Try.prog.cellsOf 57)) = xs[3]? := hf 3 _ rfl
  rw [List.getElem?_eq_getElem (by omega), show Try.prog.cellsOf 57 = 1 from by kernel_rfl] at f3
  have f4 : DataW.trod enc Try.prog W 0 (fun _ => true) true n 58 ((cs.drop 4).take (Try.prog.cellsOf 58)) = xs[4]? := hf 4 _ rfl
  rw [List.getElem?_eq_getElem (by omega), show Try.prog.cellsOf 58 = 1 from by kernel_rfl] at f4
  obtain ⟨ep, e0, _, w0⟩ := DataW.trod_int Try.underlying3 f0
  obtain ⟨tm', e1, _, w1⟩ := DataW.trod_int Try.underlying26 f1
  obtain ⟨tm, rfl, w1'⟩ := u64_nat w1
  obtain ⟨vp, e2⟩ := seg_one (cs := cs) (off := 2) (by omega)
  rw [e2] at f2
  obtain ⟨ps, w2⟩ := trod_slice reads_pm Try.underlying56 (by kernel_rfl) f2
  obtain ⟨vo, e3⟩ := seg_one (cs := cs) (off := 3) (by omega)
  rw [e3] at f3
  obtain ⟨os, w3⟩ := trod_slice reads_op Try.underlying57 (by kernel_rfl) f3
  obtain ⟨vt, e4⟩ := seg_one (cs := cs) (off := 4) (by omega)
  rw [e4] at f4
  obtain ⟨ts, w4⟩ := trod_slice reads_tb Try.underlying58 (by kernel_rfl) f4
  have hcs := segs_all cs [1, 1, 1, 1, 1] 0 (by simpa using hl)
  simp only [List.drop_zero, segs, List.flatten_cons, List.flatten_nil, List.append_nil, Nat.zero_add, Nat.reduceAdd, e0, e1, e2, e3, e4] at hcs
  (try rw [List.drop_zero] at e0)
  (try simp only [e0] at hcs)
  exact ⟨⟨ep, tm, ps, os, ts⟩, vp, vo, vt, hcs, ⟨bounds_i64 w0, w1'⟩, w2, w3, w4⟩
end Go.Proofs.Ytknpapcfhnhheaa

/- Proposals as arguments. -/
namespace Go.Proofs.Ytknpapcfhnhheaa
open Go Go.RowKit Go.Gv Go.ChangeShapes Go.WideShapes Go.ChangeAt Go.Deep

end Go.Proofs.Ytknpapcfhnhheaa

namespace Go.Proofs.Ytknpapcfhnhheaa.wireHashes
open Go Go.RowKit Go.Gv Go.ChangeShapes Go.WideShapes Go.ChangeAt
open Go.ChangeMaps (open_string shut_string)

theorem own : ownKnob Try.prog.godebug = none := by kernel_rfl
theorem laidOut : laidOutB Try.prog = true := by kernel_rfl

theorem lifted (os : Os) (started : os.Started) (H : Type) (enc : TypeId × Value → H) :
    ReturnsInHanded {} Try.checked os 5 .any (Rows.wireHashesSpec.pre6 enc Try.prog Try.f5 Rows.wireHashesRow.domain false) (Rows.wireHashesSpec.post enc Try.prog Try.f5 false true false false) := by
  refine returnsInHanded_of_change (C := Try.checked) own started (by kernel_rfl) Try.func5
    (ChangeSpec.witness6 (enc := enc) (C := Try.checked) false ⟨#[], #[.agg #[.int .i64 0, .int .u64 0, .slice none 0 0, .slice none 0 0, .slice none 0 0], .int .i64 0], []⟩ 8 (by kernel_rfl) (by kernel_rfl) (by kernel_rfl) (by kernel_rfl)) ?_
  intro W base args ds gs before hval0 hW hcnd _
  have hval : ∀ (j : Nat) t v, Try.f5.params[j]? = some t → args[j]? = some v → Value.okWide Try.prog W .any base t v := hval0
  have hW' := hW
  obtain ⟨p, q, hA0, hV, rfl, hfz, hnd⟩ := hW
  have hA : DataW.TrodAll enc Try.prog W 0 (fun _ => true) true Try.f5.params.toList args.toList ds p := hA0
  rw [Try.params5] at hA hval
  obtain ⟨v0, vs0, d0, ds0, p0, q0, hargs, rfl, rfl, h0, r0⟩ := trodAll_cons hA
  obtain ⟨v1, vs1, d1, ds1, p1, q1, rfl, rfl, rfl, h1, r1⟩ := trodAll_cons r0
  obtain ⟨rfl, rfl, rfl⟩ := trodAll_nil r1
  obtain rfl : args = #[v0, v1] := by cases args; simp_all
  obtain ⟨rfl, rfl⟩ := trodVars_none hV
  have k0 := h0
  have lt0 : ∀ x ∈ p0, x.block < W.heap.size := by obtain ⟨m, hm⟩ := k0; exact DataW.trod_lt m _ _ _ hm
  have k1 := h1
  have lt1 : ∀ x ∈ p1, x.block < W.heap.size := by obtain ⟨m, hm⟩ := k1; exact DataW.trod_lt m _ _ _ hm
  obtain ⟨cs0, x0, e0, n0⟩ := reads_arg reads_ba Try.underlying60 (hval 0 60 v0 rfl rfl) h0
  subst e0
  obtain ⟨a1, rfl, rfl, rfl, w1⟩ := open_int Try.underlying3 (hval 1 3 v1 rfl rfl) h1
  clear hA0 hval0
  refine (LHashes_any (fun k => k < W.heap.size) x0 cs0 a1 W n0 (i64_bd w1) (fun _ h => h)).mono fun e W' ⟨he, hmod⟩ => ?_
  subst he
  have bel : Below W.heap.size W W' := hmod.below (Nat.le_refl _) (fun _ _ => id)
  exact ⟨_, rfl, _, _, _, [], _, [], hW', trodAll_mk1 (shut_bool Try.underlying4 _), (trodAll_cons_mk (Below.trod laidOut (by kernel_rfl) (of_decide_eq_true (by kernel_rfl)) k0 bel lt0) (trodAll_cons_mk (Below.trod laidOut (by kernel_rfl) (of_decide_eq_true (by kernel_rfl)) k1 bel lt1) trodAll_mk0)), rfl, bel.frame _, fun h => by cases h⟩

theorem over : Rows.wireHashesRow.holds Try.pinned (OpenSpec.ofChange Rows.wireHashesSpec) :=
  OpenClaim.holds_of_wide 5 Try.f5 rfl rfl rfl rfl rfl rfl rfl ⟨rfl, rfl, rfl, rfl, rfl⟩ rfl rfl rfl rfl rfl (by kernel_rfl) Try.func5 (by kernel_rfl)
    (of_decide_eq_true (by kernel_rfl)) (by unfold Func.isWrapper; first | (rw [if_pos (by decide +kernel)]; kernel_rfl) | (rw [if_neg (by decide +kernel)]; exact ⟨rfl, rfl⟩))
    (fun os started H enc _ => lifted os started H enc)

theorem proved : Rows.WireHashesSaid := over
end Go.Proofs.Ytknpapcfhnhheaa.wireHashes
