/- Texts that are built one behind the other: XGr2, XCmEq, XEq, XEb. No condition. -/
import Derived.Test.YtknpapcfhnhheaaHg5
/- The reference's readers of promises, batches. -/
set_option maxRecDepth 100000
set_option linter.unusedVariables false
namespace Go.Proofs.Ytknpapcfhnhheaa
open Go Go.RowKit Go.Gv

set_option maxHeartbeats 8000000 in
theorem dPm_U : GetsU PmR 74 86 gPm := by
  intro R r s w hR hB hl
  have HRD := Lib.hid hR
  have HBR := Lib.hid hB
  have HBY := hid hR.bytes
  have HLN := Lib.hid hl
  clear hR hB hl
  go_enter Try.func86, Try.ntmps86
  go_upto_region 1 with (fail)
  obtain ⟨w1, hw1⟩ : ∃ zz, zz = (w.alloc (.cells #[.int .i64 0, .int .i64 0, .int .u64 0, .slice none 0 0, .int .i64 0, .int .i64 0] 55)) := ⟨_, rfl⟩
  change Code.wp _ _ _ _ (w.alloc (.cells #[.int .i64 0, .int .i64 0, .int .u64 0, .slice none 0 0, .int .i64 0, .int .i64 0] 55))
  rw [← hw1]
  have HB2 := hid (show Cs w1 (w.heap.size) #[.int .i64 0, .int .i64 0, .int .u64 0, .slice none 0 0, .int .i64 0, .int .i64 0] 55 by rw [hw1]; exact Cs.new _ _ _)
  have hm : Mod (fun _ => False) w w1 := by rw [hw1]; exact (Mod.refl _ _).alloc _
  have HM0 := hid (show Mod (fun k => (R k)) w w1 from hm.mono (fun _ _ h => h.elim))
  have hs1 : w1.heap.size = w.heap.size + 1 := by rw [hw1]; simp
  have Hx1 := hid (HRD.out.mod hm (fun _ _ h => h))
  clear HRD
  clear hw1 hm
  go_upto_region 1 with (fail)
  generalize ha0 : Act.mk _ _ = a0
  have oe0 : a0.eval (.tmp 0) = .pointer (some ⟨r, 0, none⟩) := by rw [← ha0]; rfl
  have hsz0 : a0.tmps.size = 38 := by rw [← ha0]; rfl
  have HA0 := hid ha0
  clear ha0
  refine wp_region_S 38 hsz0 [6, 7, 8, 9, 10, 11, 12, 3, 46] [0, 1, 2, 3, 4, 5, 6, 7, 8] ?_
  refine QSeq.pure rfl (.pointer (some ⟨r, 0, none⟩)) (fun E => ex_move rfl (E.v oe0)) ?_
  refine QSeq.go fun act E => ?_
  refine qc_callF (args := #[.pointer (some ⟨r, 0, none⟩), .int .i64 1099511627776]) rfl (wanted_none rfl) rfl Try.func113 (args2 (E.d 0 0) rfl) (dI_Q Hx1.out) ?_
  rintro e u1_1 ⟨rfl, qrd, hm⟩
  refine ⟨_, rfl, ?_⟩
  have Hx2 := hid qrd
  have zu1_1 := hm.size
  have Cx3 := hid (show Mod (fun k => (R k)) w1 u1_1 from hm)
  clear hm
  clear act E qrd Hx1
  refine QSeq.pure rfl (.pointer (some ⟨r, 0, none⟩)) (fun E => ex_move rfl (E.v oe0)) ?_
  refine QSeq.go fun act E => ?_
  refine qc_callF (args := #[.pointer (some ⟨r, 0, none⟩), .int .i64 1099511627776]) rfl (wanted_none rfl) rfl Try.func113 (args2 (E.d 2 0) rfl) (dI_Q Hx2.out) ?_
  rintro e u1_3 ⟨rfl, qrd, hm⟩
  refine ⟨_, rfl, ?_⟩
  have Hx4 := hid qrd
  have zu1_3 := hm.size
  have HMu1_3 := hid hm
  have Cx5 := hid (Mod.goS (S' := (fun k => (R k))) Cx3.out hm (fun _ h => h) (by intro k h0 h2; exact h2))
  clear hm Cx3
  clear act E qrd Hx2
  refine QSeq.pure rfl (.pointer (some ⟨r, 0, none⟩)) (fun E => ex_move rfl (E.v oe0)) ?_
  refine QSeq.go fun act E => ?_
  refine qc_callF (args := #[.pointer (some ⟨r, 0, none⟩)]) rfl (wanted_none rfl) rfl Try.func119 (args1 (E.d 4 0)) (RefRNum_R Hx4.out) ?_
  rintro e u1_5 ⟨rfl, qrd, hm⟩
  refine ⟨_, rfl, ?_⟩
  have Hx6 := hid qrd
  have zu1_5 := hm.size
  have HMu1_5 := hid hm
  have Cx7 := hid (Mod.goS (S' := (fun k => (R k))) Cx5.out hm (fun _ h => h) (by intro k h0 h2; exact h2))
  clear hm Cx5
  clear act E qrd Hx4
  refine QSeq.go fun act E => ?_
  refine qc_run rfl (wanted_none rfl) (v := .agg ((Pm.cells (Pm.mk (gI s).1 (gI (gI s).2).1 (rNum (gI (gI s).2).2).1 [] 0 0) (Value.slice none 0 0)) : List Value).toArray) (ex_build rfl (z := [.int .i64 0, .int .i64 0, .int .u64 0, .slice none 0 0, .int .i64 0, .int .i64 0]) (places := [(0, 1), (1, 1), (2, 1), (3, 1), (4, 2)]) (by kernel_rfl) (parts := [(0, .int .i64 (gI s).1), (1, .int .i64 (gI (gI s).2).1), (2, .int .u64 ((rNum (gI (gI s).2).2).1 : Nat))]) (by simp only [List.map_toArray, List.map_cons, List.map_nil, show act.eval (.tmp 7) = .int .i64 (gI s).1 from (E.d 1 4), show act.eval (.tmp 9) = .int .i64 (gI (gI s).2).1 from (E.d 3 2), show act.eval (.tmp 11) = .int .u64 ((rNum (gI (gI s).2).2).1 : Nat) from (E.d 5 0)]; try rfl) (r := (Pm.cells (Pm.mk (gI s).1 (gI (gI s).2).1 (rNum (gI (gI s).2).2).1 [] 0 0) (Value.slice none 0 0))) (by exact laid_segs (ns := [1, 1, 1, 1, 2]) rfl [(0, .int .i64 (gI s).1), (1, .int .i64 (gI (gI s).2).1), (2, .int .u64 ((rNum (gI (gI s).2).2).1 : Nat))] [[.int .i64 0], [.int .i64 0], [.int .u64 0], [.slice none 0 0], [.int .i64 0, .int .i64 0]] rfl ⟨rfl, rfl, rfl, trivial⟩)) ?_
  clear act E
  refine QSeq.go fun act E => ?_
  refine qc_alloc rfl (wanted_none rfl) rfl (z := [.int .i64 0, .int .i64 0, .int .u64 0, .slice none 0 0, .int .i64 0, .int .i64 0]) (by kernel_rfl) ?_
  intro u1_7 qqx hm
  have zl1_7 := qqx.lt
  have Hx8 := hid qqx
  have zu1_7 := hm.size
  have HMu1_7 := hid hm
  have Cx9 := hid (Cx7.out.goE hm)
  clear hm Cx7
  clear act E qqx
  refine QSeq.go fun act E => ?_
  have hlz : ((Pm.cells (Pm.mk (gI s).1 (gI (gI s).2).1 (rNum (gI (gI s).2).2).1 [] 0 0) (Value.slice none 0 0))).length = List.length ([.int .i64 0, .int .i64 0, .int .u64 0, .slice none 0 0, .int .i64 0, .int .i64 0] : List Value) := rfl
  refine qc_store rfl (wanted_none rfl) rfl Hx8.out (off := 0) (vs := (Pm.cells (Pm.mk (gI s).1 (gI (gI s).2).1 (rNum (gI (gI s).2).2).1 [] 0 0) (Value.slice none 0 0))) (by rw [hlz]; kernel_rfl) (by intro u hu; simp only [Pm.cells, List.mem_cons, List.not_mem_nil, or_false] at hu; rcases hu with rfl | rfl | rfl | rfl | rfl | rfl <;> rfl) (by rw [hlz]; exact Nat.le_of_eq (Nat.zero_add _)) (E.d 7 0) (by rw [show act.eval ((.tmp 12)) = _ from (E.d 6 1)]; rfl) ?_
  intro u1_8 qc0 hm
  have qqx : Cs u1_8 (u1_5.heap.size) ((Pm.cells (Pm.mk (gI s).1 (gI (gI s).2).1 (rNum (gI (gI s).2).2).1 [] 0 0) (Value.slice none 0 0)) : List Value).toArray 55 := by rw [show lay _ 0 _ = ((Pm.cells (Pm.mk (gI s).1 (gI (gI s).2).1 (rNum (gI (gI s).2).2).1 [] 0 0) (Value.slice none 0 0)) : List Value).toArray from lay_whole #[.int .i64 0, .int .i64 0, .int .u64 0, .slice none 0 0, .int .i64 0, .int .i64 0] _ (by rw [hlz]; rfl)] at qc0; exact qc0
  clear qc0 hlz
  have Hx10 := hid qqx
  have zu1_8 := hm.size
  have HMu1_8 := hid hm
  have Cx11 := hid (Mod.goS (S' := (fun k => (R k))) Cx9.out hm (fun _ h => h) (by intro k h0 h2; omega))
  clear hm Cx9
  clear act E qqx Hx8
  have Hx12 := hid ((Hx6.out.mod HMu1_7.out (fun _ _ h => h)).mod HMu1_8.out (by intro k h1 h2; have hb := HBR.out k h1; omega))
  clear Hx6 HMu1_3 HMu1_5 HMu1_7 HMu1_8
  refine QSeq.nil (t' := [_, _, _, _, _, _, _, _, _]) rfl ?_
  have ha0 := HA0.out
  subst ha0
  clear HA0 hsz0 oe0
  simp only [putAll, Act.put, List.setIfInBounds_toArray, List.set_cons_zero, List.set_cons_succ, List.set_nil]
  go_upto_region 2 with (fail)
  generalize ha0 : Act.mk _ _ = a0
  have oe0 : a0.eval (.tmp 0) = .pointer (some ⟨r, 0, none⟩) := by rw [← ha0]; rfl
  have hsz0 : a0.tmps.size = 38 := by rw [← ha0]; rfl
  have HA0 := hid ha0
  clear ha0
  refine wp_region_S 38 hsz0 [13, 14, 4] [0, 1, 2] ?_
  refine QSeq.pure rfl (.pointer (some ⟨r, 0, none⟩)) (fun E => ex_move rfl (E.v oe0)) ?_
  refine QSeq.go fun act E => ?_
  refine qc_callF (args := #[.pointer (some ⟨r, 0, none⟩), .int .i64 100]) rfl (wanted_none rfl) rfl Try.func113 (args2 (E.d 0 0) rfl) (RefRInt_R Hx12.out (by decide)) ?_
  rintro e u2_1 ⟨rfl, qrd, hm⟩
  refine ⟨_, rfl, ?_⟩
  have Hx13 := hid qrd
  have zu2_1 := hm.size
  have Cx14 := hid (show Mod (fun k => (R k)) u1_8 u2_1 from hm)
  clear hm
  clear act E qrd Hx12
  refine QSeq.pure rfl (.int .i64 ((rInt 100 (rNum (gI (gI s).2).2).2).1 : Nat)) (fun E => ex_assign rfl (E.d 1 0)) ?_
  refine QSeq.nil (t' := [_, _, _]) rfl ?_
  have ha0 := HA0.out
  subst ha0
  clear HA0 hsz0 oe0
  simp only [putAll, Act.put, List.setIfInBounds_toArray, List.set_cons_zero, List.set_cons_succ]
  obtain ⟨n1, hn⟩ : ∃ n, n = (rInt 100 (rNum (gI (gI s).2).2).2).1 := ⟨_, rfl⟩
  obtain ⟨s1, hs1⟩ : ∃ z, z = (rInt 100 (rNum (gI (gI s).2).2).2).2 := ⟨_, rfl⟩
  have hn100_1 : n1 ≤ 100 := by have := rInt_le 100 (rNum (gI (gI s).2).2).2; omega
  have HLS1 := hid (show (s1.getD []).length ≤ 900000 by rw [hs1]; exact Nat.le_trans ((rInt_suf 100).len _) (Nat.le_trans (rNum_suf.len _) (Nat.le_trans (gI_suf.len _) (Nat.le_trans (gI_suf.len _) HLN.out))))
  have HGL1 := hid (show gList gCe (rNum (gI (gI s).2).2).2 = gItems gCe n1 [] s1 by rw [hn, hs1]; rfl)
  rw [← hn]
  have hq := Hx13.out
  rw [← hs1] at hq
  have HR1 := Lib.hid hq
  clear hq hn hs1 Hx13
  go_upto_region 3 with (fail)
  generalize ha0 : Act.mk _ _ = a0
  have hsz0 : a0.tmps.size = 38 := by rw [← ha0]; rfl
  have HA0 := hid ha0
  clear ha0
  refine wp_region_S 38 hsz0 [5] [0] ?_
  refine QSeq.pure rfl (.int .i64 0) (fun E => ex_assign rfl rfl) ?_
  refine QSeq.nil (t' := [_]) rfl ?_
  have ha0 := HA0.out
  subst ha0
  clear HA0 hsz0
  simp only [putAll, Act.put, List.setIfInBounds_toArray, List.set_cons_zero, List.set_cons_succ]
  go_wp2
  go_loopw [5] (fun ti wr => ∃ (k : Nat) (acc : List Ce) (st : RSt) (v : Value), ti = .int .i64 (k : Int) ∧ k ≤ n1 ∧ acc.length = k ∧ (st.getD []).length ≤ 900000 ∧ Ru gCe n1 s1 k acc st ∧ u2_1.heap.size ≤ wr.heap.size ∧ OwS CeR 52 (fun b => u2_1.heap.size ≤ b ∧ b < wr.heap.size) (fun b => u2_1.heap.size ≤ b ∧ b < wr.heap.size) wr v acc ∧ Cs wr (u1_5.heap.size) ((Pm.cells (Pm.mk (gI s).1 (gI (gI s).2).1 (rNum (gI (gI s).2).2).1 acc 0 0) (v)) : List Value).toArray 55 ∧ RrR 74 R wr r st ∧ Cs wr (w.heap.size) #[.int .i64 0, .int .i64 0, .int .u64 0, .slice none 0 0, .int .i64 0, .int .i64 0] 55 ∧ Mod R w wr) (fun ti _ => n1 - (intOf ti).toNat)
  case atStart => exact ⟨0, [], s1, .slice none 0 0, rfl, Nat.zero_le _, rfl, HLS1.out, Ru.start gCe_suf _ _, Nat.le_refl _, OwS.nil _ _ _ _ _, (Hx10.out.mod Cx14.out (by intro h2; first | omega | (have hb := HBR.out _ h2; omega))), HR1.out, ((HB2.out.mod Cx11.out (by intro h2; first | omega | (have hb := HBR.out _ h2; omega))).mod Cx14.out (by intro h2; first | omega | (have hb := HBR.out _ h2; omega))), ((HM0.out.trans Cx11.out (fun _ _ h => h)).trans Cx14.out (fun _ _ h => h))⟩
  case round =>
    obtain ⟨k1, acc1, st1, v1, rfl, hk, hka, hst, hru, hz, ha, hbx, hr, hk_0, hm⟩ := hrel
    obtain ⟨wl1, rfl⟩ : ∃ x, x = wr := ⟨_, rfl⟩
    obtain ⟨aol1, capl1, rfl⟩ := ha.shape
    have HAL1 := Lib.hid ha
    have HBXL1 := Lib.hid hbx
    have HRL1 := Lib.hid hr
    have HML1 := Lib.hid hm
    have HST1 := Lib.hid hst
    have HRU1 := Lib.hid hru
    have HKA1 := Lib.hid hka
    have HKP1_0 := Lib.hid hk_0
    clear ha hbx hr hm hst hru hka hk_0 HR1 HB2 HM0 Hx10
    by_cases hgo1 : k1 < n1 ∧ st1 ≠ none
    · obtain ⟨hlt1, hsn1⟩ := hgo1
      cases st1 with
      | none => exact absurd rfl hsn1
      | some l1 =>
        go_upto_region 4 with (fail)
        generalize ha0 : Act.mk _ _ = a0
        have oe0 : a0.eval (.tmp 0) = .pointer (some ⟨r, 0, none⟩) := by rw [← ha0]; rfl
        have oe4 : a0.eval (.tmp 4) = .int .i64 ((n1 : Nat) : Int) := by rw [← ha0]; rfl
        have oe5 : a0.eval (.tmp 5) = .int .i64 ((k1 : Nat) : Int) := by rw [← ha0]; rfl
        have hsz0 : a0.tmps.size = 38 := by rw [← ha0]; rfl
        have HA0 := hid ha0
        clear ha0
        refine wp_region_S 38 hsz0 [15, 16, 17, 18, 19, 20, 21, 22, 23, 24] [0, 1, 2, 3, 4, 5, 6, 7, 8, 9] ?_
        refine QSeq.pure rfl (.int .i64 ((k1 : Nat) : Int)) (fun E => ex_move rfl (E.v oe5)) ?_
        refine QSeq.pure rfl (.int .i64 ((n1 : Nat) : Int)) (fun E => ex_move rfl (E.v oe4)) ?_
        refine QSeq.pure rfl (.bool true) (fun E => ex_binE rfl (E.d 0 1) (E.d 1 0) (guard_ints _ _ _ _ _ _) (run_lss_i _ _ _ Try.underlying3) (congrArg Value.bool (decide_eq_true (by omega)))) ?_
        refine QSeq.pure rfl (.bool true) (fun E => ex_move rfl (E.d 2 0)) ?_
        refine QSeq.pureG rfl (.pointer (some ⟨r, 0, none⟩)) (fun E => ((wanted_of rfl rfl (E.sz 18 (by decide)) (E.d 3 0)).trans rfl)) (fun E => ex_move rfl (E.v oe0)) ?_
        refine QSeq.pureG rfl (.pointer (some ⟨r, 0, none⟩)) (fun E => ((wanted_of rfl rfl (E.sz 18 (by decide)) (E.d 3 1)).trans rfl)) (fun E => ex_nil rfl (E.d 4 0)) ?_
        refine QSeq.pureG rfl (.pointer (some ⟨r, 1, none⟩)) (fun E => ((wanted_of rfl rfl (E.sz 18 (by decide)) (E.d 3 2)).trans rfl)) (fun E => ex_field rfl Try.underlying74 rfl (by kernel_rfl) (E.d 5 0)) ?_
        refine QSeq.pureG rfl (.bool false) (fun E => ((wanted_of rfl rfl (E.sz 18 (by decide)) (E.d 3 3)).trans rfl)) (fun E => ex_load1 rfl Try.underlying4 rfl (E.d 6 0) (RrR.bad HRL1.out)) ?_
        refine QSeq.pureG rfl (.bool true) (fun E => ((wanted_of rfl rfl (E.sz 18 (by decide)) (E.d 3 4)).trans rfl)) (fun E => ex_not rfl (E.d 7 0)) ?_
        refine QSeq.pure rfl (.bool true) (fun E => ex_pick rfl (E.d 3 5) (E.d 8 0) rfl) ?_
        refine QSeq.nil (t' := [_, _, _, _, _, _, _, _, _, _]) rfl ?_
        have ha0 := HA0.out
        subst ha0
        clear HA0 hsz0 oe0 oe4 oe5
        simp only [putAll, Act.put, List.setIfInBounds_toArray, List.set_cons_zero, List.set_cons_succ]
        obtain ⟨st2_1, hp2⟩ : ∃ z, z = (gCe (some l1)).2 := ⟨_, rfl⟩
        have HP2_1 := hid hp2.symm
        clear hp2
        have HST2_1 := hid (show (st2_1.getD []).length ≤ 900000 by rw [← HP2_1.out]; exact Nat.le_trans (gCe_suf.len _) HST1.out)
        go_upto_region 6 with (fail)
        generalize ha0 : Act.mk _ _ = a0
        have oe0 : a0.eval (.tmp 0) = .pointer (some ⟨r, 0, none⟩) := by rw [← ha0]; rfl
        have oe3 : a0.eval (.tmp 3) = .pointer (some ⟨u1_5.heap.size, 0, none⟩) := by rw [← ha0]; rfl
        have hsz0 : a0.tmps.size = 38 := by rw [← ha0]; rfl
        have HA0 := hid ha0
        clear ha0
        refine wp_region_Q1 38 hsz0 [27, 28, 29, 30, 31, 32, 33, 45] (fun k => (R k) ∨ (New u2_1 wl1 k) ∨ (k = u1_5.heap.size)) (fun k j => (k = 0 ∧ ((R j))) ∨ (k = 2 ∧ ((New u2_1 wl1 j))) ∨ (k = 3 ∧ ((j = u1_5.heap.size)))) (by intro k j h; (try dsimp only at h ⊢); rcases h with ⟨-, h⟩ | ⟨-, h⟩ | ⟨-, h⟩; (exact Or.inl (h)); (exact Or.inr (Or.inl (h))); (exact Or.inr (Or.inr (h)))) [qi (.pointer (some ⟨u1_5.heap.size, 3, none⟩)), qi (.slice aol1 acc1.length capl1), qi (.pointer (some ⟨r, 0, none⟩)), qv 0, qv 1, qv 2, qi (.pointer (some ⟨u1_5.heap.size, 3, none⟩)), qv 3] ⟨qi_stable, qi_stable, qi_stable, qv_stable, qv_stable, qv_stable, qi_stable, qv_stable, trivial⟩ [3, 4, 5, 7] ⟨?_, ?_, ?_, ?_, ?_, ?_, ?_, ?_, trivial⟩ ?_
        · exact stq (fun E => ex_field rfl Try.underlying55 rfl (by kernel_rfl) (E.v oe3))
        · refine stepq_env rfl rfl rfl fun _ _ _ _ _ _ hm0 _ _ hd hub _ => ?_
          have h0 := hd ⟨0, .data⟩ (by simp) rfl _ rfl
          refine qe_run rfl (wanted_none rfl) (ex_load1 rfl Try.underlying53 rfl h0 (Cs.lit1 (HBXL1.out.mod hm0 (by intro h2; have hu := hub 3 7 rfl (by kernel_rfl); rcases h2 with ⟨h0, kk, hk, h2⟩ | h2 <;> first | omega | (rcases h2 with ⟨hkk, h2⟩ | ⟨hkk, h2⟩ | ⟨hkk, h2⟩ <;> first | omega | (have hb := HBR.out _ h2; omega)))) rfl)) QE.refl ?_
          rfl
        · exact stq (fun E => ex_move rfl (E.v oe0))
        · exact stepq_chain rfl
        · exact stepq_chain rfl
        · exact stepq_chain rfl
        · exact stq (fun E => ex_field rfl Try.underlying55 rfl (by kernel_rfl) (E.v oe3))
        · exact stepq_chain rfl
        intro u6_0 hr
        have zu6_0 := hr.size
        have Cx15 := hid (hr.new (S := (fun k => (R k) ∨ (New u2_1 wl1 k) ∨ (k = u1_5.heap.size))))
        have Hx16 := hid (HAL1.out.mod hr (by intro k h1 h2; omega) (by intro k h1 h2; omega))
        clear HAL1
        have Hx17 := hid (HBXL1.out.mod hr (by intro h2; omega))
        clear HBXL1
        have Hx18 := hid (HRL1.out.mod hr (by intro k h1 h2; have hb := HBR.out k h1; omega))
        clear HRL1
        clear hr
        refine QChain.go fun Z act E => ?_
        refine qc_callF (args := #[.pointer (some ⟨r, 0, none⟩)]) rfl (wanted_none rfl) rfl Try.func82 (args1 (E.d 2)) (dCe_U.to HP2_1.out Hx18.out (by intro k h1; have hb := HBR.out k h1; omega) HST1.out) ?_
        rintro e u6_1a ⟨cs1, y1, rfl, qel, qrd, hy1, hm⟩
        have HY1 := Lib.hid hy1
        clear hy1
        have zu6_1a := hm.size
        refine ⟨_, rfl, hm.mono (by intro k hk h; first | omega | exact Or.inl ⟨(by have hb := HBR.out k h; omega), Or.inl ⟨rfl, h⟩⟩), (fun _ => rfl), ?_⟩
        intro u6_1 hr
        have zu6_1 := hr.size
        have Hx19 := hid ((qel.widen (R' := (fun k => (New u6_0 u6_1a k))) (fun _ h => h)).mod hr (by intro k h1 h2; omega))
        have Hx20 := hid (qrd.mod hr (by intro k h1 h2; have hb := HBR.out k h1; omega))
        have hmr := hm.two hr
        have Hx21 := hid (Hx16.out.mod hmr (by intro k h1 h2; rcases h2 with h2 | h2 <;> first | omega | (have hb := HBR.out k h2; omega)) (by intro k h1 h2; rcases h2 with h2 | h2 <;> first | omega | (have hb := HBR.out k h2; omega)))
        have Hx22 := hid (Hx17.out.mod hmr (by intro h2; rcases h2 with h2 | h2 <;> first | omega | (have hb := HBR.out _ h2; omega)))
        clear Hx16 Hx17
        clear hmr
        have Cx23 := hid (Cx15.out.goM hm hr (by intro k h0 h2; first | omega | exact Or.inl h2 | exact Or.inr (Or.inl h2) | exact Or.inr (Or.inr (h2))))
        clear Cx15 hm hr Z act E qel qrd Hx18
        refine QChain.go fun Z act E => ?_
        refine qc_buildS (e := 52) (cs := cs1) (zc := [.int .i64 0, .int .i64 0, .int .u8 0, .int .u8 0, .int .u8 0, .int .u8 0, .int .u8 0, .int .u8 0, .int .u8 0, .int .u8 0, .int .u8 0, .int .u8 0, .int .u8 0, .int .u8 0, .int .u8 0, .int .u8 0, .int .u8 0, .int .u8 0, .int .u8 0, .int .u8 0, .int .u8 0, .int .u8 0, .int .u8 0, .int .u8 0, .int .u8 0, .int .u8 0, .int .u8 0, .int .u8 0, .int .u8 0, .int .u8 0, .int .u8 0, .int .u8 0, .int .u8 0, .int .u8 0, .int .i64 0, .int .i64 0, .int .i64 0, .slice none 0 0]) (sz := 38) rfl (wanted_none rfl) rfl Try.underlying53 (by kernel_rfl) rfl (by decide) (by decide) (chv (v := .agg cs1.toArray) (E.d 3)) (CeR.len Hx19.out) ?_
        intro u6_2a qrow hm
        have zl6_4 := qrow.lt
        have zu6_2a := hm.size
        refine ⟨hm.mono (fun _ _ h => h.elim), (fun _ => rfl), ?_⟩
        intro u6_2 hr
        have zu6_2 := hr.size
        have Hx24 := hid (qrow.mod hr (by intro h2; omega))
        have hmr := Mod.after hm hr
        have Hx25 := hid (Hx21.out.mod hmr (by intro k h1 h2; omega) (by intro k h1 h2; omega))
        have Hx26 := hid (Hx22.out.mod hmr (by intro h2; omega))
        have Hx27 := hid (Hx20.out.mod hmr (by intro k h1 h2; have hb := HBR.out k h1; omega))
        have Hx28 := hid (Hx19.out.mod hmr (by intro k h1 h2; omega))
        clear Hx21 Hx22 Hx20 Hx19
        clear hmr
        have Cx29 := hid (Cx23.out.go hm hr)
        clear Cx23 hm hr Z act E qrow
        refine QChain.go fun Z act E => ?_
        refine qc_appS (A := CeR) (e := 52) rfl (wanted_none rfl) rfl (.agg #[.int .i64 0, .int .i64 0, .int .u8 0, .int .u8 0, .int .u8 0, .int .u8 0, .int .u8 0, .int .u8 0, .int .u8 0, .int .u8 0, .int .u8 0, .int .u8 0, .int .u8 0, .int .u8 0, .int .u8 0, .int .u8 0, .int .u8 0, .int .u8 0, .int .u8 0, .int .u8 0, .int .u8 0, .int .u8 0, .int .u8 0, .int .u8 0, .int .u8 0, .int .u8 0, .int .u8 0, .int .u8 0, .int .u8 0, .int .u8 0, .int .u8 0, .int .u8 0, .int .u8 0, .int .u8 0, .int .i64 0, .int .i64 0, .int .i64 0, .slice none 0 0]) 96 Try.underlying53 info_Ce (by rfl) (of_decide_eq_true (by kernel_rfl)) (E.d 1) (chv (v := .slice (some ⟨u6_1.heap.size, 0, none⟩) 1 1) (E.d 4)) (Hx25.out) (RdS.single (R := (fun k => (New u6_0 u6_1a k) ∨ (k = u6_1.heap.size))) Hx24.out (Hx28.out.widen (by intro k h1; first | omega | exact h1.elim | exact Or.inl h1 | exact Or.inr (h1))) (by first | exact Or.inr rfl | exact Or.inr (Or.inr rfl) | (right; omega) | (right; right; omega))) (by intro k h1 h2; omega) (by rw [HKA1.out]; simp only [List.length_cons, List.length_nil]; omega) (by rw [HKA1.out]; simp only [List.length_cons, List.length_nil]; rw [maxLen_val]; omega) ?_
        intro ao13 cap13 u6_3a qacc1 hm
        have zu6_3a := hm.size
        refine ⟨hm.mono (by intro k hk h; omega), (fun _ => rfl), ?_⟩
        intro u6_3 hr
        have zu6_3 := hr.size
        have Hx30 := hid ((qacc1.widen (R' := (fun k => (New u2_1 wl1 k) ∨ (New u6_2 u6_3a k))) (E' := (fun k => (New u2_1 wl1 k) ∨ (New u6_0 u6_1a k) ∨ (k = u6_1.heap.size))) (fun _ h => h) (by intro k h1; rcases h1 with h1 | (h1 | h1) <;> first | omega | exact h1.elim | exact Or.inl h1 | exact Or.inr (Or.inl h1) | exact Or.inr (Or.inr (h1)))).mod hr (by intro k h1 h2; omega) (by intro k h1 h2; omega))
        have hmr := hm.two hr
        have Hx31 := hid (Hx26.out.mod hmr (by intro h2; omega))
        have Hx32 := hid (Hx27.out.mod hmr (by intro k h1 h2; have hb := HBR.out k h1; omega))
        have Hx33 := hid (Hx28.out.mod hmr (by intro k h1 h2; omega))
        have Hx34 := hid (Hx24.out.mod hmr (by intro h2; omega))
        clear Hx26 Hx27 Hx28 Hx24
        clear hmr
        have Cx35 := hid (Cx29.out.goM hm hr (by intro k h0 h2; first | omega | exact Or.inl h2 | exact Or.inr (Or.inl h2) | exact Or.inr (Or.inr (h2))))
        clear Cx29 hm hr Z act E qacc1 Hx25
        refine QChain.go fun Z act E => ?_
        refine qc_store rfl (wanted_none rfl) rfl Hx31.out (off := 3) (vs := [Value.slice ao13 (acc1.length + 1) cap13]) (by kernel_rfl) (by intro u hu; simp at hu; subst hu; rfl) (by show 3 + 1 ≤ 6; decide) (E.d 6) (by rw [show act.eval ((.tmp 32)) = _ from (chv (v := .slice ao13 (acc1.length + 1) cap13) (E.d 5))]; rfl) ?_
        intro u6_4a qc0 hm
        have qqx : Cs u6_4a (u1_5.heap.size) ((Pm.cells (Pm.mk (gI s).1 (gI (gI s).2).1 (rNum (gI (gI s).2).2).1 (acc1 ++ [y1]) 0 0) (Value.slice ao13 (acc1.length + 1) cap13)) : List Value).toArray 55 := by rw [show lay _ 3 _ = ((Pm.cells (Pm.mk (gI s).1 (gI (gI s).2).1 (rNum (gI (gI s).2).2).1 (acc1 ++ [y1]) 0 0) (Value.slice ao13 (acc1.length + 1) cap13)) : List Value).toArray from rfl] at qc0; exact qc0
        clear qc0
        have zu6_4a := hm.size
        refine ⟨hm.mono (by intro k hk h; omega), (fun _ => rfl), ?_⟩
        intro u6_4 hr
        have zu6_4 := hr.size
        have Hx36 := hid (qqx.mod hr (by intro h2; omega))
        have hmr := hm.two hr
        have Hx37 := hid (Hx30.out.mod hmr (by intro k h1 h2; omega) (by intro k h1 h2; omega))
        have Hx38 := hid (Hx32.out.mod hmr (by intro k h1 h2; have hb := HBR.out k h1; omega))
        have Hx39 := hid (Hx33.out.mod hmr (by intro k h1 h2; omega))
        have Hx40 := hid (Hx34.out.mod hmr (by intro h2; omega))
        clear Hx30 Hx32 Hx33 Hx34
        clear hmr
        have Cx41 := hid (Cx35.out.goM hm hr (by intro k h0 h2; first | omega | exact Or.inl h2 | exact Or.inr (Or.inl h2) | exact Or.inr (Or.inr (h2))))
        clear Cx35 hm hr Z act E qqx Hx31
        refine QChain.nil fun vs hl hzz hrows hne => ?_
        obtain ⟨Z, hYZ, hZb, hV⟩ := hzz
        have f2 := fvi hV hl 2
        have f3 := fvc hV hl 3
        have f4 := fvc hV hl 4
        have f5 := fvc hV hl 5
        rw [show vs = [gw vs 0, gw vs 1, gw vs 2, gw vs 3, gw vs 4, gw vs 5, gw vs 6, gw vs 7] from (gw_eta hl).trans rfl]
        have ha0 := HA0.out
        subst ha0
        clear HA0 hV hYZ hZb hsz0 hrows hne oe0 oe3
        simp only [putAll, Act.put, List.setIfInBounds_toArray, List.set_cons_zero, List.set_cons_succ, List.set_nil, f2, f3, f4, f5]
        clear hl f2 f3 f4 f5
        clear Hx39
        clear Hx40
        go_upto_region 5 with (fail)
        generalize ha0 : Act.mk _ _ = a0
        have oe5 : a0.eval (.tmp 5) = .int .i64 ((k1 : Nat) : Int) := by rw [← ha0]; rfl
        have hsz0 : a0.tmps.size = 38 := by rw [← ha0]; rfl
        have HA0 := hid ha0
        clear ha0
        refine wp_region_S 38 hsz0 [25, 26, 5] [0, 1, 2] ?_
        refine QSeq.pure rfl (.int .i64 ((k1 : Nat) : Int)) (fun E => ex_move rfl (E.y 2 oe5)) ?_
        refine QSeq.pure rfl (.int .i64 (((k1 : Nat) : Int) + 1)) (fun E => ex_binE rfl (E.d 0 0) rfl (guard_ints _ _ _ _ _ _) (run_add_i _ _ Try.underlying3) (congrArg (Value.int .i64) (IntWalk.i64_in _ (by omega)))) ?_
        refine QSeq.pure rfl (.int .i64 (((k1 : Nat) : Int) + 1)) (fun E => ex_assign rfl (E.d 1 0)) ?_
        refine QSeq.nil (t' := [_, _, _]) rfl ?_
        have ha0 := HA0.out
        subst ha0
        clear HA0 hsz0 oe5
        simp only [putAll, Act.put, List.setIfInBounds_toArray, List.set_cons_zero, List.set_cons_succ]
        go_wp2
        go_roundw
        case rel => exact ⟨k1 + 1, acc1 ++ [y1], st2_1, _, by go_num, by omega, by rw [List.length_append, HKA1.out]; rfl, HST2_1.out, HRU1.out.step hlt1 (by simp) HP2_1.out HY1.out, by omega, (Hx37.out.widen (by intro b h1; omega) (by intro b h1; rcases h1 with h1 | h1 | h1 <;> first | omega | exact h1.elim)), Hx36.out, Hx38.out, (HKP1_0.out.mod Cx41.out (by intro h2; rcases h2 with h2 | h2 | h2 <;> first | omega | (have hb := HBR.out _ h2; omega))), (HML1.out.trans Cx41.out (by intro k h1 h2; rcases h2 with h2 | h2 | h2 <;> first | exact h2 | omega | (have hb := HBR.out k h2; omega)))⟩
        case measure => simp [intOf] <;> omega
    · skip
      obtain ⟨bA1, hbA1⟩ : ∃ b : Bool, b = decide (((k1 : Nat) : Int) < ((n1 : Nat) : Int)) := ⟨_, rfl⟩
      go_upto_region 4 with (fail)
      generalize ha0 : Act.mk _ _ = a0
      have oe0 : a0.eval (.tmp 0) = .pointer (some ⟨r, 0, none⟩) := by rw [← ha0]; rfl
      have oe4 : a0.eval (.tmp 4) = .int .i64 ((n1 : Nat) : Int) := by rw [← ha0]; rfl
      have oe5 : a0.eval (.tmp 5) = .int .i64 ((k1 : Nat) : Int) := by rw [← ha0]; rfl
      have hsz0 : a0.tmps.size = 38 := by rw [← ha0]; rfl
      have HA0 := hid ha0
      clear ha0
      refine wp_region_S 38 hsz0 [15, 16, 17, 18, 19, 20, 21, 22, 23, 24] [0, 1, 2, 3, 4, 5, 6, 7, 8, 9] ?_
      refine QSeq.pure rfl (.int .i64 ((k1 : Nat) : Int)) (fun E => ex_move rfl (E.v oe5)) ?_
      refine QSeq.pure rfl (.int .i64 ((n1 : Nat) : Int)) (fun E => ex_move rfl (E.v oe4)) ?_
      refine QSeq.pure rfl (.bool bA1) (fun E => ex_binE rfl (E.d 0 1) (E.d 1 0) (guard_ints _ _ _ _ _ _) (run_lss_i _ _ _ Try.underlying3) (congrArg Value.bool hbA1.symm)) ?_
      refine QSeq.pure rfl (.bool bA1) (fun E => ex_move rfl (E.d 2 0)) ?_
      refine QSeq.may (b := bA1) rfl (.pointer (some ⟨r, 0, none⟩)) (fun E => ((wanted_of rfl rfl (E.sz 18 (by decide)) (E.d 3 0)).trans (beq_t _))) (fun E hb => ex_move rfl (E.v oe0)) ?_
      intro v4_4 hw
      have hv4_4 := hid hw
      clear hw
      refine QSeq.may (b := bA1) rfl (.pointer (some ⟨r, 0, none⟩)) (fun E => ((wanted_of rfl rfl (E.sz 18 (by decide)) (E.d 3 1)).trans (beq_t _))) (fun E hb => ex_nil rfl ((E.q 4 0 hv4_4.out).1 hb)) ?_
      intro v4_5 hw
      have hv4_5 := hid hw
      clear hw
      refine QSeq.may (b := bA1) rfl (.pointer (some ⟨r, 1, none⟩)) (fun E => ((wanted_of rfl rfl (E.sz 18 (by decide)) (E.d 3 2)).trans (beq_t _))) (fun E hb => ex_field rfl Try.underlying74 rfl (by kernel_rfl) ((E.q 5 0 hv4_5.out).1 hb)) ?_
      intro v4_6 hw
      have hv4_6 := hid hw
      clear hw
      refine QSeq.may (b := bA1) rfl (.bool st1.isNone) (fun E => ((wanted_of rfl rfl (E.sz 18 (by decide)) (E.d 3 3)).trans (beq_t _))) (fun E hb => ex_load1 rfl Try.underlying4 rfl ((E.q 6 0 hv4_6.out).1 hb) (RrR.bad HRL1.out)) ?_
      intro v4_7 hw
      have hv4_7 := hid hw
      clear hw
      refine QSeq.may (b := bA1) rfl (.bool (!st1.isNone)) (fun E => ((wanted_of rfl rfl (E.sz 18 (by decide)) (E.d 3 4)).trans (beq_t _))) (fun E hb => ex_not rfl ((E.q 7 0 hv4_7.out).1 hb)) ?_
      intro v4_8 hw
      have hv4_8 := hid hw
      clear hw
      refine QSeq.pure rfl (.bool (bA1 && (!st1.isNone))) (fun E => ex_pickE rfl (E.d 3 5) rfl rfl (and_val fun hb => (E.q 8 0 hv4_8.out).1 hb)) ?_
      clear hv4_4 hv4_5 hv4_6 hv4_7 hv4_8
      refine QSeq.nil (t' := [_, _, _, _, _, _, _, _, _, _]) rfl ?_
      have ha0 := HA0.out
      subst ha0
      clear HA0 hsz0 oe0 oe4 oe5
      simp only [putAll, Act.put, List.setIfInBounds_toArray, List.set_cons_zero, List.set_cons_succ]
      rw [go_false hgo1 hbA1]
      have HF1 := hid (HRU1.out.fin hgo1 hk)
      clear hbA1 hgo1
      go_upto_region 7 with (fail)
      generalize ha0 : Act.mk _ _ = a0
      have oe0 : a0.eval (.tmp 0) = .pointer (some ⟨r, 0, none⟩) := by rw [← ha0]; rfl
      have oe3 : a0.eval (.tmp 3) = .pointer (some ⟨u1_5.heap.size, 0, none⟩) := by rw [← ha0]; rfl
      have hsz0 : a0.tmps.size = 38 := by rw [← ha0]; rfl
      have HA0 := hid ha0
      clear ha0
      refine wp_region_S 38 hsz0 [34, 35, 36, 41] [0, 1, 2, 3] ?_
      refine QSeq.pure rfl (.pointer (some ⟨r, 0, none⟩)) (fun E => ex_move rfl (E.v oe0)) ?_
      refine QSeq.go fun act E => ?_
      refine qc_callF (args := #[.pointer (some ⟨r, 0, none⟩)]) rfl (wanted_none rfl) rfl Try.func120 (args1 (E.d 0 0)) (dSig_Q _ _ _ _ HRL1.out (by intro k h1; have hb := HBR.out k h1; omega)) ?_
      rintro e u7_1 ⟨rfl, qrd, hm⟩
      refine ⟨_, rfl, ?_⟩
      have Hx42 := hid qrd
      have zu7_1 := hm.size
      have Cx43 := hid (show Mod (fun k => (R k)) wl1 u7_1 from hm)
      clear hm
      clear act E qrd HRL1
      refine QSeq.pure rfl (.pointer (some ⟨u1_5.heap.size, 4, none⟩)) (fun E => ex_field rfl Try.underlying55 rfl (by kernel_rfl) (E.v oe3)) ?_
      refine QSeq.go fun act E => ?_
      refine qc_store rfl (wanted_none rfl) rfl (HBXL1.out.mod Cx43.out (by intro h2; first | omega | (have hb := HBR.out _ h2; omega))) (off := 4) (vs := [.int .i64 (gSig st1).1.1, .int .i64 (gSig st1).1.2]) (by kernel_rfl) (by intro u hu; simp at hu; rcases hu with rfl | rfl <;> rfl) (by show 4 + 2 ≤ 6; decide) (E.d 2 0) (by rw [show act.eval ((.tmp 35)) = _ from (E.d 1 1)]; rfl) ?_
      intro u7_3 qc0 hm
      have qqx : Cs u7_3 (u1_5.heap.size) ((Pm.cells (Pm.mk (gI s).1 (gI (gI s).2).1 (rNum (gI (gI s).2).2).1 acc1 (gSig st1).1.1 (gSig st1).1.2) (Value.slice aol1 acc1.length capl1)) : List Value).toArray 55 := by rw [show lay _ 4 _ = ((Pm.cells (Pm.mk (gI s).1 (gI (gI s).2).1 (rNum (gI (gI s).2).2).1 acc1 (gSig st1).1.1 (gSig st1).1.2) (Value.slice aol1 acc1.length capl1)) : List Value).toArray from rfl] at qc0; exact qc0
      clear qc0
      have Hx44 := hid qqx
      have zu7_3 := hm.size
      have HMu7_3 := hid hm
      have Cx45 := hid (Mod.goS (S' := (fun k => (R k) ∨ (k = u1_5.heap.size))) Cx43.out hm (fun _ h => Or.inl h) (by intro k h0 h2; exact Or.inr (h2)))
      clear hm Cx43
      clear act E qqx HBXL1
      have Hx46 := hid (Hx42.out.mod HMu7_3.out (by intro k h1 h2; have hb := HBR.out k h1; omega))
      clear Hx42 HMu7_3
      refine QSeq.nil (t' := [_, _, _, _]) rfl ?_
      have ha0 := HA0.out
      subst ha0
      clear HA0 hsz0 oe0 oe3
      simp only [putAll, Act.put, List.setIfInBounds_toArray, List.set_cons_zero, List.set_cons_succ, List.set_nil]
      go_upto_region 8 with (fail)
      generalize ha0 : Act.mk _ _ = a0
      have oe2 : a0.eval (.tmp 2) = .pointer (some ⟨w.heap.size, 0, none⟩) := by rw [← ha0]; rfl
      have oe3 : a0.eval (.tmp 3) = .pointer (some ⟨u1_5.heap.size, 0, none⟩) := by rw [← ha0]; rfl
      have hsz0 : a0.tmps.size = 38 := by rw [← ha0]; rfl
      have HA0 := hid ha0
      clear ha0
      refine wp_region_S 38 hsz0 [37, 39] [0, 1] ?_
      refine QSeq.pure rfl (.agg ((Pm.cells (Pm.mk (gI s).1 (gI (gI s).2).1 (rNum (gI (gI s).2).2).1 acc1 (gSig st1).1.1 (gSig st1).1.2) (Value.slice aol1 acc1.length capl1))).toArray) (fun E => ex_loadA rfl Try.underlying55 rfl (off := 0) (cs := (Pm.cells (Pm.mk (gI s).1 (gI (gI s).2).1 (rNum (gI (gI s).2).2).1 acc1 (gSig st1).1.1 (gSig st1).1.2) (Value.slice aol1 acc1.length capl1))) (by kernel_rfl) (E.v oe3) (Cs.whole Hx44.out)) ?_
      refine QSeq.go fun act E => ?_
      refine qc_store rfl (wanted_none rfl) rfl (HKP1_0.out.mod Cx45.out (by intro h2; rcases h2 with h2 | h2 <;> first | omega | (have hb := HBR.out _ h2; omega))) (off := 0) (vs := (Pm.cells (Pm.mk (gI s).1 (gI (gI s).2).1 (rNum (gI (gI s).2).2).1 acc1 (gSig st1).1.1 (gSig st1).1.2) (Value.slice aol1 acc1.length capl1))) (by kernel_rfl) (by intro u hu; simp only [Pm.cells, List.mem_cons, List.not_mem_nil, or_false] at hu; rcases hu with rfl | rfl | rfl | rfl | rfl | rfl <;> rfl) (by show 6 ≤ 6; decide) (E.v oe2) (by rw [show act.eval ((.tmp 37)) = _ from (E.d 0 0)]; rfl) ?_
      intro u8_1 qc0 hm
      have qB2 : Cs u8_1 (w.heap.size) ((Pm.cells (Pm.mk (gI s).1 (gI (gI s).2).1 (rNum (gI (gI s).2).2).1 acc1 (gSig st1).1.1 (gSig st1).1.2) (Value.slice aol1 acc1.length capl1)) : List Value).toArray 55 := by rw [show lay _ 0 _ = ((Pm.cells (Pm.mk (gI s).1 (gI (gI s).2).1 (rNum (gI (gI s).2).2).1 acc1 (gSig st1).1.1 (gSig st1).1.2) (Value.slice aol1 acc1.length capl1)) : List Value).toArray from lay_whole #[.int .i64 0, .int .i64 0, .int .u64 0, .slice none 0 0, .int .i64 0, .int .i64 0] _ rfl] at qc0; exact qc0
      clear qc0
      have Hx47 := hid qB2
      have zu8_1 := hm.size
      have Cx48 := hid (show Mod (fun k => (k = w.heap.size)) u7_3 u8_1 from hm)
      clear hm
      clear act E qB2 HKP1_0
      refine QSeq.nil (t' := [_, _]) rfl ?_
      have ha0 := HA0.out
      subst ha0
      clear HA0 hsz0 oe2 oe3
      simp only [putAll, Act.put, List.setIfInBounds_toArray, List.set_cons_zero, List.set_cons_succ, List.set_nil]
      have hse : (gPm s).2 = (gSig st1).2 := by show (gSig (gList gCe _).2).2 = _; rw [HGL1.out, HF1.out.1]
      go_wp2
      exact bodyPost_ret (results_cellA rfl _ _ w.heap.size ((Pm.cells (Pm.mk (gI s).1 (gI (gI s).2).1 (rNum (gI (gI s).2).2).1 acc1 (gSig st1).1.1 (gSig st1).1.2) (Value.slice aol1 acc1.length capl1))) rfl (fun k u hu => by rw [Hx47.out.cell]; simpa using hu) Try.underlying55 rfl (by kernel_rfl)) rfl ⟨_, (Pm.mk (gI s).1 (gI (gI s).2).1 (rNum (gI (gI s).2).2).1 acc1 (gSig st1).1.1 (gSig st1).1.2), rfl, ⟨_, rfl, ⟨gI_I64 _, gI_I64 _, rNum_lt (gI_suf.bytes (gI_suf.bytes HBY.out)), gI_I64 _, gI_I64 _⟩, ((HAL1.out.mod Cx45.out (by intro k h1 h2; rcases h2 with h2 | h2 <;> first | omega | (have hb := HBR.out k h2; omega)) (by intro k h1 h2; rcases h2 with h2 | h2 <;> first | omega | (have hb := HBR.out k h2; omega))).mod Cx48.out (by intro k h1 h2; omega) (by intro k h1 h2; omega)).rd.widen (by intro b h1; (try dsimp only at h1 ⊢); omega)⟩, (by rw [hse]; exact (Hx46.out.mod Cx48.out (by intro k h1 h2; have hb := HBR.out k h1; omega))), (fun h => by rw [hse] at h; have hne : st1 ≠ none := fun e => h (by rw [e]; exact gSig_suf.no); show Pm.mk _ _ _ _ _ _ = Pm.mk _ _ _ (gList gCe _).1 (gSig (gList gCe _).2).1.1 (gSig (gList gCe _).2).1.2; rw [HGL1.out, ← HF1.out.2 hne, HF1.out.1]), ((HML1.out.trans Cx45.out (by intro k h1 h2; rcases h2 with h2 | h2 <;> first | exact h2 | omega | (have hb := HBR.out k h2; omega))).trans Cx48.out (by intro k h1 h2; first | exact h2 | omega))⟩
set_option maxHeartbeats 4000000 in
theorem Ref_Pm : Gets PmR 74 35 (gW zPm gPm) := by
  intro R r s w hR hB hl
  have HRD := Lib.hid hR
  have HBR := Lib.hid hB
  have HBY := hid hR.bytes
  have HLN := Lib.hid hl
  clear hR hB hl
  go_enter Try.func35, Try.ntmps35
  go_upto_region 1 with (fail)
  obtain ⟨w1, hw1⟩ : ∃ zz, zz = (w.alloc (.cells #[.int .i64 0, .int .i64 0, .int .u64 0, .slice none 0 0, .int .i64 0, .int .i64 0] 55)) := ⟨_, rfl⟩
  change Code.wp _ _ _ _ (w.alloc (.cells #[.int .i64 0, .int .i64 0, .int .u64 0, .slice none 0 0, .int .i64 0, .int .i64 0] 55))
  rw [← hw1]
  have HB2 := hid (show Cs w1 (w.heap.size) #[.int .i64 0, .int .i64 0, .int .u64 0, .slice none 0 0, .int .i64 0, .int .i64 0] 55 by rw [hw1]; exact Cs.new _ _ _)
  have hm : Mod (fun _ => False) w w1 := by rw [hw1]; exact (Mod.refl _ _).alloc _
  have HM0 := hid (show Mod (fun k => (R k)) w w1 from hm.mono (fun _ _ h => h.elim))
  have hs1 : w1.heap.size = w.heap.size + 1 := by rw [hw1]; simp
  have Hx1 := hid (HRD.out.mod hm (fun _ _ h => h))
  clear HRD
  clear hw1 hm
  obtain ⟨s2, hp2⟩ : ∃ z, z = (gPm s).2 := ⟨_, rfl⟩
  have HP2 := hid hp2.symm
  clear hp2
  go_upto_region 1 with (fail)
  generalize ha0 : Act.mk _ _ = a0
  have oe0 : a0.eval (.tmp 0) = .pointer (some ⟨r, 0, none⟩) := by rw [← ha0]; rfl
  have hsz0 : a0.tmps.size = 12 := by rw [← ha0]; rfl
  have HA0 := hid ha0
  clear ha0
  refine wp_region_S 12 hsz0 [4, 5, 3, 15] [0, 1, 2, 3] ?_
  refine QSeq.pure rfl (.pointer (some ⟨r, 0, none⟩)) (fun E => ex_move rfl (E.v oe0)) ?_
  refine QSeq.go fun act E => ?_
  refine qc_callF (args := #[.pointer (some ⟨r, 0, none⟩)]) rfl (wanted_none rfl) rfl Try.func86 (args1 (E.d 0 0)) (dPm_U.to HP2.out Hx1.out (by intro k h1; have hb := HBR.out k h1; omega) HLN.out) ?_
  rintro e u1_1 ⟨cs1, y1, rfl, qx1, qrd, hy1, hm⟩
  have HY1 := Lib.hid hy1
  have hcl : cs1.length = 6 := PmR.len qx1
  have HCL := Lib.hid hcl
  have HOC := hid (PmR.one qx1)
  clear hcl hy1
  refine ⟨_, rfl, ?_⟩
  have Hx2 := hid (qx1.widen (R' := (fun k => (New w1 u1_1 k))) (fun _ h => h))
  have Hx3 := hid qrd
  have zu1_1 := hm.size
  have Cx4 := hid (show Mod (fun k => (R k)) w1 u1_1 from hm)
  clear hm
  clear act E qx1 qrd Hx1
  refine QSeq.go fun act E => ?_
  refine qc_alloc rfl (wanted_none rfl) rfl (z := [.int .i64 0, .int .i64 0, .int .u64 0, .slice none 0 0, .int .i64 0, .int .i64 0]) (by kernel_rfl) ?_
  intro u1_2 qqx hm
  have zl1_2 := qqx.lt
  have Hx5 := hid qqx
  have zu1_2 := hm.size
  have HMu1_2 := hid hm
  have Cx6 := hid (Cx4.out.goE hm)
  clear hm Cx4
  clear act E qqx
  refine QSeq.go fun act E => ?_
  have hlz : (cs1).length = List.length ([.int .i64 0, .int .i64 0, .int .u64 0, .slice none 0 0, .int .i64 0, .int .i64 0] : List Value) := HCL.out
  refine qc_store rfl (wanted_none rfl) rfl Hx5.out (off := 0) (vs := cs1) (by rw [hlz]; kernel_rfl) HOC.out (by rw [hlz]; exact Nat.le_of_eq (Nat.zero_add _)) (E.d 2 0) (by rw [show act.eval ((.tmp 5)) = _ from (E.d 1 1)]; rfl) ?_
  intro u1_3 qc0 hm
  have qqx : Cs u1_3 (u1_1.heap.size) (cs1 : List Value).toArray 55 := by rw [show lay _ 0 _ = (cs1 : List Value).toArray from lay_whole #[.int .i64 0, .int .i64 0, .int .u64 0, .slice none 0 0, .int .i64 0, .int .i64 0] _ (by rw [hlz]; rfl)] at qc0; exact qc0
  clear qc0 hlz
  have Hx7 := hid qqx
  have zu1_3 := hm.size
  have HMu1_3 := hid hm
  have Cx8 := hid (Mod.goS (S' := (fun k => (R k))) Cx6.out hm (fun _ h => h) (by intro k h0 h2; omega))
  clear hm Cx6
  clear act E qqx Hx5
  have Hx9 := hid ((Hx3.out.mod HMu1_2.out (fun _ _ h => h)).mod HMu1_3.out (by intro k h1 h2; have hb := HBR.out k h1; omega))
  have Hx10 := hid ((Hx2.out.mod HMu1_2.out (fun _ _ h => h)).mod HMu1_3.out (by intro k h1 h2; omega))
  clear Hx3 Hx2 HMu1_2 HMu1_3
  refine QSeq.nil (t' := [_, _, _, _]) rfl ?_
  have ha0 := HA0.out
  subst ha0
  clear HA0 hsz0 oe0
  simp only [putAll, Act.put, List.setIfInBounds_toArray, List.set_cons_zero, List.set_cons_succ, List.set_nil]
  cases s2 with
  | none =>
    go_upto_region 2 with (fail)
    generalize ha0 : Act.mk _ _ = a0
    have oe0 : a0.eval (.tmp 0) = .pointer (some ⟨r, 0, none⟩) := by rw [← ha0]; rfl
    have hsz0 : a0.tmps.size = 12 := by rw [← ha0]; rfl
    have HA0 := hid ha0
    clear ha0
    refine wp_region_S 12 hsz0 [6, 7, 8, 9] [0, 1, 2, 3] ?_
    refine QSeq.pure rfl (.pointer (some ⟨r, 0, none⟩)) (fun E => ex_move rfl (E.v oe0)) ?_
    refine QSeq.pure rfl (.pointer (some ⟨r, 0, none⟩)) (fun E => ex_nil rfl (E.d 0 0)) ?_
    refine QSeq.pure rfl (.pointer (some ⟨r, 1, none⟩)) (fun E => ex_field rfl Try.underlying74 rfl (by kernel_rfl) (E.d 1 0)) ?_
    refine QSeq.pure rfl (.bool true) (fun E => ex_load1 rfl Try.underlying4 rfl (E.d 2 0) (RrR.bad Hx9.out)) ?_
    refine QSeq.nil (t' := [_, _, _, _]) rfl ?_
    have ha0 := HA0.out
    subst ha0
    clear HA0 hsz0 oe0
    simp only [putAll, Act.put, List.setIfInBounds_toArray, List.set_cons_zero, List.set_cons_succ]
    go_upto_region 3 with (fail)
    generalize ha0 : Act.mk _ _ = a0
    have oe2 : a0.eval (.tmp 2) = .pointer (some ⟨w.heap.size, 0, none⟩) := by rw [← ha0]; rfl
    have hsz0 : a0.tmps.size = 12 := by rw [← ha0]; rfl
    have HA0 := hid ha0
    clear ha0
    refine wp_region_S 12 hsz0 [10, 13] [0, 1] ?_
    refine QSeq.pure rfl (.agg #[.int .i64 0, .int .i64 0, .int .u64 0, .slice none 0 0, .int .i64 0, .int .i64 0]) (fun E => ex_build0 rfl (r := #[.int .i64 0, .int .i64 0, .int .u64 0, .slice none 0 0, .int .i64 0, .int .i64 0]) (by kernel_rfl)) ?_
    refine QSeq.go fun act E => ?_
    refine qc_store rfl (wanted_none rfl) rfl (HB2.out.mod Cx8.out (by intro h2; first | omega | (have hb := HBR.out _ h2; omega))) (off := 0) (vs := [.int .i64 0, .int .i64 0, .int .u64 0, .slice none 0 0, .int .i64 0, .int .i64 0]) (by kernel_rfl) (PmR.one (zPm_rd (fun _ => False) w)) (by show 6 ≤ 6; exact Nat.le_refl _) (E.v oe2) (by rw [show act.eval ((.tmp 10)) = _ from (E.d 0 0)]; rfl) ?_
    intro u3_1 qc0 hm
    have qB2 : Cs u3_1 (w.heap.size) #[.int .i64 0, .int .i64 0, .int .u64 0, .slice none 0 0, .int .i64 0, .int .i64 0] 55 := by rw [show lay _ 0 _ = #[.int .i64 0, .int .i64 0, .int .u64 0, .slice none 0 0, .int .i64 0, .int .i64 0] from lay_whole #[.int .i64 0, .int .i64 0, .int .u64 0, .slice none 0 0, .int .i64 0, .int .i64 0] [.int .i64 0, .int .i64 0, .int .u64 0, .slice none 0 0, .int .i64 0, .int .i64 0] rfl] at qc0; exact qc0
    clear qc0
    have Hx11 := hid qB2
    have zu3_1 := hm.size
    have Cx12 := hid (show Mod (fun k => (k = w.heap.size)) u1_3 u3_1 from hm)
    clear hm
    clear act E qB2 HB2
    refine QSeq.nil (t' := [_, _]) rfl ?_
    have ha0 := HA0.out
    subst ha0
    clear HA0 hsz0 oe2
    simp only [putAll, Act.put, List.setIfInBounds_toArray, List.set_cons_zero, List.set_cons_succ, List.set_nil]
    go_wp2
    exact bodyPost_ret (results_cellA rfl _ _ w.heap.size ([.int .i64 0, .int .i64 0, .int .u64 0, .slice none 0 0, .int .i64 0, .int .i64 0]) rfl (fun k u hu => by rw [Hx11.out.cell]; simpa using hu) Try.underlying55 rfl (by kernel_rfl)) rfl ⟨_, rfl, (by show PmR.rd _ _ _ (if (gPm s).2.isSome then _ else _); rw [HP2.out]; exact zPm_rd _ _), (by show RrR _ _ _ _ (gPm s).2; rw [HP2.out]; exact (Hx9.out.mod Cx12.out (by intro k h1 h2; have hb := HBR.out k h1; omega))), ((HM0.out.trans Cx8.out (fun _ _ h => h)).trans Cx12.out (by intro k h1 h2; first | exact h2 | omega))⟩
  | some l2 =>
    go_upto_region 2 with (fail)
    generalize ha0 : Act.mk _ _ = a0
    have oe0 : a0.eval (.tmp 0) = .pointer (some ⟨r, 0, none⟩) := by rw [← ha0]; rfl
    have hsz0 : a0.tmps.size = 12 := by rw [← ha0]; rfl
    have HA0 := hid ha0
    clear ha0
    refine wp_region_S 12 hsz0 [6, 7, 8, 9] [0, 1, 2, 3] ?_
    refine QSeq.pure rfl (.pointer (some ⟨r, 0, none⟩)) (fun E => ex_move rfl (E.v oe0)) ?_
    refine QSeq.pure rfl (.pointer (some ⟨r, 0, none⟩)) (fun E => ex_nil rfl (E.d 0 0)) ?_
    refine QSeq.pure rfl (.pointer (some ⟨r, 1, none⟩)) (fun E => ex_field rfl Try.underlying74 rfl (by kernel_rfl) (E.d 1 0)) ?_
    refine QSeq.pure rfl (.bool false) (fun E => ex_load1 rfl Try.underlying4 rfl (E.d 2 0) (RrR.bad Hx9.out)) ?_
    refine QSeq.nil (t' := [_, _, _, _]) rfl ?_
    have ha0 := HA0.out
    subst ha0
    clear HA0 hsz0 oe0
    simp only [putAll, Act.put, List.setIfInBounds_toArray, List.set_cons_zero, List.set_cons_succ]
    go_upto_region 4 with (fail)
    generalize ha0 : Act.mk _ _ = a0
    have oe2 : a0.eval (.tmp 2) = .pointer (some ⟨w.heap.size, 0, none⟩) := by rw [← ha0]; rfl
    have oe3 : a0.eval (.tmp 3) = .pointer (some ⟨u1_1.heap.size, 0, none⟩) := by rw [← ha0]; rfl
    have hsz0 : a0.tmps.size = 12 := by rw [← ha0]; rfl
    have HA0 := hid ha0
    clear ha0
    refine wp_region_S 12 hsz0 [11, 13] [0, 1] ?_
    refine QSeq.pure rfl (.agg cs1.toArray) (fun E => ex_loadA rfl Try.underlying55 rfl (off := 0) (cs := cs1) (by rw [HCL.out]; kernel_rfl) (E.v oe3) (Cs.whole Hx7.out)) ?_
    refine QSeq.go fun act E => ?_
    refine qc_store rfl (wanted_none rfl) rfl (HB2.out.mod Cx8.out (by intro h2; first | omega | (have hb := HBR.out _ h2; omega))) (off := 0) (vs := cs1) (by rw [HCL.out]; kernel_rfl) HOC.out (by rw [HCL.out]; decide) (E.v oe2) (by rw [show act.eval ((.tmp 11)) = _ from (E.d 0 0)]; rfl) ?_
    intro u4_1 qc0 hm
    have qB2 : Cs u4_1 (w.heap.size) (cs1 : List Value).toArray 55 := by rw [show lay _ 0 _ = (cs1 : List Value).toArray from lay_whole _ _ (by rw [HCL.out]; rfl)] at qc0; exact qc0
    clear qc0
    have Hx13 := hid qB2
    have zu4_1 := hm.size
    have Cx14 := hid (show Mod (fun k => (k = w.heap.size)) u1_3 u4_1 from hm)
    clear hm
    clear act E qB2 HB2
    refine QSeq.nil (t' := [_, _]) rfl ?_
    have ha0 := HA0.out
    subst ha0
    clear HA0 hsz0 oe2 oe3
    simp only [putAll, Act.put, List.setIfInBounds_toArray, List.set_cons_zero, List.set_cons_succ, List.set_nil]
    go_wp2
    exact bodyPost_ret (results_cellA rfl _ _ w.heap.size (cs1) rfl (fun k u hu => by rw [Hx13.out.cell]; simpa using hu) Try.underlying55 rfl (by rw [HCL.out]; kernel_rfl)) rfl ⟨_, rfl, (by show PmR.rd _ _ _ (if (gPm s).2.isSome then (gPm s).1 else _); rw [← HY1.out (by simp), HP2.out]; exact ((Hx10.out.mod Cx14.out (by intro k h1 h2; omega)).widen (R' := (fun k => New w u4_1 k)) (by intro k h1; omega))), (by show RrR _ _ _ _ (gPm s).2; rw [HP2.out]; exact (Hx9.out.mod Cx14.out (by intro k h1 h2; have hb := HBR.out k h1; omega))), ((HM0.out.trans Cx8.out (fun _ _ h => h)).trans Cx14.out (by intro k h1 h2; first | exact h2 | omega))⟩
set_option maxHeartbeats 16000000 in
theorem dBa_U : GetsU BaR 74 91 gBa := by
  intro R r s w hR hB hl
  have HRD := Lib.hid hR
  have HBR := Lib.hid hB
  have HBY := hid hR.bytes
  have HLN := Lib.hid hl
  clear hR hB hl
  go_enter Try.func91, Try.ntmps91
  go_upto_region 1 with (fail)
  obtain ⟨w1, hw1⟩ : ∃ zz, zz = (w.alloc (.cells #[.int .i64 0, .int .u64 0, .slice none 0 0, .slice none 0 0, .slice none 0 0] 60)) := ⟨_, rfl⟩
  change Code.wp _ _ _ _ (w.alloc (.cells #[.int .i64 0, .int .u64 0, .slice none 0 0, .slice none 0 0, .slice none 0 0] 60))
  rw [← hw1]
  have HB2 := hid (show Cs w1 (w.heap.size) #[.int .i64 0, .int .u64 0, .slice none 0 0, .slice none 0 0, .slice none 0 0] 60 by rw [hw1]; exact Cs.new _ _ _)
  have hm : Mod (fun _ => False) w w1 := by rw [hw1]; exact (Mod.refl _ _).alloc _
  have HM0 := hid (show Mod (fun k => (R k)) w w1 from hm.mono (fun _ _ h => h.elim))
  have hs1 : w1.heap.size = w.heap.size + 1 := by rw [hw1]; simp
  have Hx1 := hid (HRD.out.mod hm (fun _ _ h => h))
  clear HRD
  clear hw1 hm
  go_upto_region 1 with (fail)
  generalize ha0 : Act.mk _ _ = a0
  have oe0 : a0.eval (.tmp 0) = .pointer (some ⟨r, 0, none⟩) := by rw [← ha0]; rfl
  have hsz0 : a0.tmps.size = 103 := by rw [← ha0]; rfl
  have HA0 := hid ha0
  clear ha0
  refine wp_region_S 103 hsz0 [11, 12, 13, 14, 15, 3, 109] [0, 1, 2, 3, 4, 5, 6] ?_
  refine QSeq.pure rfl (.pointer (some ⟨r, 0, none⟩)) (fun E => ex_move rfl (E.v oe0)) ?_
  refine QSeq.go fun act E => ?_
  refine qc_callF (args := #[.pointer (some ⟨r, 0, none⟩), .int .i64 1099511627776]) rfl (wanted_none rfl) rfl Try.func113 (args2 (E.d 0 0) rfl) (dI_Q Hx1.out) ?_
  rintro e u1_1 ⟨rfl, qrd, hm⟩
  refine ⟨_, rfl, ?_⟩
  have Hx2 := hid qrd
  have zu1_1 := hm.size
  have Cx3 := hid (show Mod (fun k => (R k)) w1 u1_1 from hm)
  clear hm
  clear act E qrd Hx1
  refine QSeq.pure rfl (.pointer (some ⟨r, 0, none⟩)) (fun E => ex_move rfl (E.v oe0)) ?_
  refine QSeq.go fun act E => ?_
  refine qc_callF (args := #[.pointer (some ⟨r, 0, none⟩)]) rfl (wanted_none rfl) rfl Try.func119 (args1 (E.d 2 0)) (RefRNum_R Hx2.out) ?_
  rintro e u1_3 ⟨rfl, qrd, hm⟩
  refine ⟨_, rfl, ?_⟩
  have Hx4 := hid qrd
  have zu1_3 := hm.size
  have HMu1_3 := hid hm
  have Cx5 := hid (Mod.goS (S' := (fun k => (R k))) Cx3.out hm (fun _ h => h) (by intro k h0 h2; exact h2))
  clear hm Cx3
  clear act E qrd Hx2
  refine QSeq.go fun act E => ?_
  refine qc_run rfl (wanted_none rfl) (v := .agg ((Ba.cells (Ba.mk (gI s).1 (rNum (gI s).2).1 [] [] []) (Value.slice none 0 0) (Value.slice none 0 0) (Value.slice none 0 0)) : List Value).toArray) (ex_build rfl (z := [.int .i64 0, .int .u64 0, .slice none 0 0, .slice none 0 0, .slice none 0 0]) (places := [(0, 1), (1, 1), (2, 1), (3, 1), (4, 1)]) (by kernel_rfl) (parts := [(0, .int .i64 (gI s).1), (1, .int .u64 ((rNum (gI s).2).1 : Nat))]) (by simp only [List.map_toArray, List.map_cons, List.map_nil, show act.eval (.tmp 12) = .int .i64 (gI s).1 from (E.d 1 2), show act.eval (.tmp 14) = .int .u64 ((rNum (gI s).2).1 : Nat) from (E.d 3 0)]; try rfl) (r := (Ba.cells (Ba.mk (gI s).1 (rNum (gI s).2).1 [] [] []) (Value.slice none 0 0) (Value.slice none 0 0) (Value.slice none 0 0))) (by exact laid_segs (ns := [1, 1, 1, 1, 1]) rfl [(0, .int .i64 (gI s).1), (1, .int .u64 ((rNum (gI s).2).1 : Nat))] [[.int .i64 0], [.int .u64 0], [.slice none 0 0], [.slice none 0 0], [.slice none 0 0]] rfl ⟨rfl, rfl, trivial⟩)) ?_
  clear act E
  refine QSeq.go fun act E => ?_
  refine qc_alloc rfl (wanted_none rfl) rfl (z := [.int .i64 0, .int .u64 0, .slice none 0 0, .slice none 0 0, .slice none 0 0]) (by kernel_rfl) ?_
  intro u1_5 qqx hm
  have zl1_5 := qqx.lt
  have Hx6 := hid qqx
  have zu1_5 := hm.size
  have HMu1_5 := hid hm
  have Cx7 := hid (Cx5.out.goE hm)
  clear hm Cx5
  clear act E qqx
  refine QSeq.go fun act E => ?_
  have hlz : ((Ba.cells (Ba.mk (gI s).1 (rNum (gI s).2).1 [] [] []) (Value.slice none 0 0) (Value.slice none 0 0) (Value.slice none 0 0))).length = List.length ([.int .i64 0, .int .u64 0, .slice none 0 0, .slice none 0 0, .slice none 0 0] : List Value) := rfl
  refine qc_store rfl (wanted_none rfl) rfl Hx6.out (off := 0) (vs := (Ba.cells (Ba.mk (gI s).1 (rNum (gI s).2).1 [] [] []) (Value.slice none 0 0) (Value.slice none 0 0) (Value.slice none 0 0))) (by rw [hlz]; kernel_rfl) (by intro u hu; simp only [Ba.cells, List.mem_cons, List.not_mem_nil, or_false] at hu; rcases hu with rfl | rfl | rfl | rfl | rfl <;> rfl) (by rw [hlz]; exact Nat.le_of_eq (Nat.zero_add _)) (E.d 5 0) (by rw [show act.eval ((.tmp 15)) = _ from (E.d 4 1)]; rfl) ?_
  intro u1_6 qc0 hm
  have qqx : Cs u1_6 (u1_3.heap.size) ((Ba.cells (Ba.mk (gI s).1 (rNum (gI s).2).1 [] [] []) (Value.slice none 0 0) (Value.slice none 0 0) (Value.slice none 0 0)) : List Value).toArray 60 := by rw [show lay _ 0 _ = ((Ba.cells (Ba.mk (gI s).1 (rNum (gI s).2).1 [] [] []) (Value.slice none 0 0) (Value.slice none 0 0) (Value.slice none 0 0)) : List Value).toArray from lay_whole #[.int .i64 0, .int .u64 0, .slice none 0 0, .slice none 0 0, .slice none 0 0] _ (by rw [hlz]; rfl)] at qc0; exact qc0
  clear qc0 hlz
  have Hx8 := hid qqx
  have zu1_6 := hm.size
  have HMu1_6 := hid hm
  have Cx9 := hid (Mod.goS (S' := (fun k => (R k))) Cx7.out hm (fun _ h => h) (by intro k h0 h2; omega))
  clear hm Cx7
  clear act E qqx Hx6
  have Hx10 := hid ((Hx4.out.mod HMu1_5.out (fun _ _ h => h)).mod HMu1_6.out (by intro k h1 h2; have hb := HBR.out k h1; omega))
  clear Hx4 HMu1_3 HMu1_5 HMu1_6
  refine QSeq.nil (t' := [_, _, _, _, _, _, _]) rfl ?_
  have ha0 := HA0.out
  subst ha0
  clear HA0 hsz0 oe0
  simp only [putAll, Act.put, List.setIfInBounds_toArray, List.set_cons_zero, List.set_cons_succ, List.set_nil]
  go_upto_region 2 with (fail)
  generalize ha0 : Act.mk _ _ = a0
  have oe0 : a0.eval (.tmp 0) = .pointer (some ⟨r, 0, none⟩) := by rw [← ha0]; rfl
  have hsz0 : a0.tmps.size = 103 := by rw [← ha0]; rfl
  have HA0 := hid ha0
  clear ha0
  refine wp_region_S 103 hsz0 [16, 17, 4] [0, 1, 2] ?_
  refine QSeq.pure rfl (.pointer (some ⟨r, 0, none⟩)) (fun E => ex_move rfl (E.v oe0)) ?_
  refine QSeq.go fun act E => ?_
  refine qc_callF (args := #[.pointer (some ⟨r, 0, none⟩), .int .i64 100]) rfl (wanted_none rfl) rfl Try.func113 (args2 (E.d 0 0) rfl) (RefRInt_R Hx10.out (by decide)) ?_
  rintro e u2_1 ⟨rfl, qrd, hm⟩
  refine ⟨_, rfl, ?_⟩
  have Hx11 := hid qrd
  have zu2_1 := hm.size
  have Cx12 := hid (show Mod (fun k => (R k)) u1_6 u2_1 from hm)
  clear hm
  clear act E qrd Hx10
  refine QSeq.pure rfl (.int .i64 ((rInt 100 (rNum (gI s).2).2).1 : Nat)) (fun E => ex_assign rfl (E.d 1 0)) ?_
  refine QSeq.nil (t' := [_, _, _]) rfl ?_
  have ha0 := HA0.out
  subst ha0
  clear HA0 hsz0 oe0
  simp only [putAll, Act.put, List.setIfInBounds_toArray, List.set_cons_zero, List.set_cons_succ]
  obtain ⟨n1, hn⟩ : ∃ n, n = (rInt 100 (rNum (gI s).2).2).1 := ⟨_, rfl⟩
  obtain ⟨s1, hs1⟩ : ∃ z, z = (rInt 100 (rNum (gI s).2).2).2 := ⟨_, rfl⟩
  have hn100_1 : n1 ≤ 100 := by have := rInt_le 100 (rNum (gI s).2).2; omega
  have HLS1 := hid (show (s1.getD []).length ≤ 900000 by rw [hs1]; exact Nat.le_trans ((rInt_suf 100).len _) (Nat.le_trans (rNum_suf.len _) (Nat.le_trans (gI_suf.len _) HLN.out)))
  have HGL1 := hid (show gList gPm (rNum (gI s).2).2 = gItems gPm n1 [] s1 by rw [hn, hs1]; rfl)
  rw [← hn]
  have hq := Hx11.out
  rw [← hs1] at hq
  have HR1 := Lib.hid hq
  clear hq hn hs1 Hx11
  go_upto_region 3 with (fail)
  generalize ha0 : Act.mk _ _ = a0
  have hsz0 : a0.tmps.size = 103 := by rw [← ha0]; rfl
  have HA0 := hid ha0
  clear ha0
  refine wp_region_S 103 hsz0 [5] [0] ?_
  refine QSeq.pure rfl (.int .i64 0) (fun E => ex_assign rfl rfl) ?_
  refine QSeq.nil (t' := [_]) rfl ?_
  have ha0 := HA0.out
  subst ha0
  clear HA0 hsz0
  simp only [putAll, Act.put, List.setIfInBounds_toArray, List.set_cons_zero, List.set_cons_succ]
  go_wp2
  go_loopw [5] (fun ti wr => ∃ (k : Nat) (acc : List Pm) (st : RSt) (v : Value), ti = .int .i64 (k : Int) ∧ k ≤ n1 ∧ acc.length = k ∧ (st.getD []).length ≤ 900000 ∧ Ru gPm n1 s1 k acc st ∧ u2_1.heap.size ≤ wr.heap.size ∧ OwS PmR 55 (fun b => u2_1.heap.size ≤ b ∧ b < wr.heap.size) (fun b => u2_1.heap.size ≤ b ∧ b < wr.heap.size) wr v acc ∧ Cs wr (u1_3.heap.size) ((Ba.cells (Ba.mk (gI s).1 (rNum (gI s).2).1 acc [] []) (v) (Value.slice none 0 0) (Value.slice none 0 0)) : List Value).toArray 60 ∧ RrR 74 R wr r st ∧ Cs wr (w.heap.size) #[.int .i64 0, .int .u64 0, .slice none 0 0, .slice none 0 0, .slice none 0 0] 60 ∧ Mod R w wr) (fun ti _ => n1 - (intOf ti).toNat)
  case atStart => exact ⟨0, [], s1, .slice none 0 0, rfl, Nat.zero_le _, rfl, HLS1.out, Ru.start gPm_suf _ _, Nat.le_refl _, OwS.nil _ _ _ _ _, (Hx8.out.mod Cx12.out (by intro h2; first | omega | (have hb := HBR.out _ h2; omega))), HR1.out, ((HB2.out.mod Cx9.out (by intro h2; first | omega | (have hb := HBR.out _ h2; omega))).mod Cx12.out (by intro h2; first | omega | (have hb := HBR.out _ h2; omega))), ((HM0.out.trans Cx9.out (fun _ _ h => h)).trans Cx12.out (fun _ _ h => h))⟩
  case round =>
    obtain ⟨k1, acc1, st1, v1, rfl, hk, hka, hst, hru, hz, ha, hbx, hr, hk_0, hm⟩ := hrel
    obtain ⟨wl1, rfl⟩ : ∃ x, x = wr := ⟨_, rfl⟩
    obtain ⟨aol1, capl1, rfl⟩ := ha.shape
    have HAL1 := Lib.hid ha
    have HBXL1 := Lib.hid hbx
    have HRL1 := Lib.hid hr
    have HML1 := Lib.hid hm
    have HST1 := Lib.hid hst
    have HRU1 := Lib.hid hru
    have HKA1 := Lib.hid hka
    have HKP1_0 := Lib.hid hk_0
    clear ha hbx hr hm hst hru hka hk_0 HR1 HB2 HM0 Hx8
    by_cases hgo1 : k1 < n1 ∧ st1 ≠ none
    · obtain ⟨hlt1, hsn1⟩ := hgo1
      cases st1 with
      | none => exact absurd rfl hsn1
      | some l1 =>
        go_upto_region 4 with (fail)
        generalize ha0 : Act.mk _ _ = a0
        have oe0 : a0.eval (.tmp 0) = .pointer (some ⟨r, 0, none⟩) := by rw [← ha0]; rfl
        have oe4 : a0.eval (.tmp 4) = .int .i64 ((n1 : Nat) : Int) := by rw [← ha0]; rfl
        have oe5 : a0.eval (.tmp 5) = .int .i64 ((k1 : Nat) : Int) := by rw [← ha0]; rfl
        have hsz0 : a0.tmps.size = 103 := by rw [← ha0]; rfl
        have HA0 := hid ha0
        clear ha0
        refine wp_region_S 103 hsz0 [18, 19, 20, 21, 22, 23, 24, 25, 26, 27] [0, 1, 2, 3, 4, 5, 6, 7, 8, 9] ?_
        refine QSeq.pure rfl (.int .i64 ((k1 : Nat) : Int)) (fun E => ex_move rfl (E.v oe5)) ?_
        refine QSeq.pure rfl (.int .i64 ((n1 : Nat) : Int)) (fun E => ex_move rfl (E.v oe4)) ?_
        refine QSeq.pure rfl (.bool true) (fun E => ex_binE rfl (E.d 0 1) (E.d 1 0) (guard_ints _ _ _ _ _ _) (run_lss_i _ _ _ Try.underlying3) (congrArg Value.bool (decide_eq_true (by omega)))) ?_
        refine QSeq.pure rfl (.bool true) (fun E => ex_move rfl (E.d 2 0)) ?_
        refine QSeq.pureG rfl (.pointer (some ⟨r, 0, none⟩)) (fun E => ((wanted_of rfl rfl (E.sz 21 (by decide)) (E.d 3 0)).trans rfl)) (fun E => ex_move rfl (E.v oe0)) ?_
        refine QSeq.pureG rfl (.pointer (some ⟨r, 0, none⟩)) (fun E => ((wanted_of rfl rfl (E.sz 21 (by decide)) (E.d 3 1)).trans rfl)) (fun E => ex_nil rfl (E.d 4 0)) ?_
        refine QSeq.pureG rfl (.pointer (some ⟨r, 1, none⟩)) (fun E => ((wanted_of rfl rfl (E.sz 21 (by decide)) (E.d 3 2)).trans rfl)) (fun E => ex_field rfl Try.underlying74 rfl (by kernel_rfl) (E.d 5 0)) ?_
        refine QSeq.pureG rfl (.bool false) (fun E => ((wanted_of rfl rfl (E.sz 21 (by decide)) (E.d 3 3)).trans rfl)) (fun E => ex_load1 rfl Try.underlying4 rfl (E.d 6 0) (RrR.bad HRL1.out)) ?_
        refine QSeq.pureG rfl (.bool true) (fun E => ((wanted_of rfl rfl (E.sz 21 (by decide)) (E.d 3 4)).trans rfl)) (fun E => ex_not rfl (E.d 7 0)) ?_
        refine QSeq.pure rfl (.bool true) (fun E => ex_pick rfl (E.d 3 5) (E.d 8 0) rfl) ?_
        refine QSeq.nil (t' := [_, _, _, _, _, _, _, _, _, _]) rfl ?_
        have ha0 := HA0.out
        subst ha0
        clear HA0 hsz0 oe0 oe4 oe5
        simp only [putAll, Act.put, List.setIfInBounds_toArray, List.set_cons_zero, List.set_cons_succ]
        obtain ⟨st2_1, hp2⟩ : ∃ z, z = (gPm (some l1)).2 := ⟨_, rfl⟩
        have HP2_1 := hid hp2.symm
        clear hp2
        have HST2_1 := hid (show (st2_1.getD []).length ≤ 900000 by rw [← HP2_1.out]; exact Nat.le_trans (gPm_suf.len _) HST1.out)
        go_upto_region 6 with (fail)
        generalize ha0 : Act.mk _ _ = a0
        have oe0 : a0.eval (.tmp 0) = .pointer (some ⟨r, 0, none⟩) := by rw [← ha0]; rfl
        have oe3 : a0.eval (.tmp 3) = .pointer (some ⟨u1_3.heap.size, 0, none⟩) := by rw [← ha0]; rfl
        have hsz0 : a0.tmps.size = 103 := by rw [← ha0]; rfl
        have HA0 := hid ha0
        clear ha0
        refine wp_region_Q1 103 hsz0 [30, 31, 32, 33, 34, 35, 36, 110] (fun k => (R k) ∨ (New u2_1 wl1 k) ∨ (k = u1_3.heap.size)) (fun k j => (k = 0 ∧ ((R j))) ∨ (k = 2 ∧ ((New u2_1 wl1 j))) ∨ (k = 3 ∧ ((j = u1_3.heap.size)))) (by intro k j h; (try dsimp only at h ⊢); rcases h with ⟨-, h⟩ | ⟨-, h⟩ | ⟨-, h⟩; (exact Or.inl (h)); (exact Or.inr (Or.inl (h))); (exact Or.inr (Or.inr (h)))) [qi (.pointer (some ⟨u1_3.heap.size, 2, none⟩)), qi (.slice aol1 acc1.length capl1), qi (.pointer (some ⟨r, 0, none⟩)), qv 0, qv 1, qv 2, qi (.pointer (some ⟨u1_3.heap.size, 2, none⟩)), qv 3] ⟨qi_stable, qi_stable, qi_stable, qv_stable, qv_stable, qv_stable, qi_stable, qv_stable, trivial⟩ [3, 4, 5, 7] ⟨?_, ?_, ?_, ?_, ?_, ?_, ?_, ?_, trivial⟩ ?_
        · exact stq (fun E => ex_field rfl Try.underlying60 rfl (by kernel_rfl) (E.v oe3))
        · refine stepq_env rfl rfl rfl fun _ _ _ _ _ _ hm0 _ _ hd hub _ => ?_
          have h0 := hd ⟨0, .data⟩ (by simp) rfl _ rfl
          refine qe_run rfl (wanted_none rfl) (ex_load1 rfl Try.underlying56 rfl h0 (Cs.lit1 (HBXL1.out.mod hm0 (by intro h2; have hu := hub 3 7 rfl (by kernel_rfl); rcases h2 with ⟨h0, kk, hk, h2⟩ | h2 <;> first | omega | (rcases h2 with ⟨hkk, h2⟩ | ⟨hkk, h2⟩ | ⟨hkk, h2⟩ <;> first | omega | (have hb := HBR.out _ h2; omega)))) rfl)) QE.refl ?_
          rfl
        · exact stq (fun E => ex_move rfl (E.v oe0))
        · exact stepq_chain rfl
        · exact stepq_chain rfl
        · exact stepq_chain rfl
        · exact stq (fun E => ex_field rfl Try.underlying60 rfl (by kernel_rfl) (E.v oe3))
        · exact stepq_chain rfl
        intro u6_0 hr
        have zu6_0 := hr.size
        have Cx13 := hid (hr.new (S := (fun k => (R k) ∨ (New u2_1 wl1 k) ∨ (k = u1_3.heap.size))))
        have Hx14 := hid (HAL1.out.mod hr (by intro k h1 h2; omega) (by intro k h1 h2; omega))
        clear HAL1
        have Hx15 := hid (HBXL1.out.mod hr (by intro h2; omega))
        clear HBXL1
        have Hx16 := hid (HRL1.out.mod hr (by intro k h1 h2; have hb := HBR.out k h1; omega))
        clear HRL1
        clear hr
        refine QChain.go fun Z act E => ?_
        refine qc_callF (args := #[.pointer (some ⟨r, 0, none⟩)]) rfl (wanted_none rfl) rfl Try.func86 (args1 (E.d 2)) (dPm_U.to HP2_1.out Hx16.out (by intro k h1; have hb := HBR.out k h1; omega) HST1.out) ?_
        rintro e u6_1a ⟨cs1, y1, rfl, qel, qrd, hy1, hm⟩
        have HY1 := Lib.hid hy1
        clear hy1
        have zu6_1a := hm.size
        refine ⟨_, rfl, hm.mono (by intro k hk h; first | omega | exact Or.inl ⟨(by have hb := HBR.out k h; omega), Or.inl ⟨rfl, h⟩⟩), (fun _ => rfl), ?_⟩
        intro u6_1 hr
        have zu6_1 := hr.size
        have Hx17 := hid ((qel.widen (R' := (fun k => (New u6_0 u6_1a k))) (fun _ h => h)).mod hr (by intro k h1 h2; omega))
        have Hx18 := hid (qrd.mod hr (by intro k h1 h2; have hb := HBR.out k h1; omega))
        have hmr := hm.two hr
        have Hx19 := hid (Hx14.out.mod hmr (by intro k h1 h2; rcases h2 with h2 | h2 <;> first | omega | (have hb := HBR.out k h2; omega)) (by intro k h1 h2; rcases h2 with h2 | h2 <;> first | omega | (have hb := HBR.out k h2; omega)))
        have Hx20 := hid (Hx15.out.mod hmr (by intro h2; rcases h2 with h2 | h2 <;> first | omega | (have hb := HBR.out _ h2; omega)))
        clear Hx14 Hx15
        clear hmr
        have Cx21 := hid (Cx13.out.goM hm hr (by intro k h0 h2; first | omega | exact Or.inl h2 | exact Or.inr (Or.inl h2) | exact Or.inr (Or.inr (h2))))
        clear Cx13 hm hr Z act E qel qrd Hx16
        refine QChain.go fun Z act E => ?_
        refine qc_buildS (e := 55) (cs := cs1) (zc := [.int .i64 0, .int .i64 0, .int .u64 0, .slice none 0 0, .int .i64 0, .int .i64 0]) (sz := 6) rfl (wanted_none rfl) rfl Try.underlying56 (by kernel_rfl) rfl (by decide) (by decide) (chv (v := .agg cs1.toArray) (E.d 3)) (PmR.len Hx17.out) ?_
        intro u6_2a qrow hm
        have zl6_4 := qrow.lt
        have zu6_2a := hm.size
        refine ⟨hm.mono (fun _ _ h => h.elim), (fun _ => rfl), ?_⟩
        intro u6_2 hr
        have zu6_2 := hr.size
        have Hx22 := hid (qrow.mod hr (by intro h2; omega))
        have hmr := Mod.after hm hr
        have Hx23 := hid (Hx19.out.mod hmr (by intro k h1 h2; omega) (by intro k h1 h2; omega))
        have Hx24 := hid (Hx20.out.mod hmr (by intro h2; omega))
        have Hx25 := hid (Hx18.out.mod hmr (by intro k h1 h2; have hb := HBR.out k h1; omega))
        have Hx26 := hid (Hx17.out.mod hmr (by intro k h1 h2; omega))
        clear Hx19 Hx20 Hx18 Hx17
        clear hmr
        have Cx27 := hid (Cx21.out.go hm hr)
        clear Cx21 hm hr Z act E qrow
        refine QChain.go fun Z act E => ?_
        refine qc_appS (A := PmR) (e := 55) rfl (wanted_none rfl) rfl (.agg #[.int .i64 0, .int .i64 0, .int .u64 0, .slice none 0 0, .int .i64 0, .int .i64 0]) 64 Try.underlying56 info_Pm (by rfl) (of_decide_eq_true (by kernel_rfl)) (E.d 1) (chv (v := .slice (some ⟨u6_1.heap.size, 0, none⟩) 1 1) (E.d 4)) (Hx23.out) (RdS.single (R := (fun k => (New u6_0 u6_1a k) ∨ (k = u6_1.heap.size))) Hx22.out (Hx26.out.widen (by intro k h1; first | omega | exact h1.elim | exact Or.inl h1 | exact Or.inr (h1))) (by first | exact Or.inr rfl | exact Or.inr (Or.inr rfl) | (right; omega) | (right; right; omega))) (by intro k h1 h2; omega) (by rw [HKA1.out]; simp only [List.length_cons, List.length_nil]; omega) (by rw [HKA1.out]; simp only [List.length_cons, List.length_nil]; rw [maxLen_val]; omega) ?_
        intro ao12 cap12 u6_3a qacc1 hm
        have zu6_3a := hm.size
        refine ⟨hm.mono (by intro k hk h; omega), (fun _ => rfl), ?_⟩
        intro u6_3 hr
        have zu6_3 := hr.size
        have Hx28 := hid ((qacc1.widen (R' := (fun k => (New u2_1 wl1 k) ∨ (New u6_2 u6_3a k))) (E' := (fun k => (New u2_1 wl1 k) ∨ (New u6_0 u6_1a k) ∨ (k = u6_1.heap.size))) (fun _ h => h) (by intro k h1; rcases h1 with h1 | (h1 | h1) <;> first | omega | exact h1.elim | exact Or.inl h1 | exact Or.inr (Or.inl h1) | exact Or.inr (Or.inr (h1)))).mod hr (by intro k h1 h2; omega) (by intro k h1 h2; omega))
        have hmr := hm.two hr
        have Hx29 := hid (Hx24.out.mod hmr (by intro h2; omega))
        have Hx30 := hid (Hx25.out.mod hmr (by intro k h1 h2; have hb := HBR.out k h1; omega))
        have Hx31 := hid (Hx26.out.mod hmr (by intro k h1 h2; omega))
        have Hx32 := hid (Hx22.out.mod hmr (by intro h2; omega))
        clear Hx24 Hx25 Hx26 Hx22
        clear hmr
        have Cx33 := hid (Cx27.out.goM hm hr (by intro k h0 h2; first | omega | exact Or.inl h2 | exact Or.inr (Or.inl h2) | exact Or.inr (Or.inr (h2))))
        clear Cx27 hm hr Z act E qacc1 Hx23
        refine QChain.go fun Z act E => ?_
        refine qc_store rfl (wanted_none rfl) rfl Hx29.out (off := 2) (vs := [Value.slice ao12 (acc1.length + 1) cap12]) (by kernel_rfl) (by intro u hu; simp at hu; subst hu; rfl) (by show 2 + 1 ≤ 5; decide) (E.d 6) (by rw [show act.eval ((.tmp 35)) = _ from (chv (v := .slice ao12 (acc1.length + 1) cap12) (E.d 5))]; rfl) ?_
        intro u6_4a qc0 hm
        have qqx : Cs u6_4a (u1_3.heap.size) ((Ba.cells (Ba.mk (gI s).1 (rNum (gI s).2).1 (acc1 ++ [y1]) [] []) (Value.slice ao12 (acc1.length + 1) cap12) (Value.slice none 0 0) (Value.slice none 0 0)) : List Value).toArray 60 := by rw [show lay _ 2 _ = ((Ba.cells (Ba.mk (gI s).1 (rNum (gI s).2).1 (acc1 ++ [y1]) [] []) (Value.slice ao12 (acc1.length + 1) cap12) (Value.slice none 0 0) (Value.slice none 0 0)) : List Value).toArray from rfl] at qc0; exact qc0
        clear qc0
        have zu6_4a := hm.size
        refine ⟨hm.mono (by intro k hk h; omega), (fun _ => rfl), ?_⟩
        intro u6_4 hr
        have zu6_4 := hr.size
        have Hx34 := hid (qqx.mod hr (by intro h2; omega))
        have hmr := hm.two hr
        have Hx35 := hid (Hx28.out.mod hmr (by intro k h1 h2; omega) (by intro k h1 h2; omega))
        have Hx36 := hid (Hx30.out.mod hmr (by intro k h1 h2; have hb := HBR.out k h1; omega))
        have Hx37 := hid (Hx31.out.mod hmr (by intro k h1 h2; omega))
        have Hx38 := hid (Hx32.out.mod hmr (by intro h2; omega))
        clear Hx28 Hx30 Hx31 Hx32
        clear hmr
        have Cx39 := hid (Cx33.out.goM hm hr (by intro k h0 h2; first | omega | exact Or.inl h2 | exact Or.inr (Or.inl h2) | exact Or.inr (Or.inr (h2))))
        clear Cx33 hm hr Z act E qqx Hx29
        refine QChain.nil fun vs hl hzz hrows hne => ?_
        obtain ⟨Z, hYZ, hZb, hV⟩ := hzz
        have f2 := fvi hV hl 2
        have f3 := fvc hV hl 3
        have f4 := fvc hV hl 4
        have f5 := fvc hV hl 5
        rw [show vs = [gw vs 0, gw vs 1, gw vs 2, gw vs 3, gw vs 4, gw vs 5, gw vs 6, gw vs 7] from (gw_eta hl).trans rfl]
        have ha0 := HA0.out
        subst ha0
        clear HA0 hV hYZ hZb hsz0 hrows hne oe0 oe3
        simp only [putAll, Act.put, List.setIfInBounds_toArray, List.set_cons_zero, List.set_cons_succ, List.set_nil, f2, f3, f4, f5]
        clear hl f2 f3 f4 f5
        clear Hx37
        clear Hx38
        go_upto_region 5 with (fail)
        generalize ha0 : Act.mk _ _ = a0
        have oe5 : a0.eval (.tmp 5) = .int .i64 ((k1 : Nat) : Int) := by rw [← ha0]; rfl
        have hsz0 : a0.tmps.size = 103 := by rw [← ha0]; rfl
        have HA0 := hid ha0
        clear ha0
        refine wp_region_S 103 hsz0 [28, 29, 5] [0, 1, 2] ?_
        refine QSeq.pure rfl (.int .i64 ((k1 : Nat) : Int)) (fun E => ex_move rfl (E.y 2 oe5)) ?_
        refine QSeq.pure rfl (.int .i64 (((k1 : Nat) : Int) + 1)) (fun E => ex_binE rfl (E.d 0 0) rfl (guard_ints _ _ _ _ _ _) (run_add_i _ _ Try.underlying3) (congrArg (Value.int .i64) (IntWalk.i64_in _ (by omega)))) ?_
        refine QSeq.pure rfl (.int .i64 (((k1 : Nat) : Int) + 1)) (fun E => ex_assign rfl (E.d 1 0)) ?_
        refine QSeq.nil (t' := [_, _, _]) rfl ?_
        have ha0 := HA0.out
        subst ha0
        clear HA0 hsz0 oe5
        simp only [putAll, Act.put, List.setIfInBounds_toArray, List.set_cons_zero, List.set_cons_succ]
        go_wp2
        go_roundw
        case rel => exact ⟨k1 + 1, acc1 ++ [y1], st2_1, _, by go_num, by omega, by rw [List.length_append, HKA1.out]; rfl, HST2_1.out, HRU1.out.step hlt1 (by simp) HP2_1.out HY1.out, by omega, (Hx35.out.widen (by intro b h1; omega) (by intro b h1; rcases h1 with h1 | h1 | h1 <;> first | omega | exact h1.elim)), Hx34.out, Hx36.out, (HKP1_0.out.mod Cx39.out (by intro h2; rcases h2 with h2 | h2 | h2 <;> first | omega | (have hb := HBR.out _ h2; omega))), (HML1.out.trans Cx39.out (by intro k h1 h2; rcases h2 with h2 | h2 | h2 <;> first | exact h2 | omega | (have hb := HBR.out k h2; omega)))⟩
        case measure => simp [intOf] <;> omega
    · skip
      obtain ⟨bA1, hbA1⟩ : ∃ b : Bool, b = decide (((k1 : Nat) : Int) < ((n1 : Nat) : Int)) := ⟨_, rfl⟩
      go_upto_region 4 with (fail)
      generalize ha0 : Act.mk _ _ = a0
      have oe0 : a0.eval (.tmp 0) = .pointer (some ⟨r, 0, none⟩) := by rw [← ha0]; rfl
      have oe4 : a0.eval (.tmp 4) = .int .i64 ((n1 : Nat) : Int) := by rw [← ha0]; rfl
      have oe5 : a0.eval (.tmp 5) = .int .i64 ((k1 : Nat) : Int) := by rw [← ha0]; rfl
      have hsz0 : a0.tmps.size = 103 := by rw [← ha0]; rfl
      have HA0 := hid ha0
      clear ha0
      refine wp_region_S 103 hsz0 [18, 19, 20, 21, 22, 23, 24, 25, 26, 27] [0, 1, 2, 3, 4, 5, 6, 7, 8, 9] ?_
      refine QSeq.pure rfl (.int .i64 ((k1 : Nat) : Int)) (fun E => ex_move rfl (E.v oe5)) ?_
      refine QSeq.pure rfl (.int .i64 ((n1 : Nat) : Int)) (fun E => ex_move rfl (E.v oe4)) ?_
      refine QSeq.pure rfl (.bool bA1) (fun E => ex_binE rfl (E.d 0 1) (E.d 1 0) (guard_ints _ _ _ _ _ _) (run_lss_i _ _ _ Try.underlying3) (congrArg Value.bool hbA1.symm)) ?_
      refine QSeq.pure rfl (.bool bA1) (fun E => ex_move rfl (E.d 2 0)) ?_
      refine QSeq.may (b := bA1) rfl (.pointer (some ⟨r, 0, none⟩)) (fun E => ((wanted_of rfl rfl (E.sz 21 (by decide)) (E.d 3 0)).trans (beq_t _))) (fun E hb => ex_move rfl (E.v oe0)) ?_
      intro v4_4 hw
      have hv4_4 := hid hw
      clear hw
      refine QSeq.may (b := bA1) rfl (.pointer (some ⟨r, 0, none⟩)) (fun E => ((wanted_of rfl rfl (E.sz 21 (by decide)) (E.d 3 1)).trans (beq_t _))) (fun E hb => ex_nil rfl ((E.q 4 0 hv4_4.out).1 hb)) ?_
      intro v4_5 hw
      have hv4_5 := hid hw
      clear hw
      refine QSeq.may (b := bA1) rfl (.pointer (some ⟨r, 1, none⟩)) (fun E => ((wanted_of rfl rfl (E.sz 21 (by decide)) (E.d 3 2)).trans (beq_t _))) (fun E hb => ex_field rfl Try.underlying74 rfl (by kernel_rfl) ((E.q 5 0 hv4_5.out).1 hb)) ?_
      intro v4_6 hw
      have hv4_6 := hid hw
      clear hw
      refine QSeq.may (b := bA1) rfl (.bool st1.isNone) (fun E => ((wanted_of rfl rfl (E.sz 21 (by decide)) (E.d 3 3)).trans (beq_t _))) (fun E hb => ex_load1 rfl Try.underlying4 rfl ((E.q 6 0 hv4_6.out).1 hb) (RrR.bad HRL1.out)) ?_
      intro v4_7 hw
      have hv4_7 := hid hw
      clear hw
      refine QSeq.may (b := bA1) rfl (.bool (!st1.isNone)) (fun E => ((wanted_of rfl rfl (E.sz 21 (by decide)) (E.d 3 4)).trans (beq_t _))) (fun E hb => ex_not rfl ((E.q 7 0 hv4_7.out).1 hb)) ?_
      intro v4_8 hw
      have hv4_8 := hid hw
      clear hw
      refine QSeq.pure rfl (.bool (bA1 && (!st1.isNone))) (fun E => ex_pickE rfl (E.d 3 5) rfl rfl (and_val fun hb => (E.q 8 0 hv4_8.out).1 hb)) ?_
      clear hv4_4 hv4_5 hv4_6 hv4_7 hv4_8
      refine QSeq.nil (t' := [_, _, _, _, _, _, _, _, _, _]) rfl ?_
      have ha0 := HA0.out
      subst ha0
      clear HA0 hsz0 oe0 oe4 oe5
      simp only [putAll, Act.put, List.setIfInBounds_toArray, List.set_cons_zero, List.set_cons_succ]
      rw [go_false hgo1 hbA1]
      have HF1 := hid (HRU1.out.fin hgo1 hk)
      clear hbA1 hgo1
      go_upto_region 7 with (fail)
      generalize ha0 : Act.mk _ _ = a0
      have oe0 : a0.eval (.tmp 0) = .pointer (some ⟨r, 0, none⟩) := by rw [← ha0]; rfl
      have hsz0 : a0.tmps.size = 103 := by rw [← ha0]; rfl
      have HA0 := hid ha0
      clear ha0
      refine wp_region_S 103 hsz0 [37, 38, 4] [0, 1, 2] ?_
      refine QSeq.pure rfl (.pointer (some ⟨r, 0, none⟩)) (fun E => ex_move rfl (E.v oe0)) ?_
      refine QSeq.go fun act E => ?_
      refine qc_callF (args := #[.pointer (some ⟨r, 0, none⟩), .int .i64 100]) rfl (wanted_none rfl) rfl Try.func113 (args2 (E.d 0 0) rfl) (RefRInt_R HRL1.out (by decide)) ?_
      rintro e u7_1 ⟨rfl, qrd, hm⟩
      refine ⟨_, rfl, ?_⟩
      have Hx40 := hid qrd
      have zu7_1 := hm.size
      have Cx41 := hid (show Mod (fun k => (R k)) wl1 u7_1 from hm)
      clear hm
      clear act E qrd HRL1
      refine QSeq.pure rfl (.int .i64 ((rInt 100 st1).1 : Nat)) (fun E => ex_assign rfl (E.d 1 0)) ?_
      refine QSeq.nil (t' := [_, _, _]) rfl ?_
      have ha0 := HA0.out
      subst ha0
      clear HA0 hsz0 oe0
      simp only [putAll, Act.put, List.setIfInBounds_toArray, List.set_cons_zero, List.set_cons_succ]
      obtain ⟨n2, hn⟩ : ∃ n, n = (rInt 100 st1).1 := ⟨_, rfl⟩
      obtain ⟨s2, hs1⟩ : ∃ z, z = (rInt 100 st1).2 := ⟨_, rfl⟩
      have hn100_2 : n2 ≤ 100 := by have := rInt_le 100 st1; omega
      have HLS2 := hid (show (s2.getD []).length ≤ 900000 by rw [hs1]; exact Nat.le_trans ((rInt_suf 100).len _) HST1.out)
      have HGL2 := hid (show gList gOp st1 = gItems gOp n2 [] s2 by rw [hn, hs1]; rfl)
      rw [← hn]
      have hq := Hx40.out
      rw [← hs1] at hq
      have HR2 := Lib.hid hq
      clear hq hn hs1 Hx40
      go_upto_region 8 with (fail)
      generalize ha0 : Act.mk _ _ = a0
      have hsz0 : a0.tmps.size = 103 := by rw [← ha0]; rfl
      have HA0 := hid ha0
      clear ha0
      refine wp_region_S 103 hsz0 [6] [0] ?_
      refine QSeq.pure rfl (.int .i64 0) (fun E => ex_assign rfl rfl) ?_
      refine QSeq.nil (t' := [_]) rfl ?_
      have ha0 := HA0.out
      subst ha0
      clear HA0 hsz0
      simp only [putAll, Act.put, List.setIfInBounds_toArray, List.set_cons_zero, List.set_cons_succ]
      go_wp2
      go_loopw [6] (fun ti wr => ∃ (k : Nat) (acc : List Op) (st : RSt) (v : Value), ti = .int .i64 (k : Int) ∧ k ≤ n2 ∧ acc.length = k ∧ (st.getD []).length ≤ 900000 ∧ Ru gOp n2 s2 k acc st ∧ u7_1.heap.size ≤ wr.heap.size ∧ OwS OpR 87 (fun b => u7_1.heap.size ≤ b ∧ b < wr.heap.size) (fun b => u7_1.heap.size ≤ b ∧ b < wr.heap.size) wr v acc ∧ Cs wr (u1_3.heap.size) ((Ba.cells (Ba.mk (gI s).1 (rNum (gI s).2).1 acc1 acc []) (Value.slice aol1 acc1.length capl1) (v) (Value.slice none 0 0)) : List Value).toArray 60 ∧ RrR 74 R wr r st ∧ Cs wr (w.heap.size) #[.int .i64 0, .int .u64 0, .slice none 0 0, .slice none 0 0, .slice none 0 0] 60 ∧ OwS PmR 55 (fun b => u2_1.heap.size ≤ b ∧ b < wl1.heap.size) (fun b => u2_1.heap.size ≤ b ∧ b < wl1.heap.size) wr (.slice aol1 acc1.length capl1) acc1 ∧ Mod R w wr) (fun ti _ => n2 - (intOf ti).toNat)
      case atStart => exact ⟨0, [], s2, .slice none 0 0, rfl, Nat.zero_le _, rfl, HLS2.out, Ru.start gOp_suf _ _, Nat.le_refl _, OwS.nil _ _ _ _ _, (HBXL1.out.mod Cx41.out (by intro h2; first | omega | (have hb := HBR.out _ h2; omega))), HR2.out, (HKP1_0.out.mod Cx41.out (by intro h2; first | omega | (have hb := HBR.out _ h2; omega))), (HAL1.out.mod Cx41.out (by intro k h1 h2; have hb := HBR.out k h2; omega) (by intro k h1 h2; have hb := HBR.out k h2; omega)), (HML1.out.trans Cx41.out (fun _ _ h => h))⟩
      case round =>
        obtain ⟨k2, acc2, st2, v2, rfl, hk, hka, hst, hru, hz, ha, hbx, hr, hk_0, hk_1, hm⟩ := hrel
        obtain ⟨wl2, rfl⟩ : ∃ x, x = wr := ⟨_, rfl⟩
        obtain ⟨aol2, capl2, rfl⟩ := ha.shape
        have HAL2 := Lib.hid ha
        have HBXL2 := Lib.hid hbx
        have HRL2 := Lib.hid hr
        have HML2 := Lib.hid hm
        have HST2 := Lib.hid hst
        have HRU2 := Lib.hid hru
        have HKA2 := Lib.hid hka
        have HKP2_0 := Lib.hid hk_0
        have HKP2_1 := Lib.hid hk_1
        clear ha hbx hr hm hst hru hka hk_0 hk_1 HAL1 HBXL1 HR2 HML1 HKP1_0
        by_cases hgo2 : k2 < n2 ∧ st2 ≠ none
        · obtain ⟨hlt2, hsn2⟩ := hgo2
          cases st2 with
          | none => exact absurd rfl hsn2
          | some l2 =>
            go_upto_region 9 with (fail)
            generalize ha0 : Act.mk _ _ = a0
            have oe0 : a0.eval (.tmp 0) = .pointer (some ⟨r, 0, none⟩) := by rw [← ha0]; rfl
            have oe4 : a0.eval (.tmp 4) = .int .i64 ((n2 : Nat) : Int) := by rw [← ha0]; rfl
            have oe6 : a0.eval (.tmp 6) = .int .i64 ((k2 : Nat) : Int) := by rw [← ha0]; rfl
            have hsz0 : a0.tmps.size = 103 := by rw [← ha0]; rfl
            have HA0 := hid ha0
            clear ha0
            refine wp_region_S 103 hsz0 [39, 40, 41, 42, 43, 44, 45, 46, 47, 48] [0, 1, 2, 3, 4, 5, 6, 7, 8, 9] ?_
            refine QSeq.pure rfl (.int .i64 ((k2 : Nat) : Int)) (fun E => ex_move rfl (E.v oe6)) ?_
            refine QSeq.pure rfl (.int .i64 ((n2 : Nat) : Int)) (fun E => ex_move rfl (E.v oe4)) ?_
            refine QSeq.pure rfl (.bool true) (fun E => ex_binE rfl (E.d 0 1) (E.d 1 0) (guard_ints _ _ _ _ _ _) (run_lss_i _ _ _ Try.underlying3) (congrArg Value.bool (decide_eq_true (by omega)))) ?_
            refine QSeq.pure rfl (.bool true) (fun E => ex_move rfl (E.d 2 0)) ?_
            refine QSeq.pureG rfl (.pointer (some ⟨r, 0, none⟩)) (fun E => ((wanted_of rfl rfl (E.sz 42 (by decide)) (E.d 3 0)).trans rfl)) (fun E => ex_move rfl (E.v oe0)) ?_
            refine QSeq.pureG rfl (.pointer (some ⟨r, 0, none⟩)) (fun E => ((wanted_of rfl rfl (E.sz 42 (by decide)) (E.d 3 1)).trans rfl)) (fun E => ex_nil rfl (E.d 4 0)) ?_
            refine QSeq.pureG rfl (.pointer (some ⟨r, 1, none⟩)) (fun E => ((wanted_of rfl rfl (E.sz 42 (by decide)) (E.d 3 2)).trans rfl)) (fun E => ex_field rfl Try.underlying74 rfl (by kernel_rfl) (E.d 5 0)) ?_
            refine QSeq.pureG rfl (.bool false) (fun E => ((wanted_of rfl rfl (E.sz 42 (by decide)) (E.d 3 3)).trans rfl)) (fun E => ex_load1 rfl Try.underlying4 rfl (E.d 6 0) (RrR.bad HRL2.out)) ?_
            refine QSeq.pureG rfl (.bool true) (fun E => ((wanted_of rfl rfl (E.sz 42 (by decide)) (E.d 3 4)).trans rfl)) (fun E => ex_not rfl (E.d 7 0)) ?_
            refine QSeq.pure rfl (.bool true) (fun E => ex_pick rfl (E.d 3 5) (E.d 8 0) rfl) ?_
            refine QSeq.nil (t' := [_, _, _, _, _, _, _, _, _, _]) rfl ?_
            have ha0 := HA0.out
            subst ha0
            clear HA0 hsz0 oe0 oe4 oe6
            simp only [putAll, Act.put, List.setIfInBounds_toArray, List.set_cons_zero, List.set_cons_succ]
            obtain ⟨st2_2, hp2⟩ : ∃ z, z = (gOp (some l2)).2 := ⟨_, rfl⟩
            have HP2_2 := hid hp2.symm
            clear hp2
            have HST2_2 := hid (show (st2_2.getD []).length ≤ 900000 by rw [← HP2_2.out]; exact Nat.le_trans (gOp_suf.len _) HST2.out)
            go_upto_region 11 with (fail)
            generalize ha0 : Act.mk _ _ = a0
            have oe0 : a0.eval (.tmp 0) = .pointer (some ⟨r, 0, none⟩) := by rw [← ha0]; rfl
            have oe3 : a0.eval (.tmp 3) = .pointer (some ⟨u1_3.heap.size, 0, none⟩) := by rw [← ha0]; rfl
            have hsz0 : a0.tmps.size = 103 := by rw [← ha0]; rfl
            have HA0 := hid ha0
            clear ha0
            refine wp_region_Q1 103 hsz0 [51, 52, 53, 54, 55, 56, 57, 110] (fun k => (R k) ∨ (New u7_1 wl2 k) ∨ (k = u1_3.heap.size)) (fun k j => (k = 0 ∧ ((R j))) ∨ (k = 2 ∧ ((New u7_1 wl2 j))) ∨ (k = 3 ∧ ((j = u1_3.heap.size)))) (by intro k j h; (try dsimp only at h ⊢); rcases h with ⟨-, h⟩ | ⟨-, h⟩ | ⟨-, h⟩; (exact Or.inl (h)); (exact Or.inr (Or.inl (h))); (exact Or.inr (Or.inr (h)))) [qi (.pointer (some ⟨u1_3.heap.size, 3, none⟩)), qi (.slice aol2 acc2.length capl2), qi (.pointer (some ⟨r, 0, none⟩)), qv 0, qv 1, qv 2, qi (.pointer (some ⟨u1_3.heap.size, 3, none⟩)), qv 3] ⟨qi_stable, qi_stable, qi_stable, qv_stable, qv_stable, qv_stable, qi_stable, qv_stable, trivial⟩ [3, 4, 5, 7] ⟨?_, ?_, ?_, ?_, ?_, ?_, ?_, ?_, trivial⟩ ?_
            · exact stq (fun E => ex_field rfl Try.underlying60 rfl (by kernel_rfl) (E.v oe3))
            · refine stepq_env rfl rfl rfl fun _ _ _ _ _ _ hm0 _ _ hd hub _ => ?_
              have h0 := hd ⟨0, .data⟩ (by simp) rfl _ rfl
              refine qe_run rfl (wanted_none rfl) (ex_load1 rfl Try.underlying57 rfl h0 (Cs.lit1 (HBXL2.out.mod hm0 (by intro h2; have hu := hub 3 7 rfl (by kernel_rfl); rcases h2 with ⟨h0, kk, hk, h2⟩ | h2 <;> first | omega | (rcases h2 with ⟨hkk, h2⟩ | ⟨hkk, h2⟩ | ⟨hkk, h2⟩ <;> first | omega | (have hb := HBR.out _ h2; omega)))) rfl)) QE.refl ?_
              rfl
            · exact stq (fun E => ex_move rfl (E.v oe0))
            · exact stepq_chain rfl
            · exact stepq_chain rfl
            · exact stepq_chain rfl
            · exact stq (fun E => ex_field rfl Try.underlying60 rfl (by kernel_rfl) (E.v oe3))
            · exact stepq_chain rfl
            intro u11_0 hr
            have zu11_0 := hr.size
            have Cx42 := hid (hr.new (S := (fun k => (R k) ∨ (New u7_1 wl2 k) ∨ (k = u1_3.heap.size))))
            have Hx43 := hid (HAL2.out.mod hr (by intro k h1 h2; omega) (by intro k h1 h2; omega))
            clear HAL2
            have Hx44 := hid (HBXL2.out.mod hr (by intro h2; omega))
            clear HBXL2
            have Hx45 := hid (HRL2.out.mod hr (by intro k h1 h2; have hb := HBR.out k h1; omega))
            clear HRL2
            clear hr
            refine QChain.go fun Z act E => ?_
            refine qc_callF (args := #[.pointer (some ⟨r, 0, none⟩)]) rfl (wanted_none rfl) rfl Try.func128 (args1 (E.d 2)) (dOp_G.toU.to HP2_2.out Hx45.out (by intro k h1; have hb := HBR.out k h1; omega) HST2.out) ?_
            rintro e u11_1a ⟨cs2, y2, rfl, qel, qrd, hy2, hm⟩
            have HY2 := Lib.hid hy2
            clear hy2
            have zu11_1a := hm.size
            refine ⟨_, rfl, hm.mono (by intro k hk h; first | omega | exact Or.inl ⟨(by have hb := HBR.out k h; omega), Or.inl ⟨rfl, h⟩⟩), (fun _ => rfl), ?_⟩
            intro u11_1 hr
            have zu11_1 := hr.size
            have Hx46 := hid ((qel.widen (R' := (fun k => (New u11_0 u11_1a k))) (fun _ h => h)).mod hr (by intro k h1 h2; omega))
            have Hx47 := hid (qrd.mod hr (by intro k h1 h2; have hb := HBR.out k h1; omega))
            have hmr := hm.two hr
            have Hx48 := hid (Hx43.out.mod hmr (by intro k h1 h2; rcases h2 with h2 | h2 <;> first | omega | (have hb := HBR.out k h2; omega)) (by intro k h1 h2; rcases h2 with h2 | h2 <;> first | omega | (have hb := HBR.out k h2; omega)))
            have Hx49 := hid (Hx44.out.mod hmr (by intro h2; rcases h2 with h2 | h2 <;> first | omega | (have hb := HBR.out _ h2; omega)))
            clear Hx43 Hx44
            clear hmr
            have Cx50 := hid (Cx42.out.goM hm hr (by intro k h0 h2; first | omega | exact Or.inl h2 | exact Or.inr (Or.inl h2) | exact Or.inr (Or.inr (h2))))
            clear Cx42 hm hr Z act E qel qrd Hx45
            refine QChain.go fun Z act E => ?_
            refine qc_buildS (e := 87) (cs := cs2) (zc := [.int .i64 0, .slice none 0 0, .int .u8 0, .int .u8 0, .int .u8 0, .int .u8 0, .int .u8 0, .int .u8 0, .int .u8 0, .int .u8 0, .int .u8 0, .int .u8 0, .int .u8 0, .int .u8 0, .int .u8 0, .int .u8 0, .int .u8 0, .int .u8 0, .int .u8 0, .int .u8 0, .int .u8 0, .int .u8 0, .int .u8 0, .int .u8 0, .int .u8 0, .int .u8 0, .int .u8 0, .int .u8 0, .int .u8 0, .int .u8 0, .int .u8 0, .int .u8 0, .int .u8 0, .int .u8 0]) (sz := 34) rfl (wanted_none rfl) rfl Try.underlying57 (by kernel_rfl) rfl (by decide) (by decide) (chv (v := .agg cs2.toArray) (E.d 3)) (OpR.len Hx46.out) ?_
            intro u11_2a qrow hm
            have zl11_4 := qrow.lt
            have zu11_2a := hm.size
            refine ⟨hm.mono (fun _ _ h => h.elim), (fun _ => rfl), ?_⟩
            intro u11_2 hr
            have zu11_2 := hr.size
            have Hx51 := hid (qrow.mod hr (by intro h2; omega))
            have hmr := Mod.after hm hr
            have Hx52 := hid (Hx48.out.mod hmr (by intro k h1 h2; omega) (by intro k h1 h2; omega))
            have Hx53 := hid (Hx49.out.mod hmr (by intro h2; omega))
            have Hx54 := hid (Hx47.out.mod hmr (by intro k h1 h2; have hb := HBR.out k h1; omega))
            have Hx55 := hid (Hx46.out.mod hmr (by intro k h1 h2; omega))
            clear Hx48 Hx49 Hx47 Hx46
            clear hmr
            have Cx56 := hid (Cx50.out.go hm hr)
            clear Cx50 hm hr Z act E qrow
            refine QChain.go fun Z act E => ?_
            refine qc_appS (A := OpR) (e := 87) rfl (wanted_none rfl) rfl (.agg #[.int .i64 0, .slice none 0 0, .int .u8 0, .int .u8 0, .int .u8 0, .int .u8 0, .int .u8 0, .int .u8 0, .int .u8 0, .int .u8 0, .int .u8 0, .int .u8 0, .int .u8 0, .int .u8 0, .int .u8 0, .int .u8 0, .int .u8 0, .int .u8 0, .int .u8 0, .int .u8 0, .int .u8 0, .int .u8 0, .int .u8 0, .int .u8 0, .int .u8 0, .int .u8 0, .int .u8 0, .int .u8 0, .int .u8 0, .int .u8 0, .int .u8 0, .int .u8 0, .int .u8 0, .int .u8 0]) 64 Try.underlying57 info_Op (by rfl) (of_decide_eq_true (by kernel_rfl)) (E.d 1) (chv (v := .slice (some ⟨u11_1.heap.size, 0, none⟩) 1 1) (E.d 4)) (Hx52.out) (RdS.single (R := (fun k => (New u11_0 u11_1a k) ∨ (k = u11_1.heap.size))) Hx51.out (Hx55.out.widen (by intro k h1; first | omega | exact h1.elim | exact Or.inl h1 | exact Or.inr (h1))) (by first | exact Or.inr rfl | exact Or.inr (Or.inr rfl) | (right; omega) | (right; right; omega))) (by intro k h1 h2; omega) (by rw [HKA2.out]; simp only [List.length_cons, List.length_nil]; omega) (by rw [HKA2.out]; simp only [List.length_cons, List.length_nil]; rw [maxLen_val]; omega) ?_
            intro ao14 cap14 u11_3a qacc2 hm
            have zu11_3a := hm.size
            refine ⟨hm.mono (by intro k hk h; omega), (fun _ => rfl), ?_⟩
            intro u11_3 hr
            have zu11_3 := hr.size
            have Hx57 := hid ((qacc2.widen (R' := (fun k => (New u7_1 wl2 k) ∨ (New u11_2 u11_3a k))) (E' := (fun k => (New u7_1 wl2 k) ∨ (New u11_0 u11_1a k) ∨ (k = u11_1.heap.size))) (fun _ h => h) (by intro k h1; rcases h1 with h1 | (h1 | h1) <;> first | omega | exact h1.elim | exact Or.inl h1 | exact Or.inr (Or.inl h1) | exact Or.inr (Or.inr (h1)))).mod hr (by intro k h1 h2; omega) (by intro k h1 h2; omega))
            have hmr := hm.two hr
            have Hx58 := hid (Hx53.out.mod hmr (by intro h2; omega))
            have Hx59 := hid (Hx54.out.mod hmr (by intro k h1 h2; have hb := HBR.out k h1; omega))
            have Hx60 := hid (Hx55.out.mod hmr (by intro k h1 h2; omega))
            have Hx61 := hid (Hx51.out.mod hmr (by intro h2; omega))
            clear Hx53 Hx54 Hx55 Hx51
            clear hmr
            have Cx62 := hid (Cx56.out.goM hm hr (by intro k h0 h2; first | omega | exact Or.inl h2 | exact Or.inr (Or.inl h2) | exact Or.inr (Or.inr (h2))))
            clear Cx56 hm hr Z act E qacc2 Hx52
            refine QChain.go fun Z act E => ?_
            refine qc_store rfl (wanted_none rfl) rfl Hx58.out (off := 3) (vs := [Value.slice ao14 (acc2.length + 1) cap14]) (by kernel_rfl) (by intro u hu; simp at hu; subst hu; rfl) (by show 3 + 1 ≤ 5; decide) (E.d 6) (by rw [show act.eval ((.tmp 56)) = _ from (chv (v := .slice ao14 (acc2.length + 1) cap14) (E.d 5))]; rfl) ?_
            intro u11_4a qc0 hm
            have qqx : Cs u11_4a (u1_3.heap.size) ((Ba.cells (Ba.mk (gI s).1 (rNum (gI s).2).1 acc1 (acc2 ++ [y2]) []) (Value.slice aol1 acc1.length capl1) (Value.slice ao14 (acc2.length + 1) cap14) (Value.slice none 0 0)) : List Value).toArray 60 := by rw [show lay _ 3 _ = ((Ba.cells (Ba.mk (gI s).1 (rNum (gI s).2).1 acc1 (acc2 ++ [y2]) []) (Value.slice aol1 acc1.length capl1) (Value.slice ao14 (acc2.length + 1) cap14) (Value.slice none 0 0)) : List Value).toArray from rfl] at qc0; exact qc0
            clear qc0
            have zu11_4a := hm.size
            refine ⟨hm.mono (by intro k hk h; omega), (fun _ => rfl), ?_⟩
            intro u11_4 hr
            have zu11_4 := hr.size
            have Hx63 := hid (qqx.mod hr (by intro h2; omega))
            have hmr := hm.two hr
            have Hx64 := hid (Hx57.out.mod hmr (by intro k h1 h2; omega) (by intro k h1 h2; omega))
            have Hx65 := hid (Hx59.out.mod hmr (by intro k h1 h2; have hb := HBR.out k h1; omega))
            have Hx66 := hid (Hx60.out.mod hmr (by intro k h1 h2; omega))
            have Hx67 := hid (Hx61.out.mod hmr (by intro h2; omega))
            clear Hx57 Hx59 Hx60 Hx61
            clear hmr
            have Cx68 := hid (Cx62.out.goM hm hr (by intro k h0 h2; first | omega | exact Or.inl h2 | exact Or.inr (Or.inl h2) | exact Or.inr (Or.inr (h2))))
            clear Cx62 hm hr Z act E qqx Hx58
            refine QChain.nil fun vs hl hzz hrows hne => ?_
            obtain ⟨Z, hYZ, hZb, hV⟩ := hzz
            have f2 := fvi hV hl 2
            have f3 := fvc hV hl 3
            have f4 := fvc hV hl 4
            have f5 := fvc hV hl 5
            rw [show vs = [gw vs 0, gw vs 1, gw vs 2, gw vs 3, gw vs 4, gw vs 5, gw vs 6, gw vs 7] from (gw_eta hl).trans rfl]
            have ha0 := HA0.out
            subst ha0
            clear HA0 hV hYZ hZb hsz0 hrows hne oe0 oe3
            simp only [putAll, Act.put, List.setIfInBounds_toArray, List.set_cons_zero, List.set_cons_succ, List.set_nil, f2, f3, f4, f5]
            clear hl f2 f3 f4 f5
            clear Hx66
            clear Hx67
            go_upto_region 10 with (fail)
            generalize ha0 : Act.mk _ _ = a0
            have oe6 : a0.eval (.tmp 6) = .int .i64 ((k2 : Nat) : Int) := by rw [← ha0]; rfl
            have hsz0 : a0.tmps.size = 103 := by rw [← ha0]; rfl
            have HA0 := hid ha0
            clear ha0
            refine wp_region_S 103 hsz0 [49, 50, 6] [0, 1, 2] ?_
            refine QSeq.pure rfl (.int .i64 ((k2 : Nat) : Int)) (fun E => ex_move rfl (E.y 2 oe6)) ?_
            refine QSeq.pure rfl (.int .i64 (((k2 : Nat) : Int) + 1)) (fun E => ex_binE rfl (E.d 0 0) rfl (guard_ints _ _ _ _ _ _) (run_add_i _ _ Try.underlying3) (congrArg (Value.int .i64) (IntWalk.i64_in _ (by omega)))) ?_
            refine QSeq.pure rfl (.int .i64 (((k2 : Nat) : Int) + 1)) (fun E => ex_assign rfl (E.d 1 0)) ?_
            refine QSeq.nil (t' := [_, _, _]) rfl ?_
            have ha0 := HA0.out
            subst ha0
            clear HA0 hsz0 oe6
            simp only [putAll, Act.put, List.setIfInBounds_toArray, List.set_cons_zero, List.set_cons_succ]
            go_wp2
            go_roundw
            case rel => exact ⟨k2 + 1, acc2 ++ [y2], st2_2, _, by go_num, by omega, by rw [List.length_append, HKA2.out]; rfl, HST2_2.out, HRU2.out.step hlt2 (by simp) HP2_2.out HY2.out, by omega, (Hx64.out.widen (by intro b h1; omega) (by intro b h1; rcases h1 with h1 | h1 | h1 <;> first | omega | exact h1.elim)), Hx63.out, Hx65.out, (HKP2_0.out.mod Cx68.out (by intro h2; rcases h2 with h2 | h2 | h2 <;> first | omega | (have hb := HBR.out _ h2; omega))), (HKP2_1.out.mod Cx68.out (by intro k h1 h2; rcases h2 with h2 | h2 | h2 <;> first | omega | (have hb := HBR.out k h2; omega)) (by intro k h1 h2; rcases h2 with h2 | h2 | h2 <;> first | omega | (have hb := HBR.out k h2; omega))), (HML2.out.trans Cx68.out (by intro k h1 h2; rcases h2 with h2 | h2 | h2 <;> first | exact h2 | omega | (have hb := HBR.out k h2; omega)))⟩
            case measure => simp [intOf] <;> omega
        · skip
          obtain ⟨bA2, hbA2⟩ : ∃ b : Bool, b = decide (((k2 : Nat) : Int) < ((n2 : Nat) : Int)) := ⟨_, rfl⟩
          go_upto_region 9 with (fail)
          generalize ha0 : Act.mk _ _ = a0
          have oe0 : a0.eval (.tmp 0) = .pointer (some ⟨r, 0, none⟩) := by rw [← ha0]; rfl
          have oe4 : a0.eval (.tmp 4) = .int .i64 ((n2 : Nat) : Int) := by rw [← ha0]; rfl
          have oe6 : a0.eval (.tmp 6) = .int .i64 ((k2 : Nat) : Int) := by rw [← ha0]; rfl
          have hsz0 : a0.tmps.size = 103 := by rw [← ha0]; rfl
          have HA0 := hid ha0
          clear ha0
          refine wp_region_S 103 hsz0 [39, 40, 41, 42, 43, 44, 45, 46, 47, 48] [0, 1, 2, 3, 4, 5, 6, 7, 8, 9] ?_
          refine QSeq.pure rfl (.int .i64 ((k2 : Nat) : Int)) (fun E => ex_move rfl (E.v oe6)) ?_
          refine QSeq.pure rfl (.int .i64 ((n2 : Nat) : Int)) (fun E => ex_move rfl (E.v oe4)) ?_
          refine QSeq.pure rfl (.bool bA2) (fun E => ex_binE rfl (E.d 0 1) (E.d 1 0) (guard_ints _ _ _ _ _ _) (run_lss_i _ _ _ Try.underlying3) (congrArg Value.bool hbA2.symm)) ?_
          refine QSeq.pure rfl (.bool bA2) (fun E => ex_move rfl (E.d 2 0)) ?_
          refine QSeq.may (b := bA2) rfl (.pointer (some ⟨r, 0, none⟩)) (fun E => ((wanted_of rfl rfl (E.sz 42 (by decide)) (E.d 3 0)).trans (beq_t _))) (fun E hb => ex_move rfl (E.v oe0)) ?_
          intro v9_4 hw
          have hv9_4 := hid hw
          clear hw
          refine QSeq.may (b := bA2) rfl (.pointer (some ⟨r, 0, none⟩)) (fun E => ((wanted_of rfl rfl (E.sz 42 (by decide)) (E.d 3 1)).trans (beq_t _))) (fun E hb => ex_nil rfl ((E.q 4 0 hv9_4.out).1 hb)) ?_
          intro v9_5 hw
          have hv9_5 := hid hw
          clear hw
          refine QSeq.may (b := bA2) rfl (.pointer (some ⟨r, 1, none⟩)) (fun E => ((wanted_of rfl rfl (E.sz 42 (by decide)) (E.d 3 2)).trans (beq_t _))) (fun E hb => ex_field rfl Try.underlying74 rfl (by kernel_rfl) ((E.q 5 0 hv9_5.out).1 hb)) ?_
          intro v9_6 hw
          have hv9_6 := hid hw
          clear hw
          refine QSeq.may (b := bA2) rfl (.bool st2.isNone) (fun E => ((wanted_of rfl rfl (E.sz 42 (by decide)) (E.d 3 3)).trans (beq_t _))) (fun E hb => ex_load1 rfl Try.underlying4 rfl ((E.q 6 0 hv9_6.out).1 hb) (RrR.bad HRL2.out)) ?_
          intro v9_7 hw
          have hv9_7 := hid hw
          clear hw
          refine QSeq.may (b := bA2) rfl (.bool (!st2.isNone)) (fun E => ((wanted_of rfl rfl (E.sz 42 (by decide)) (E.d 3 4)).trans (beq_t _))) (fun E hb => ex_not rfl ((E.q 7 0 hv9_7.out).1 hb)) ?_
          intro v9_8 hw
          have hv9_8 := hid hw
          clear hw
          refine QSeq.pure rfl (.bool (bA2 && (!st2.isNone))) (fun E => ex_pickE rfl (E.d 3 5) rfl rfl (and_val fun hb => (E.q 8 0 hv9_8.out).1 hb)) ?_
          clear hv9_4 hv9_5 hv9_6 hv9_7 hv9_8
          refine QSeq.nil (t' := [_, _, _, _, _, _, _, _, _, _]) rfl ?_
          have ha0 := HA0.out
          subst ha0
          clear HA0 hsz0 oe0 oe4 oe6
          simp only [putAll, Act.put, List.setIfInBounds_toArray, List.set_cons_zero, List.set_cons_succ]
          rw [go_false hgo2 hbA2]
          have HF2 := hid (HRU2.out.fin hgo2 hk)
          clear hbA2 hgo2
          go_upto_region 12 with (fail)
          generalize ha0 : Act.mk _ _ = a0
          have oe0 : a0.eval (.tmp 0) = .pointer (some ⟨r, 0, none⟩) := by rw [← ha0]; rfl
          have hsz0 : a0.tmps.size = 103 := by rw [← ha0]; rfl
          have HA0 := hid ha0
          clear ha0
          refine wp_region_S 103 hsz0 [58, 59, 4] [0, 1, 2] ?_
          refine QSeq.pure rfl (.pointer (some ⟨r, 0, none⟩)) (fun E => ex_move rfl (E.v oe0)) ?_
          refine QSeq.go fun act E => ?_
          refine qc_callF (args := #[.pointer (some ⟨r, 0, none⟩), .int .i64 100]) rfl (wanted_none rfl) rfl Try.func113 (args2 (E.d 0 0) rfl) (RefRInt_R HRL2.out (by decide)) ?_
          rintro e u12_1 ⟨rfl, qrd, hm⟩
          refine ⟨_, rfl, ?_⟩
          have Hx69 := hid qrd
          have zu12_1 := hm.size
          have Cx70 := hid (show Mod (fun k => (R k)) wl2 u12_1 from hm)
          clear hm
          clear act E qrd HRL2
          refine QSeq.pure rfl (.int .i64 ((rInt 100 st2).1 : Nat)) (fun E => ex_assign rfl (E.d 1 0)) ?_
          refine QSeq.nil (t' := [_, _, _]) rfl ?_
          have ha0 := HA0.out
          subst ha0
          clear HA0 hsz0 oe0
          simp only [putAll, Act.put, List.setIfInBounds_toArray, List.set_cons_zero, List.set_cons_succ]
          obtain ⟨n3, hn⟩ : ∃ n, n = (rInt 100 st2).1 := ⟨_, rfl⟩
          obtain ⟨s3, hs1⟩ : ∃ z, z = (rInt 100 st2).2 := ⟨_, rfl⟩
          have hn100_3 : n3 ≤ 100 := by have := rInt_le 100 st2; omega
          have HLS3 := hid (show (s3.getD []).length ≤ 900000 by rw [hs1]; exact Nat.le_trans ((rInt_suf 100).len _) HST2.out)
          have HGL3 := hid (show gList gTb st2 = gItems gTb n3 [] s3 by rw [hn, hs1]; rfl)
          rw [← hn]
          have hq := Hx69.out
          rw [← hs1] at hq
          have HR3 := Lib.hid hq
          clear hq hn hs1 Hx69
          go_upto_region 13 with (fail)
          generalize ha0 : Act.mk _ _ = a0
          have hsz0 : a0.tmps.size = 103 := by rw [← ha0]; rfl
          have HA0 := hid ha0
          clear ha0
          refine wp_region_S 103 hsz0 [7] [0] ?_
          refine QSeq.pure rfl (.int .i64 0) (fun E => ex_assign rfl rfl) ?_
          refine QSeq.nil (t' := [_]) rfl ?_
          have ha0 := HA0.out
          subst ha0
          clear HA0 hsz0
          simp only [putAll, Act.put, List.setIfInBounds_toArray, List.set_cons_zero, List.set_cons_succ]
          go_wp2
          go_loopw [7] (fun ti wr => ∃ (k : Nat) (acc : List Tb) (st : RSt) (v : Value), ti = .int .i64 (k : Int) ∧ k ≤ n3 ∧ acc.length = k ∧ (st.getD []).length ≤ 900000 ∧ Ru gTb n3 s3 k acc st ∧ u12_1.heap.size ≤ wr.heap.size ∧ OwS TbR 90 (fun b => u12_1.heap.size ≤ b ∧ b < wr.heap.size) (fun b => u12_1.heap.size ≤ b ∧ b < wr.heap.size) wr v acc ∧ Cs wr (u1_3.heap.size) ((Ba.cells (Ba.mk (gI s).1 (rNum (gI s).2).1 acc1 acc2 acc) (Value.slice aol1 acc1.length capl1) (Value.slice aol2 acc2.length capl2) (v)) : List Value).toArray 60 ∧ RrR 74 R wr r st ∧ Cs wr (w.heap.size) #[.int .i64 0, .int .u64 0, .slice none 0 0, .slice none 0 0, .slice none 0 0] 60 ∧ OwS PmR 55 (fun b => u2_1.heap.size ≤ b ∧ b < wl1.heap.size) (fun b => u2_1.heap.size ≤ b ∧ b < wl1.heap.size) wr (.slice aol1 acc1.length capl1) acc1 ∧ OwS OpR 87 (fun b => u7_1.heap.size ≤ b ∧ b < wl2.heap.size) (fun b => u7_1.heap.size ≤ b ∧ b < wl2.heap.size) wr (.slice aol2 acc2.length capl2) acc2 ∧ Mod R w wr) (fun ti _ => n3 - (intOf ti).toNat)
          case atStart => exact ⟨0, [], s3, .slice none 0 0, rfl, Nat.zero_le _, rfl, HLS3.out, Ru.start gTb_suf _ _, Nat.le_refl _, OwS.nil _ _ _ _ _, (HBXL2.out.mod Cx70.out (by intro h2; first | omega | (have hb := HBR.out _ h2; omega))), HR3.out, (HKP2_0.out.mod Cx70.out (by intro h2; first | omega | (have hb := HBR.out _ h2; omega))), (HKP2_1.out.mod Cx70.out (by intro k h1 h2; have hb := HBR.out k h2; omega) (by intro k h1 h2; have hb := HBR.out k h2; omega)), (HAL2.out.mod Cx70.out (by intro k h1 h2; have hb := HBR.out k h2; omega) (by intro k h1 h2; have hb := HBR.out k h2; omega)), (HML2.out.trans Cx70.out (fun _ _ h => h))⟩
          case round =>
            obtain ⟨k3, acc3, st3, v3, rfl, hk, hka, hst, hru, hz, ha, hbx, hr, hk_0, hk_1, hk_2, hm⟩ := hrel
            obtain ⟨wl3, rfl⟩ : ∃ x, x = wr := ⟨_, rfl⟩
            obtain ⟨aol3, capl3, rfl⟩ := ha.shape
            have HAL3 := Lib.hid ha
            have HBXL3 := Lib.hid hbx
            have HRL3 := Lib.hid hr
            have HML3 := Lib.hid hm
            have HST3 := Lib.hid hst
            have HRU3 := Lib.hid hru
            have HKA3 := Lib.hid hka
            have HKP3_0 := Lib.hid hk_0
            have HKP3_1 := Lib.hid hk_1
            have HKP3_2 := Lib.hid hk_2
            clear ha hbx hr hm hst hru hka hk_0 hk_1 hk_2 HAL2 HBXL2 HR3 HML2 HKP2_0 HKP2_1
            by_cases hgo3 : k3 < n3 ∧ st3 ≠ none
            · obtain ⟨hlt3, hsn3⟩ := hgo3
              cases st3 with
              | none => exact absurd rfl hsn3
              | some l3 =>
                go_upto_region 14 with (fail)
                generalize ha0 : Act.mk _ _ = a0
                have oe0 : a0.eval (.tmp 0) = .pointer (some ⟨r, 0, none⟩) := by rw [← ha0]; rfl
                have oe4 : a0.eval (.tmp 4) = .int .i64 ((n3 : Nat) : Int) := by rw [← ha0]; rfl
                have oe7 : a0.eval (.tmp 7) = .int .i64 ((k3 : Nat) : Int) := by rw [← ha0]; rfl
                have hsz0 : a0.tmps.size = 103 := by rw [← ha0]; rfl
                have HA0 := hid ha0
                clear ha0
                refine wp_region_S 103 hsz0 [60, 61, 62, 63, 64, 65, 66, 67, 68, 69] [0, 1, 2, 3, 4, 5, 6, 7, 8, 9] ?_
                refine QSeq.pure rfl (.int .i64 ((k3 : Nat) : Int)) (fun E => ex_move rfl (E.v oe7)) ?_
                refine QSeq.pure rfl (.int .i64 ((n3 : Nat) : Int)) (fun E => ex_move rfl (E.v oe4)) ?_
                refine QSeq.pure rfl (.bool true) (fun E => ex_binE rfl (E.d 0 1) (E.d 1 0) (guard_ints _ _ _ _ _ _) (run_lss_i _ _ _ Try.underlying3) (congrArg Value.bool (decide_eq_true (by omega)))) ?_
                refine QSeq.pure rfl (.bool true) (fun E => ex_move rfl (E.d 2 0)) ?_
                refine QSeq.pureG rfl (.pointer (some ⟨r, 0, none⟩)) (fun E => ((wanted_of rfl rfl (E.sz 63 (by decide)) (E.d 3 0)).trans rfl)) (fun E => ex_move rfl (E.v oe0)) ?_
                refine QSeq.pureG rfl (.pointer (some ⟨r, 0, none⟩)) (fun E => ((wanted_of rfl rfl (E.sz 63 (by decide)) (E.d 3 1)).trans rfl)) (fun E => ex_nil rfl (E.d 4 0)) ?_
                refine QSeq.pureG rfl (.pointer (some ⟨r, 1, none⟩)) (fun E => ((wanted_of rfl rfl (E.sz 63 (by decide)) (E.d 3 2)).trans rfl)) (fun E => ex_field rfl Try.underlying74 rfl (by kernel_rfl) (E.d 5 0)) ?_
                refine QSeq.pureG rfl (.bool false) (fun E => ((wanted_of rfl rfl (E.sz 63 (by decide)) (E.d 3 3)).trans rfl)) (fun E => ex_load1 rfl Try.underlying4 rfl (E.d 6 0) (RrR.bad HRL3.out)) ?_
                refine QSeq.pureG rfl (.bool true) (fun E => ((wanted_of rfl rfl (E.sz 63 (by decide)) (E.d 3 4)).trans rfl)) (fun E => ex_not rfl (E.d 7 0)) ?_
                refine QSeq.pure rfl (.bool true) (fun E => ex_pick rfl (E.d 3 5) (E.d 8 0) rfl) ?_
                refine QSeq.nil (t' := [_, _, _, _, _, _, _, _, _, _]) rfl ?_
                have ha0 := HA0.out
                subst ha0
                clear HA0 hsz0 oe0 oe4 oe7
                simp only [putAll, Act.put, List.setIfInBounds_toArray, List.set_cons_zero, List.set_cons_succ]
                go_upto_region 16 with (fail)
                generalize ha0 : Act.mk _ _ = a0
                have oe0 : a0.eval (.tmp 0) = .pointer (some ⟨r, 0, none⟩) := by rw [← ha0]; rfl
                have hsz0 : a0.tmps.size = 103 := by rw [← ha0]; rfl
                have HA0 := hid ha0
                clear ha0
                refine wp_region_S 103 hsz0 [72, 73, 74, 8, 107] [0, 1, 2, 3, 4] ?_
                refine QSeq.pure rfl (.pointer (some ⟨r, 0, none⟩)) (fun E => ex_move rfl (E.v oe0)) ?_
                refine QSeq.go fun act E => ?_
                refine qc_callF (args := #[.pointer (some ⟨r, 0, none⟩), .int .i64 1099511627776]) rfl (wanted_none rfl) rfl Try.func113 (args2 (E.d 0 0) rfl) (dI_Q HRL3.out) ?_
                rintro e u16_1 ⟨rfl, qrd, hm⟩
                refine ⟨_, rfl, ?_⟩
                have Hx71 := hid qrd
                have zu16_1 := hm.size
                have Cx72 := hid (show Mod (fun k => (R k)) wl3 u16_1 from hm)
                clear hm
                clear act E qrd HRL3
                refine QSeq.go fun act E => ?_
                refine qc_run rfl (wanted_none rfl) (v := .agg ((Tb.cells (Tb.mk (gI (some l3)).1 []) (Value.slice none 0 0)) : List Value).toArray) (ex_build rfl (z := [.int .i64 0, .slice none 0 0]) (places := [(0, 1), (1, 1)]) (by kernel_rfl) (parts := [(0, .int .i64 (gI (some l3)).1)]) (by simp only [List.map_toArray, List.map_cons, List.map_nil, show act.eval (.tmp 73) = .int .i64 (gI (some l3)).1 from (E.d 1 0)]; try rfl) (r := (Tb.cells (Tb.mk (gI (some l3)).1 []) (Value.slice none 0 0))) (by exact laid_segs (ns := [1, 1]) rfl [(0, .int .i64 (gI (some l3)).1)] [[.int .i64 0], [.slice none 0 0]] rfl ⟨rfl, trivial⟩)) ?_
                clear act E
                refine QSeq.go fun act E => ?_
                refine qc_alloc rfl (wanted_none rfl) rfl (z := [.int .i64 0, .slice none 0 0]) (by kernel_rfl) ?_
                intro u16_3 qqt hm
                have zl16_3 := qqt.lt
                have Hx73 := hid qqt
                have zu16_3 := hm.size
                have HMu16_3 := hid hm
                have Cx74 := hid (Cx72.out.goE hm)
                clear hm Cx72
                clear act E qqt
                refine QSeq.go fun act E => ?_
                have hlz : ((Tb.cells (Tb.mk (gI (some l3)).1 []) (Value.slice none 0 0))).length = List.length ([.int .i64 0, .slice none 0 0] : List Value) := rfl
                refine qc_store rfl (wanted_none rfl) rfl Hx73.out (off := 0) (vs := (Tb.cells (Tb.mk (gI (some l3)).1 []) (Value.slice none 0 0))) (by rw [hlz]; kernel_rfl) (by intro u hu; simp only [Tb.cells, List.mem_cons, List.not_mem_nil, or_false] at hu; rcases hu with rfl | rfl <;> rfl) (by rw [hlz]; exact Nat.le_of_eq (Nat.zero_add _)) (E.d 3 0) (by rw [show act.eval ((.tmp 74)) = _ from (E.d 2 1)]; rfl) ?_
                intro u16_4 qc0 hm
                have qqt : Cs u16_4 (u16_1.heap.size) ((Tb.cells (Tb.mk (gI (some l3)).1 []) (Value.slice none 0 0)) : List Value).toArray 90 := by rw [show lay _ 0 _ = ((Tb.cells (Tb.mk (gI (some l3)).1 []) (Value.slice none 0 0)) : List Value).toArray from lay_whole #[.int .i64 0, .slice none 0 0] _ (by rw [hlz]; rfl)] at qc0; exact qc0
                clear qc0 hlz
                have Hx75 := hid qqt
                have zu16_4 := hm.size
                have HMu16_4 := hid hm
                have Cx76 := hid (Mod.goS (S' := (fun k => (R k))) Cx74.out hm (fun _ h => h) (by intro k h0 h2; omega))
                clear hm Cx74
                clear act E qqt Hx73
                have Hx77 := hid ((Hx71.out.mod HMu16_3.out (fun _ _ h => h)).mod HMu16_4.out (by intro k h1 h2; have hb := HBR.out k h1; omega))
                clear Hx71 HMu16_3 HMu16_4
                refine QSeq.nil (t' := [_, _, _, _, _]) rfl ?_
                have ha0 := HA0.out
                subst ha0
                clear HA0 hsz0 oe0
                simp only [putAll, Act.put, List.setIfInBounds_toArray, List.set_cons_zero, List.set_cons_succ, List.set_nil]
                go_upto_region 17 with (fail)
                generalize ha0 : Act.mk _ _ = a0
                have oe0 : a0.eval (.tmp 0) = .pointer (some ⟨r, 0, none⟩) := by rw [← ha0]; rfl
                have hsz0 : a0.tmps.size = 103 := by rw [← ha0]; rfl
                have HA0 := hid ha0
                clear ha0
                refine wp_region_S 103 hsz0 [75, 76, 9] [0, 1, 2] ?_
                refine QSeq.pure rfl (.pointer (some ⟨r, 0, none⟩)) (fun E => ex_move rfl (E.v oe0)) ?_
                refine QSeq.go fun act E => ?_
                refine qc_callF (args := #[.pointer (some ⟨r, 0, none⟩), .int .i64 100]) rfl (wanted_none rfl) rfl Try.func113 (args2 (E.d 0 0) rfl) (RefRInt_R Hx77.out (by decide)) ?_
                rintro e u17_1 ⟨rfl, qrd, hm⟩
                refine ⟨_, rfl, ?_⟩
                have Hx78 := hid qrd
                have zu17_1 := hm.size
                have Cx79 := hid (show Mod (fun k => (R k)) u16_4 u17_1 from hm)
                clear hm
                clear act E qrd Hx77
                refine QSeq.pure rfl (.int .i64 ((rInt 100 (gI (some l3)).2).1 : Nat)) (fun E => ex_assign rfl (E.d 1 0)) ?_
                refine QSeq.nil (t' := [_, _, _]) rfl ?_
                have ha0 := HA0.out
                subst ha0
                clear HA0 hsz0 oe0
                simp only [putAll, Act.put, List.setIfInBounds_toArray, List.set_cons_zero, List.set_cons_succ]
                obtain ⟨n4, hn⟩ : ∃ n, n = (rInt 100 (gI (some l3)).2).1 := ⟨_, rfl⟩
                obtain ⟨s4, hs1⟩ : ∃ z, z = (rInt 100 (gI (some l3)).2).2 := ⟨_, rfl⟩
                have hn100_4 : n4 ≤ 100 := by have := rInt_le 100 (gI (some l3)).2; omega
                have HLS4 := hid (show (s4.getD []).length ≤ 900000 by rw [hs1]; exact Nat.le_trans ((rInt_suf 100).len _) (Nat.le_trans (gI_suf.len _) HST3.out))
                have HGL4 := hid (show gList gDn (gI (some l3)).2 = gItems gDn n4 [] s4 by rw [hn, hs1]; rfl)
                rw [← hn]
                have hq := Hx78.out
                rw [← hs1] at hq
                have HR4 := Lib.hid hq
                clear hq hn hs1 Hx78
                go_upto_region 18 with (fail)
                generalize ha0 : Act.mk _ _ = a0
                have hsz0 : a0.tmps.size = 103 := by rw [← ha0]; rfl
                have HA0 := hid ha0
                clear ha0
                refine wp_region_S 103 hsz0 [10] [0] ?_
                refine QSeq.pure rfl (.int .i64 0) (fun E => ex_assign rfl rfl) ?_
                refine QSeq.nil (t' := [_]) rfl ?_
                have ha0 := HA0.out
                subst ha0
                clear HA0 hsz0
                simp only [putAll, Act.put, List.setIfInBounds_toArray, List.set_cons_zero, List.set_cons_succ]
                go_wp2
                go_loopw [10] (fun ti wr => ∃ (k : Nat) (acc : List Dn) (st : RSt) (v : Value), ti = .int .i64 (k : Int) ∧ k ≤ n4 ∧ acc.length = k ∧ (st.getD []).length ≤ 900000 ∧ Ru gDn n4 s4 k acc st ∧ u17_1.heap.size ≤ wr.heap.size ∧ OwS DnR 34 (fun b => u17_1.heap.size ≤ b ∧ b < wr.heap.size) (fun b => u17_1.heap.size ≤ b ∧ b < wr.heap.size) wr v acc ∧ Cs wr (u16_1.heap.size) ((Tb.cells (Tb.mk (gI (some l3)).1 acc) (v)) : List Value).toArray 90 ∧ RrR 74 R wr r st ∧ Cs wr (w.heap.size) #[.int .i64 0, .int .u64 0, .slice none 0 0, .slice none 0 0, .slice none 0 0] 60 ∧ OwS PmR 55 (fun b => u2_1.heap.size ≤ b ∧ b < wl1.heap.size) (fun b => u2_1.heap.size ≤ b ∧ b < wl1.heap.size) wr (.slice aol1 acc1.length capl1) acc1 ∧ OwS OpR 87 (fun b => u7_1.heap.size ≤ b ∧ b < wl2.heap.size) (fun b => u7_1.heap.size ≤ b ∧ b < wl2.heap.size) wr (.slice aol2 acc2.length capl2) acc2 ∧ Cs wr (u1_3.heap.size) ((Ba.cells (Ba.mk (gI s).1 (rNum (gI s).2).1 acc1 acc2 acc3) (Value.slice aol1 acc1.length capl1) (Value.slice aol2 acc2.length capl2) (Value.slice aol3 acc3.length capl3)) : List Value).toArray 60 ∧ OwS TbR 90 (fun b => u12_1.heap.size ≤ b ∧ b < wl3.heap.size) (fun b => u12_1.heap.size ≤ b ∧ b < wl3.heap.size) wr (.slice aol3 acc3.length capl3) acc3 ∧ Mod R w wr) (fun ti _ => n4 - (intOf ti).toNat)
                case atStart => exact ⟨0, [], s4, .slice none 0 0, rfl, Nat.zero_le _, rfl, HLS4.out, Ru.start gDn_suf _ _, Nat.le_refl _, OwS.nil _ _ _ _ _, (Hx75.out.mod Cx79.out (by intro h2; first | omega | (have hb := HBR.out _ h2; omega))), HR4.out, ((HKP3_0.out.mod Cx76.out (by intro h2; first | omega | (have hb := HBR.out _ h2; omega))).mod Cx79.out (by intro h2; first | omega | (have hb := HBR.out _ h2; omega))), ((HKP3_1.out.mod Cx76.out (by intro k h1 h2; have hb := HBR.out k h2; omega) (by intro k h1 h2; have hb := HBR.out k h2; omega)).mod Cx79.out (by intro k h1 h2; have hb := HBR.out k h2; omega) (by intro k h1 h2; have hb := HBR.out k h2; omega)), ((HKP3_2.out.mod Cx76.out (by intro k h1 h2; have hb := HBR.out k h2; omega) (by intro k h1 h2; have hb := HBR.out k h2; omega)).mod Cx79.out (by intro k h1 h2; have hb := HBR.out k h2; omega) (by intro k h1 h2; have hb := HBR.out k h2; omega)), ((HBXL3.out.mod Cx76.out (by intro h2; first | omega | (have hb := HBR.out _ h2; omega))).mod Cx79.out (by intro h2; first | omega | (have hb := HBR.out _ h2; omega))), ((HAL3.out.mod Cx76.out (by intro k h1 h2; have hb := HBR.out k h2; omega) (by intro k h1 h2; have hb := HBR.out k h2; omega)).mod Cx79.out (by intro k h1 h2; have hb := HBR.out k h2; omega) (by intro k h1 h2; have hb := HBR.out k h2; omega)), ((HML3.out.trans Cx76.out (fun _ _ h => h)).trans Cx79.out (fun _ _ h => h))⟩
                case round =>
                  obtain ⟨k4, acc4, st4, v4, rfl, hk, hka, hst, hru, hz, ha, hbx, hr, hk_0, hk_1, hk_2, hk_3, hk_4, hm⟩ := hrel
                  obtain ⟨wl4, rfl⟩ : ∃ x, x = wr := ⟨_, rfl⟩
                  obtain ⟨aol4, capl4, rfl⟩ := ha.shape
                  have HAL4 := Lib.hid ha
                  have HBXL4 := Lib.hid hbx
                  have HRL4 := Lib.hid hr
                  have HML4 := Lib.hid hm
                  have HST4 := Lib.hid hst
                  have HRU4 := Lib.hid hru
                  have HKA4 := Lib.hid hka
                  have HKP4_0 := Lib.hid hk_0
                  have HKP4_1 := Lib.hid hk_1
                  have HKP4_2 := Lib.hid hk_2
                  have HKP4_3 := Lib.hid hk_3
                  have HKP4_4 := Lib.hid hk_4
                  clear ha hbx hr hm hst hru hka hk_0 hk_1 hk_2 hk_3 hk_4 HAL3 HBXL3 HR4 HML3 HKP3_0 HKP3_1 HKP3_2 Hx75
                  by_cases hgo4 : k4 < n4 ∧ st4 ≠ none
                  · obtain ⟨hlt4, hsn4⟩ := hgo4
                    cases st4 with
                    | none => exact absurd rfl hsn4
                    | some l4 =>
                      go_upto_region 19 with (fail)
                      generalize ha0 : Act.mk _ _ = a0
                      have oe0 : a0.eval (.tmp 0) = .pointer (some ⟨r, 0, none⟩) := by rw [← ha0]; rfl
                      have oe9 : a0.eval (.tmp 9) = .int .i64 ((n4 : Nat) : Int) := by rw [← ha0]; rfl
                      have oe10 : a0.eval (.tmp 10) = .int .i64 ((k4 : Nat) : Int) := by rw [← ha0]; rfl
                      have hsz0 : a0.tmps.size = 103 := by rw [← ha0]; rfl
                      have HA0 := hid ha0
                      clear ha0
                      refine wp_region_S 103 hsz0 [77, 78, 79, 80, 81, 82, 83, 84, 85, 86] [0, 1, 2, 3, 4, 5, 6, 7, 8, 9] ?_
                      refine QSeq.pure rfl (.int .i64 ((k4 : Nat) : Int)) (fun E => ex_move rfl (E.v oe10)) ?_
                      refine QSeq.pure rfl (.int .i64 ((n4 : Nat) : Int)) (fun E => ex_move rfl (E.v oe9)) ?_
                      refine QSeq.pure rfl (.bool true) (fun E => ex_binE rfl (E.d 0 1) (E.d 1 0) (guard_ints _ _ _ _ _ _) (run_lss_i _ _ _ Try.underlying3) (congrArg Value.bool (decide_eq_true (by omega)))) ?_
                      refine QSeq.pure rfl (.bool true) (fun E => ex_move rfl (E.d 2 0)) ?_
                      refine QSeq.pureG rfl (.pointer (some ⟨r, 0, none⟩)) (fun E => ((wanted_of rfl rfl (E.sz 80 (by decide)) (E.d 3 0)).trans rfl)) (fun E => ex_move rfl (E.v oe0)) ?_
                      refine QSeq.pureG rfl (.pointer (some ⟨r, 0, none⟩)) (fun E => ((wanted_of rfl rfl (E.sz 80 (by decide)) (E.d 3 1)).trans rfl)) (fun E => ex_nil rfl (E.d 4 0)) ?_
                      refine QSeq.pureG rfl (.pointer (some ⟨r, 1, none⟩)) (fun E => ((wanted_of rfl rfl (E.sz 80 (by decide)) (E.d 3 2)).trans rfl)) (fun E => ex_field rfl Try.underlying74 rfl (by kernel_rfl) (E.d 5 0)) ?_
                      refine QSeq.pureG rfl (.bool false) (fun E => ((wanted_of rfl rfl (E.sz 80 (by decide)) (E.d 3 3)).trans rfl)) (fun E => ex_load1 rfl Try.underlying4 rfl (E.d 6 0) (RrR.bad HRL4.out)) ?_
                      refine QSeq.pureG rfl (.bool true) (fun E => ((wanted_of rfl rfl (E.sz 80 (by decide)) (E.d 3 4)).trans rfl)) (fun E => ex_not rfl (E.d 7 0)) ?_
                      refine QSeq.pure rfl (.bool true) (fun E => ex_pick rfl (E.d 3 5) (E.d 8 0) rfl) ?_
                      refine QSeq.nil (t' := [_, _, _, _, _, _, _, _, _, _]) rfl ?_
                      have ha0 := HA0.out
                      subst ha0
                      clear HA0 hsz0 oe0 oe9 oe10
                      simp only [putAll, Act.put, List.setIfInBounds_toArray, List.set_cons_zero, List.set_cons_succ]
                      obtain ⟨st2_4, hp2⟩ : ∃ z, z = (gDn (some l4)).2 := ⟨_, rfl⟩
                      have HP2_4 := hid hp2.symm
                      clear hp2
                      have HST2_4 := hid (show (st2_4.getD []).length ≤ 900000 by rw [← HP2_4.out]; exact Nat.le_trans (gDn_suf.len _) HST4.out)
                      go_upto_region 21 with (fail)
                      generalize ha0 : Act.mk _ _ = a0
                      have oe0 : a0.eval (.tmp 0) = .pointer (some ⟨r, 0, none⟩) := by rw [← ha0]; rfl
                      have oe8 : a0.eval (.tmp 8) = .pointer (some ⟨u16_1.heap.size, 0, none⟩) := by rw [← ha0]; rfl
                      have hsz0 : a0.tmps.size = 103 := by rw [← ha0]; rfl
                      have HA0 := hid ha0
                      clear ha0
                      refine wp_region_Q1 103 hsz0 [89, 90, 91, 92, 93, 94, 95, 110] (fun k => (R k) ∨ (New u17_1 wl4 k) ∨ (k = u16_1.heap.size)) (fun k j => (k = 0 ∧ ((R j))) ∨ (k = 2 ∧ ((New u17_1 wl4 j))) ∨ (k = 3 ∧ ((j = u16_1.heap.size)))) (by intro k j h; (try dsimp only at h ⊢); rcases h with ⟨-, h⟩ | ⟨-, h⟩ | ⟨-, h⟩; (exact Or.inl (h)); (exact Or.inr (Or.inl (h))); (exact Or.inr (Or.inr (h)))) [qi (.pointer (some ⟨u16_1.heap.size, 1, none⟩)), qi (.slice aol4 acc4.length capl4), qi (.pointer (some ⟨r, 0, none⟩)), qv 0, qv 1, qv 2, qi (.pointer (some ⟨u16_1.heap.size, 1, none⟩)), qv 3] ⟨qi_stable, qi_stable, qi_stable, qv_stable, qv_stable, qv_stable, qi_stable, qv_stable, trivial⟩ [3, 4, 5, 7] ⟨?_, ?_, ?_, ?_, ?_, ?_, ?_, ?_, trivial⟩ ?_
                      · exact stq (fun E => ex_field rfl Try.underlying90 rfl (by kernel_rfl) (E.v oe8))
                      · refine stepq_env rfl rfl rfl fun _ _ _ _ _ _ hm0 _ _ hd hub _ => ?_
                        have h0 := hd ⟨0, .data⟩ (by simp) rfl _ rfl
                        refine qe_run rfl (wanted_none rfl) (ex_load1 rfl Try.underlying88 rfl h0 (Cs.lit1 (HBXL4.out.mod hm0 (by intro h2; have hu := hub 3 7 rfl (by kernel_rfl); rcases h2 with ⟨h0, kk, hk, h2⟩ | h2 <;> first | omega | (rcases h2 with ⟨hkk, h2⟩ | ⟨hkk, h2⟩ | ⟨hkk, h2⟩ <;> first | omega | (have hb := HBR.out _ h2; omega)))) rfl)) QE.refl ?_
                        rfl
                      · exact stq (fun E => ex_move rfl (E.v oe0))
                      · exact stepq_chain rfl
                      · exact stepq_chain rfl
                      · exact stepq_chain rfl
                      · exact stq (fun E => ex_field rfl Try.underlying90 rfl (by kernel_rfl) (E.v oe8))
                      · exact stepq_chain rfl
                      intro u21_0 hr
                      have zu21_0 := hr.size
                      have Cx80 := hid (hr.new (S := (fun k => (R k) ∨ (New u17_1 wl4 k) ∨ (k = u16_1.heap.size))))
                      have Hx81 := hid (HAL4.out.mod hr (by intro k h1 h2; omega) (by intro k h1 h2; omega))
                      clear HAL4
                      have Hx82 := hid (HBXL4.out.mod hr (by intro h2; omega))
                      clear HBXL4
                      have Hx83 := hid (HRL4.out.mod hr (by intro k h1 h2; have hb := HBR.out k h1; omega))
                      clear HRL4
                      clear hr
                      refine QChain.go fun Z act E => ?_
                      refine qc_callF (args := #[.pointer (some ⟨r, 0, none⟩)]) rfl (wanted_none rfl) rfl Try.func129 (args1 (E.d 2)) (dDn_G.toU.to HP2_4.out Hx83.out (by intro k h1; have hb := HBR.out k h1; omega) HST4.out) ?_
                      rintro e u21_1a ⟨cs4, y4, rfl, qel, qrd, hy4, hm⟩
                      have HY4 := Lib.hid hy4
                      clear hy4
                      have zu21_1a := hm.size
                      refine ⟨_, rfl, hm.mono (by intro k hk h; first | omega | exact Or.inl ⟨(by have hb := HBR.out k h; omega), Or.inl ⟨rfl, h⟩⟩), (fun _ => rfl), ?_⟩
                      intro u21_1 hr
                      have zu21_1 := hr.size
                      have Hx84 := hid ((qel.widen (R' := (fun k => (New u21_0 u21_1a k))) (fun _ h => h)).mod hr (by intro k h1 h2; omega))
                      have Hx85 := hid (qrd.mod hr (by intro k h1 h2; have hb := HBR.out k h1; omega))
                      have hmr := hm.two hr
                      have Hx86 := hid (Hx81.out.mod hmr (by intro k h1 h2; rcases h2 with h2 | h2 <;> first | omega | (have hb := HBR.out k h2; omega)) (by intro k h1 h2; rcases h2 with h2 | h2 <;> first | omega | (have hb := HBR.out k h2; omega)))
                      have Hx87 := hid (Hx82.out.mod hmr (by intro h2; rcases h2 with h2 | h2 <;> first | omega | (have hb := HBR.out _ h2; omega)))
                      clear Hx81 Hx82
                      clear hmr
                      have Cx88 := hid (Cx80.out.goM hm hr (by intro k h0 h2; first | omega | exact Or.inl h2 | exact Or.inr (Or.inl h2) | exact Or.inr (Or.inr (h2))))
                      clear Cx80 hm hr Z act E qel qrd Hx83
                      refine QChain.go fun Z act E => ?_
                      refine qc_buildS (e := 34) (cs := cs4) (zc := [.int .i64 0, .int .i64 0, .int .i64 0, .int .i64 0]) (sz := 4) rfl (wanted_none rfl) rfl Try.underlying88 (by kernel_rfl) rfl (by decide) (by decide) (chv (v := .agg cs4.toArray) (E.d 3)) (DnR.len Hx84.out) ?_
                      intro u21_2a qrow hm
                      have zl21_4 := qrow.lt
                      have zu21_2a := hm.size
                      refine ⟨hm.mono (fun _ _ h => h.elim), (fun _ => rfl), ?_⟩
                      intro u21_2 hr
                      have zu21_2 := hr.size
                      have Hx89 := hid (qrow.mod hr (by intro h2; omega))
                      have hmr := Mod.after hm hr
                      have Hx90 := hid (Hx86.out.mod hmr (by intro k h1 h2; omega) (by intro k h1 h2; omega))
                      have Hx91 := hid (Hx87.out.mod hmr (by intro h2; omega))
                      have Hx92 := hid (Hx85.out.mod hmr (by intro k h1 h2; have hb := HBR.out k h1; omega))
                      have Hx93 := hid (Hx84.out.mod hmr (by intro k h1 h2; omega))
                      clear Hx86 Hx87 Hx85 Hx84
                      clear hmr
                      have Cx94 := hid (Cx88.out.go hm hr)
                      clear Cx88 hm hr Z act E qrow
                      refine QChain.go fun Z act E => ?_
                      refine qc_appS (A := DnR) (e := 34) rfl (wanted_none rfl) rfl (.agg #[.int .i64 0, .int .i64 0, .int .i64 0, .int .i64 0]) 32 Try.underlying88 info_Dn (by rfl) (of_decide_eq_true (by kernel_rfl)) (E.d 1) (chv (v := .slice (some ⟨u21_1.heap.size, 0, none⟩) 1 1) (E.d 4)) (Hx90.out) (RdS.single (R := (fun k => (New u21_0 u21_1a k) ∨ (k = u21_1.heap.size))) Hx89.out (Hx93.out.widen (by intro k h1; first | omega | exact h1.elim | exact Or.inl h1 | exact Or.inr (h1))) (by first | exact Or.inr rfl | exact Or.inr (Or.inr rfl) | (right; omega) | (right; right; omega))) (by intro k h1 h2; omega) (by rw [HKA4.out]; simp only [List.length_cons, List.length_nil]; omega) (by rw [HKA4.out]; simp only [List.length_cons, List.length_nil]; rw [maxLen_val]; omega) ?_
                      intro ao21 cap21 u21_3a qacc4 hm
                      have zu21_3a := hm.size
                      refine ⟨hm.mono (by intro k hk h; omega), (fun _ => rfl), ?_⟩
                      intro u21_3 hr
                      have zu21_3 := hr.size
                      have Hx95 := hid ((qacc4.widen (R' := (fun k => (New u17_1 wl4 k) ∨ (New u21_2 u21_3a k))) (E' := (fun k => (New u17_1 wl4 k) ∨ (New u21_0 u21_1a k) ∨ (k = u21_1.heap.size))) (fun _ h => h) (by intro k h1; rcases h1 with h1 | (h1 | h1) <;> first | omega | exact h1.elim | exact Or.inl h1 | exact Or.inr (Or.inl h1) | exact Or.inr (Or.inr (h1)))).mod hr (by intro k h1 h2; omega) (by intro k h1 h2; omega))
                      have hmr := hm.two hr
                      have Hx96 := hid (Hx91.out.mod hmr (by intro h2; omega))
                      have Hx97 := hid (Hx92.out.mod hmr (by intro k h1 h2; have hb := HBR.out k h1; omega))
                      have Hx98 := hid (Hx93.out.mod hmr (by intro k h1 h2; omega))
                      have Hx99 := hid (Hx89.out.mod hmr (by intro h2; omega))
                      clear Hx91 Hx92 Hx93 Hx89
                      clear hmr
                      have Cx100 := hid (Cx94.out.goM hm hr (by intro k h0 h2; first | omega | exact Or.inl h2 | exact Or.inr (Or.inl h2) | exact Or.inr (Or.inr (h2))))
                      clear Cx94 hm hr Z act E qacc4 Hx90
                      refine QChain.go fun Z act E => ?_
                      refine qc_store rfl (wanted_none rfl) rfl Hx96.out (off := 1) (vs := [Value.slice ao21 (acc4.length + 1) cap21]) (by kernel_rfl) (by intro u hu; simp at hu; subst hu; rfl) (by show 1 + 1 ≤ 2; decide) (E.d 6) (by rw [show act.eval ((.tmp 94)) = _ from (chv (v := .slice ao21 (acc4.length + 1) cap21) (E.d 5))]; rfl) ?_
                      intro u21_4a qc0 hm
                      have qqt : Cs u21_4a (u16_1.heap.size) ((Tb.cells (Tb.mk (gI (some l3)).1 (acc4 ++ [y4])) (Value.slice ao21 (acc4.length + 1) cap21)) : List Value).toArray 90 := by rw [show lay _ 1 _ = ((Tb.cells (Tb.mk (gI (some l3)).1 (acc4 ++ [y4])) (Value.slice ao21 (acc4.length + 1) cap21)) : List Value).toArray from rfl] at qc0; exact qc0
                      clear qc0
                      have zu21_4a := hm.size
                      refine ⟨hm.mono (by intro k hk h; omega), (fun _ => rfl), ?_⟩
                      intro u21_4 hr
                      have zu21_4 := hr.size
                      have Hx101 := hid (qqt.mod hr (by intro h2; omega))
                      have hmr := hm.two hr
                      have Hx102 := hid (Hx95.out.mod hmr (by intro k h1 h2; omega) (by intro k h1 h2; omega))
                      have Hx103 := hid (Hx97.out.mod hmr (by intro k h1 h2; have hb := HBR.out k h1; omega))
                      have Hx104 := hid (Hx98.out.mod hmr (by intro k h1 h2; omega))
                      have Hx105 := hid (Hx99.out.mod hmr (by intro h2; omega))
                      clear Hx95 Hx97 Hx98 Hx99
                      clear hmr
                      have Cx106 := hid (Cx100.out.goM hm hr (by intro k h0 h2; first | omega | exact Or.inl h2 | exact Or.inr (Or.inl h2) | exact Or.inr (Or.inr (h2))))
                      clear Cx100 hm hr Z act E qqt Hx96
                      refine QChain.nil fun vs hl hzz hrows hne => ?_
                      obtain ⟨Z, hYZ, hZb, hV⟩ := hzz
                      have f2 := fvi hV hl 2
                      have f3 := fvc hV hl 3
                      have f4 := fvc hV hl 4
                      have f5 := fvc hV hl 5
                      rw [show vs = [gw vs 0, gw vs 1, gw vs 2, gw vs 3, gw vs 4, gw vs 5, gw vs 6, gw vs 7] from (gw_eta hl).trans rfl]
                      have ha0 := HA0.out
                      subst ha0
                      clear HA0 hV hYZ hZb hsz0 hrows hne oe0 oe8
                      simp only [putAll, Act.put, List.setIfInBounds_toArray, List.set_cons_zero, List.set_cons_succ, List.set_nil, f2, f3, f4, f5]
                      clear hl f2 f3 f4 f5
                      clear Hx104
                      clear Hx105
                      go_upto_region 20 with (fail)
                      generalize ha0 : Act.mk _ _ = a0
                      have oe10 : a0.eval (.tmp 10) = .int .i64 ((k4 : Nat) : Int) := by rw [← ha0]; rfl
                      have hsz0 : a0.tmps.size = 103 := by rw [← ha0]; rfl
                      have HA0 := hid ha0
                      clear ha0
                      refine wp_region_S 103 hsz0 [87, 88, 10] [0, 1, 2] ?_
                      refine QSeq.pure rfl (.int .i64 ((k4 : Nat) : Int)) (fun E => ex_move rfl (E.y 2 oe10)) ?_
                      refine QSeq.pure rfl (.int .i64 (((k4 : Nat) : Int) + 1)) (fun E => ex_binE rfl (E.d 0 0) rfl (guard_ints _ _ _ _ _ _) (run_add_i _ _ Try.underlying3) (congrArg (Value.int .i64) (IntWalk.i64_in _ (by omega)))) ?_
                      refine QSeq.pure rfl (.int .i64 (((k4 : Nat) : Int) + 1)) (fun E => ex_assign rfl (E.d 1 0)) ?_
                      refine QSeq.nil (t' := [_, _, _]) rfl ?_
                      have ha0 := HA0.out
                      subst ha0
                      clear HA0 hsz0 oe10
                      simp only [putAll, Act.put, List.setIfInBounds_toArray, List.set_cons_zero, List.set_cons_succ]
                      go_wp2
                      go_roundw
                      case rel => exact ⟨k4 + 1, acc4 ++ [y4], st2_4, _, by go_num, by omega, by rw [List.length_append, HKA4.out]; rfl, HST2_4.out, HRU4.out.step hlt4 (by simp) HP2_4.out HY4.out, by omega, (Hx102.out.widen (by intro b h1; omega) (by intro b h1; rcases h1 with h1 | h1 | h1 <;> first | omega | exact h1.elim)), Hx101.out, Hx103.out, (HKP4_0.out.mod Cx106.out (by intro h2; rcases h2 with h2 | h2 | h2 <;> first | omega | (have hb := HBR.out _ h2; omega))), (HKP4_1.out.mod Cx106.out (by intro k h1 h2; rcases h2 with h2 | h2 | h2 <;> first | omega | (have hb := HBR.out k h2; omega)) (by intro k h1 h2; rcases h2 with h2 | h2 | h2 <;> first | omega | (have hb := HBR.out k h2; omega))), (HKP4_2.out.mod Cx106.out (by intro k h1 h2; rcases h2 with h2 | h2 | h2 <;> first | omega | (have hb := HBR.out k h2; omega)) (by intro k h1 h2; rcases h2 with h2 | h2 | h2 <;> first | omega | (have hb := HBR.out k h2; omega))), (HKP4_3.out.mod Cx106.out (by intro h2; rcases h2 with h2 | h2 | h2 <;> first | omega | (have hb := HBR.out _ h2; omega))), (HKP4_4.out.mod Cx106.out (by intro k h1 h2; rcases h2 with h2 | h2 | h2 <;> first | omega | (have hb := HBR.out k h2; omega)) (by intro k h1 h2; rcases h2 with h2 | h2 | h2 <;> first | omega | (have hb := HBR.out k h2; omega))), (HML4.out.trans Cx106.out (by intro k h1 h2; rcases h2 with h2 | h2 | h2 <;> first | exact h2 | omega | (have hb := HBR.out k h2; omega)))⟩
                      case measure => simp [intOf] <;> omega
                  · skip
                    obtain ⟨bA4, hbA4⟩ : ∃ b : Bool, b = decide (((k4 : Nat) : Int) < ((n4 : Nat) : Int)) := ⟨_, rfl⟩
                    go_upto_region 19 with (fail)
                    generalize ha0 : Act.mk _ _ = a0
                    have oe0 : a0.eval (.tmp 0) = .pointer (some ⟨r, 0, none⟩) := by rw [← ha0]; rfl
                    have oe9 : a0.eval (.tmp 9) = .int .i64 ((n4 : Nat) : Int) := by rw [← ha0]; rfl
                    have oe10 : a0.eval (.tmp 10) = .int .i64 ((k4 : Nat) : Int) := by rw [← ha0]; rfl
                    have hsz0 : a0.tmps.size = 103 := by rw [← ha0]; rfl
                    have HA0 := hid ha0
                    clear ha0
                    refine wp_region_S 103 hsz0 [77, 78, 79, 80, 81, 82, 83, 84, 85, 86] [0, 1, 2, 3, 4, 5, 6, 7, 8, 9] ?_
                    refine QSeq.pure rfl (.int .i64 ((k4 : Nat) : Int)) (fun E => ex_move rfl (E.v oe10)) ?_
                    refine QSeq.pure rfl (.int .i64 ((n4 : Nat) : Int)) (fun E => ex_move rfl (E.v oe9)) ?_
                    refine QSeq.pure rfl (.bool bA4) (fun E => ex_binE rfl (E.d 0 1) (E.d 1 0) (guard_ints _ _ _ _ _ _) (run_lss_i _ _ _ Try.underlying3) (congrArg Value.bool hbA4.symm)) ?_
                    refine QSeq.pure rfl (.bool bA4) (fun E => ex_move rfl (E.d 2 0)) ?_
                    refine QSeq.may (b := bA4) rfl (.pointer (some ⟨r, 0, none⟩)) (fun E => ((wanted_of rfl rfl (E.sz 80 (by decide)) (E.d 3 0)).trans (beq_t _))) (fun E hb => ex_move rfl (E.v oe0)) ?_
                    intro v19_4 hw
                    have hv19_4 := hid hw
                    clear hw
                    refine QSeq.may (b := bA4) rfl (.pointer (some ⟨r, 0, none⟩)) (fun E => ((wanted_of rfl rfl (E.sz 80 (by decide)) (E.d 3 1)).trans (beq_t _))) (fun E hb => ex_nil rfl ((E.q 4 0 hv19_4.out).1 hb)) ?_
                    intro v19_5 hw
                    have hv19_5 := hid hw
                    clear hw
                    refine QSeq.may (b := bA4) rfl (.pointer (some ⟨r, 1, none⟩)) (fun E => ((wanted_of rfl rfl (E.sz 80 (by decide)) (E.d 3 2)).trans (beq_t _))) (fun E hb => ex_field rfl Try.underlying74 rfl (by kernel_rfl) ((E.q 5 0 hv19_5.out).1 hb)) ?_
                    intro v19_6 hw
                    have hv19_6 := hid hw
                    clear hw
                    refine QSeq.may (b := bA4) rfl (.bool st4.isNone) (fun E => ((wanted_of rfl rfl (E.sz 80 (by decide)) (E.d 3 3)).trans (beq_t _))) (fun E hb => ex_load1 rfl Try.underlying4 rfl ((E.q 6 0 hv19_6.out).1 hb) (RrR.bad HRL4.out)) ?_
                    intro v19_7 hw
                    have hv19_7 := hid hw
                    clear hw
                    refine QSeq.may (b := bA4) rfl (.bool (!st4.isNone)) (fun E => ((wanted_of rfl rfl (E.sz 80 (by decide)) (E.d 3 4)).trans (beq_t _))) (fun E hb => ex_not rfl ((E.q 7 0 hv19_7.out).1 hb)) ?_
                    intro v19_8 hw
                    have hv19_8 := hid hw
                    clear hw
                    refine QSeq.pure rfl (.bool (bA4 && (!st4.isNone))) (fun E => ex_pickE rfl (E.d 3 5) rfl rfl (and_val fun hb => (E.q 8 0 hv19_8.out).1 hb)) ?_
                    clear hv19_4 hv19_5 hv19_6 hv19_7 hv19_8
                    refine QSeq.nil (t' := [_, _, _, _, _, _, _, _, _, _]) rfl ?_
                    have ha0 := HA0.out
                    subst ha0
                    clear HA0 hsz0 oe0 oe9 oe10
                    simp only [putAll, Act.put, List.setIfInBounds_toArray, List.set_cons_zero, List.set_cons_succ]
                    rw [go_false hgo4 hbA4]
                    have HF4 := hid (HRU4.out.fin hgo4 hk)
                    clear hbA4 hgo4
                    have HEL := hid (show TbR.rd (fun k => (New u17_1 wl4 k)) wl4 (Tb.cells (Tb.mk (gI (some l3)).1 acc4) (Value.slice aol4 acc4.length capl4)) (Tb.mk (gI (some l3)).1 acc4) from ⟨_, rfl, gI_I64 _, HAL4.out.rd.widen (by intro b h1; (try dsimp only at h1 ⊢); omega)⟩)
                    go_upto_region 22 with (fail)
                    generalize ha0 : Act.mk _ _ = a0
                    have oe3 : a0.eval (.tmp 3) = .pointer (some ⟨u1_3.heap.size, 0, none⟩) := by rw [← ha0]; rfl
                    have oe8 : a0.eval (.tmp 8) = .pointer (some ⟨u16_1.heap.size, 0, none⟩) := by rw [← ha0]; rfl
                    have hsz0 : a0.tmps.size = 103 := by rw [← ha0]; rfl
                    have HA0 := hid ha0
                    clear ha0
                    refine wp_region_S 103 hsz0 [96, 97, 98, 99, 100, 101, 109] [0, 1, 2, 3, 4, 5, 6] ?_
                    refine QSeq.pure rfl (.pointer (some ⟨u1_3.heap.size, 4, none⟩)) (fun E => ex_field rfl Try.underlying60 rfl (by kernel_rfl) (E.v oe3)) ?_
                    refine QSeq.pure rfl (.slice aol3 acc3.length capl3) (fun E => ex_load1 rfl Try.underlying58 rfl (E.d 0 0) (Cs.lit1 HKP4_3.out rfl)) ?_
                    refine QSeq.pure rfl (.agg ((Tb.cells (Tb.mk (gI (some l3)).1 acc4) (Value.slice aol4 acc4.length capl4))).toArray) (fun E => ex_loadA rfl Try.underlying90 rfl (off := 0) (cs := (Tb.cells (Tb.mk (gI (some l3)).1 acc4) (Value.slice aol4 acc4.length capl4))) (by kernel_rfl) (E.v oe8) (Cs.whole HBXL4.out)) ?_
                    refine QSeq.go fun act E => ?_
                    refine qc_buildS (e := 90) (cs := (Tb.cells (Tb.mk (gI (some l3)).1 acc4) (Value.slice aol4 acc4.length capl4))) (zc := [.int .i64 0, .slice none 0 0]) (sz := 2) rfl (wanted_none rfl) rfl Try.underlying58 (by kernel_rfl) rfl (by decide) (by decide) (E.d 2 0) (TbR.len HEL.out) ?_
                    intro u22_3 qrow hm
                    have zl22_3 := qrow.lt
                    have Hx107 := hid qrow
                    have zu22_3 := hm.size
                    have Cx108 := hid (show Mod (fun _ => False) wl4 u22_3 from hm)
                    clear hm
                    clear act E qrow
                    refine QSeq.go fun act E => ?_
                    refine qc_appS (A := TbR) (e := 90) rfl (wanted_none rfl) rfl (.agg #[.int .i64 0, .slice none 0 0]) 32 Try.underlying58 info_Tb (by rfl) (of_decide_eq_true (by kernel_rfl)) (E.d 1 2) (E.d 3 0) ((HKP4_4.out.mod Cx108.out (fun _ _ h => h) (fun _ _ h => h))) (RdS.single (R := (fun k => (New u17_1 wl4 k) ∨ (k = wl4.heap.size))) Hx107.out ((HEL.out.mod Cx108.out (fun _ _ h => h)).widen (by intro k h1; first | omega | exact h1.elim | exact Or.inl h1 | exact Or.inr (h1))) (by first | exact Or.inr rfl | exact Or.inr (Or.inr rfl) | (right; omega) | (right; right; omega))) (by intro k h1 h2; omega) (by rw [HKA3.out]; simp only [List.length_cons, List.length_nil]; omega) (by rw [HKA3.out]; simp only [List.length_cons, List.length_nil]; rw [maxLen_val]; omega) ?_
                    intro ao17 cap17 u22_4 qacc3 hm
                    have Hx109 := hid (qacc3.widen (R' := (fun k => (New u12_1 wl3 k) ∨ (New u22_3 u22_4 k))) (E' := (fun k => (New u12_1 wl3 k) ∨ (New u17_1 wl4 k) ∨ (k = wl4.heap.size))) (fun _ h => h) (by intro k h1; rcases h1 with h1 | (h1 | h1) <;> first | omega | exact h1.elim | exact Or.inl h1 | exact Or.inr (Or.inl h1) | exact Or.inr (Or.inr (h1))))
                    have zu22_4 := hm.size
                    have HMu22_4 := hid hm
                    have Cx110 := hid (Mod.goS (S' := (fun k => (New u12_1 wl3 k))) Cx108.out hm (fun _ h => h.elim) (by intro k h0 h2; exact h2))
                    clear hm Cx108
                    clear act E qacc3 HKP4_4
                    refine QSeq.pure rfl (.pointer (some ⟨u1_3.heap.size, 4, none⟩)) (fun E => ex_field rfl Try.underlying60 rfl (by kernel_rfl) (E.v oe3)) ?_
                    refine QSeq.go fun act E => ?_
                    refine qc_store rfl (wanted_none rfl) rfl (HKP4_3.out.mod Cx110.out (by intro h2; omega)) (off := 4) (vs := [Value.slice ao17 (acc3.length + 1) cap17]) (by kernel_rfl) (by intro u hu; simp at hu; subst hu; rfl) (by show 4 + 1 ≤ 5; decide) (E.d 5 0) (by rw [show act.eval ((.tmp 100)) = _ from (E.d 4 1)]; rfl) ?_
                    intro u22_6 qc0 hm
                    have qqx : Cs u22_6 (u1_3.heap.size) ((Ba.cells (Ba.mk (gI s).1 (rNum (gI s).2).1 acc1 acc2 (acc3 ++ [(Tb.mk (gI (some l3)).1 acc4)])) (Value.slice aol1 acc1.length capl1) (Value.slice aol2 acc2.length capl2) (Value.slice ao17 (acc3.length + 1) cap17)) : List Value).toArray 60 := by rw [show lay _ 4 _ = ((Ba.cells (Ba.mk (gI s).1 (rNum (gI s).2).1 acc1 acc2 (acc3 ++ [(Tb.mk (gI (some l3)).1 acc4)])) (Value.slice aol1 acc1.length capl1) (Value.slice aol2 acc2.length capl2) (Value.slice ao17 (acc3.length + 1) cap17)) : List Value).toArray from rfl] at qc0; exact qc0
                    clear qc0
                    have Hx111 := hid qqx
                    have zu22_6 := hm.size
                    have HMu22_6 := hid hm
                    have Cx112 := hid (Mod.goS (S' := (fun k => (New u12_1 wl3 k) ∨ (k = u1_3.heap.size))) Cx110.out hm (fun _ h => Or.inl h) (by intro k h0 h2; exact Or.inr (h2)))
                    clear hm Cx110
                    clear act E qqx HKP4_3
                    have Hx113 := hid (Hx109.out.mod HMu22_6.out (by intro k h1 h2; omega) (by intro k h1 h2; omega))
                    have Hx114 := hid ((Hx107.out.mod HMu22_4.out (by intro h2; omega)).mod HMu22_6.out (by intro h2; omega))
                    clear Hx109 Hx107 HMu22_4 HMu22_6
                    refine QSeq.nil (t' := [_, _, _, _, _, _, _]) rfl ?_
                    have ha0 := HA0.out
                    subst ha0
                    clear HA0 hsz0 oe3 oe8
                    simp only [putAll, Act.put, List.setIfInBounds_toArray, List.set_cons_zero, List.set_cons_succ, List.set_nil]
                    clear HEL
                    clear Hx114
                    have hp2 : (gTb (some l3)).2 = st4 := (congrArg Prod.snd HGL4.out).trans HF4.out.1
                    have HP2_3 := Lib.hid hp2
                    have HY3 := hid (show st4 ≠ none → (Tb.mk (gI (some l3)).1 acc4) = (gTb (some l3)).1 from fun h => by show Tb.mk _ _ = Tb.mk _ (gList gDn _).1; rw [HGL4.out, ← HF4.out.2 h])
                    clear hp2
                    clear HAL4
                    clear HBXL4
                    go_upto_region 15 with (fail)
                    generalize ha0 : Act.mk _ _ = a0
                    have oe7 : a0.eval (.tmp 7) = .int .i64 ((k3 : Nat) : Int) := by rw [← ha0]; rfl
                    have hsz0 : a0.tmps.size = 103 := by rw [← ha0]; rfl
                    have HA0 := hid ha0
                    clear ha0
                    refine wp_region_S 103 hsz0 [70, 71, 7] [0, 1, 2] ?_
                    refine QSeq.pure rfl (.int .i64 ((k3 : Nat) : Int)) (fun E => ex_move rfl (E.y 2 oe7)) ?_
                    refine QSeq.pure rfl (.int .i64 (((k3 : Nat) : Int) + 1)) (fun E => ex_binE rfl (E.d 0 0) rfl (guard_ints _ _ _ _ _ _) (run_add_i _ _ Try.underlying3) (congrArg (Value.int .i64) (IntWalk.i64_in _ (by omega)))) ?_
                    refine QSeq.pure rfl (.int .i64 (((k3 : Nat) : Int) + 1)) (fun E => ex_assign rfl (E.d 1 0)) ?_
                    refine QSeq.nil (t' := [_, _, _]) rfl ?_
                    have ha0 := HA0.out
                    subst ha0
                    clear HA0 hsz0 oe7
                    simp only [putAll, Act.put, List.setIfInBounds_toArray, List.set_cons_zero, List.set_cons_succ]
                    go_wp2
                    go_roundw
                    case rel => exact ⟨k3 + 1, acc3 ++ [(Tb.mk (gI (some l3)).1 acc4)], st4, _, by go_num, by omega, by rw [List.length_append, HKA3.out]; rfl, HST4.out, HRU3.out.step hlt3 (by simp) HP2_3.out HY3.out, by omega, (Hx113.out.widen (by intro b h1; omega) (by intro b h1; rcases h1 with h1 | h1 | h1 <;> first | omega | exact h1.elim)), Hx111.out, (HRL4.out.mod Cx112.out (by intro k h1 h2; have hb := HBR.out k h1; omega)), (HKP4_0.out.mod Cx112.out (by intro h2; omega)), (HKP4_1.out.mod Cx112.out (by intro k h1 h2; omega) (by intro k h1 h2; omega)), (HKP4_2.out.mod Cx112.out (by intro k h1 h2; omega) (by intro k h1 h2; omega)), (HML4.out.trans Cx112.out (by intro k h1 h2; rcases h2 with h2 | h2 <;> first | exact h2 | omega))⟩
                    case measure => simp [intOf] <;> omega
            · skip
              obtain ⟨bA3, hbA3⟩ : ∃ b : Bool, b = decide (((k3 : Nat) : Int) < ((n3 : Nat) : Int)) := ⟨_, rfl⟩
              go_upto_region 14 with (fail)
              generalize ha0 : Act.mk _ _ = a0
              have oe0 : a0.eval (.tmp 0) = .pointer (some ⟨r, 0, none⟩) := by rw [← ha0]; rfl
              have oe4 : a0.eval (.tmp 4) = .int .i64 ((n3 : Nat) : Int) := by rw [← ha0]; rfl
              have oe7 : a0.eval (.tmp 7) = .int .i64 ((k3 : Nat) : Int) := by rw [← ha0]; rfl
              have hsz0 : a0.tmps.size = 103 := by rw [← ha0]; rfl
              have HA0 := hid ha0
              clear ha0
              refine wp_region_S 103 hsz0 [60, 61, 62, 63, 64, 65, 66, 67, 68, 69] [0, 1, 2, 3, 4, 5, 6, 7, 8, 9] ?_
              refine QSeq.pure rfl (.int .i64 ((k3 : Nat) : Int)) (fun E => ex_move rfl (E.v oe7)) ?_
              refine QSeq.pure rfl (.int .i64 ((n3 : Nat) : Int)) (fun E => ex_move rfl (E.v oe4)) ?_
              refine QSeq.pure rfl (.bool bA3) (fun E => ex_binE rfl (E.d 0 1) (E.d 1 0) (guard_ints _ _ _ _ _ _) (run_lss_i _ _ _ Try.underlying3) (congrArg Value.bool hbA3.symm)) ?_
              refine QSeq.pure rfl (.bool bA3) (fun E => ex_move rfl (E.d 2 0)) ?_
              refine QSeq.may (b := bA3) rfl (.pointer (some ⟨r, 0, none⟩)) (fun E => ((wanted_of rfl rfl (E.sz 63 (by decide)) (E.d 3 0)).trans (beq_t _))) (fun E hb => ex_move rfl (E.v oe0)) ?_
              intro v14_4 hw
              have hv14_4 := hid hw
              clear hw
              refine QSeq.may (b := bA3) rfl (.pointer (some ⟨r, 0, none⟩)) (fun E => ((wanted_of rfl rfl (E.sz 63 (by decide)) (E.d 3 1)).trans (beq_t _))) (fun E hb => ex_nil rfl ((E.q 4 0 hv14_4.out).1 hb)) ?_
              intro v14_5 hw
              have hv14_5 := hid hw
              clear hw
              refine QSeq.may (b := bA3) rfl (.pointer (some ⟨r, 1, none⟩)) (fun E => ((wanted_of rfl rfl (E.sz 63 (by decide)) (E.d 3 2)).trans (beq_t _))) (fun E hb => ex_field rfl Try.underlying74 rfl (by kernel_rfl) ((E.q 5 0 hv14_5.out).1 hb)) ?_
              intro v14_6 hw
              have hv14_6 := hid hw
              clear hw
              refine QSeq.may (b := bA3) rfl (.bool st3.isNone) (fun E => ((wanted_of rfl rfl (E.sz 63 (by decide)) (E.d 3 3)).trans (beq_t _))) (fun E hb => ex_load1 rfl Try.underlying4 rfl ((E.q 6 0 hv14_6.out).1 hb) (RrR.bad HRL3.out)) ?_
              intro v14_7 hw
              have hv14_7 := hid hw
              clear hw
              refine QSeq.may (b := bA3) rfl (.bool (!st3.isNone)) (fun E => ((wanted_of rfl rfl (E.sz 63 (by decide)) (E.d 3 4)).trans (beq_t _))) (fun E hb => ex_not rfl ((E.q 7 0 hv14_7.out).1 hb)) ?_
              intro v14_8 hw
              have hv14_8 := hid hw
              clear hw
              refine QSeq.pure rfl (.bool (bA3 && (!st3.isNone))) (fun E => ex_pickE rfl (E.d 3 5) rfl rfl (and_val fun hb => (E.q 8 0 hv14_8.out).1 hb)) ?_
              clear hv14_4 hv14_5 hv14_6 hv14_7 hv14_8
              refine QSeq.nil (t' := [_, _, _, _, _, _, _, _, _, _]) rfl ?_
              have ha0 := HA0.out
              subst ha0
              clear HA0 hsz0 oe0 oe4 oe7
              simp only [putAll, Act.put, List.setIfInBounds_toArray, List.set_cons_zero, List.set_cons_succ]
              rw [go_false hgo3 hbA3]
              have HF3 := hid (HRU3.out.fin hgo3 hk)
              clear hbA3 hgo3
              go_upto_region 23 with (fail)
              generalize ha0 : Act.mk _ _ = a0
              have oe2 : a0.eval (.tmp 2) = .pointer (some ⟨w.heap.size, 0, none⟩) := by rw [← ha0]; rfl
              have oe3 : a0.eval (.tmp 3) = .pointer (some ⟨u1_3.heap.size, 0, none⟩) := by rw [← ha0]; rfl
              have hsz0 : a0.tmps.size = 103 := by rw [← ha0]; rfl
              have HA0 := hid ha0
              clear ha0
              refine wp_region_S 103 hsz0 [102, 104] [0, 1] ?_
              refine QSeq.pure rfl (.agg ((Ba.cells (Ba.mk (gI s).1 (rNum (gI s).2).1 acc1 acc2 acc3) (Value.slice aol1 acc1.length capl1) (Value.slice aol2 acc2.length capl2) (Value.slice aol3 acc3.length capl3))).toArray) (fun E => ex_loadA rfl Try.underlying60 rfl (off := 0) (cs := (Ba.cells (Ba.mk (gI s).1 (rNum (gI s).2).1 acc1 acc2 acc3) (Value.slice aol1 acc1.length capl1) (Value.slice aol2 acc2.length capl2) (Value.slice aol3 acc3.length capl3))) (by kernel_rfl) (E.v oe3) (Cs.whole HBXL3.out)) ?_
              refine QSeq.go fun act E => ?_
              refine qc_store rfl (wanted_none rfl) rfl HKP3_0.out (off := 0) (vs := (Ba.cells (Ba.mk (gI s).1 (rNum (gI s).2).1 acc1 acc2 acc3) (Value.slice aol1 acc1.length capl1) (Value.slice aol2 acc2.length capl2) (Value.slice aol3 acc3.length capl3))) (by kernel_rfl) (by intro u hu; simp only [Ba.cells, List.mem_cons, List.not_mem_nil, or_false] at hu; rcases hu with rfl | rfl | rfl | rfl | rfl <;> rfl) (by show 5 ≤ 5; decide) (E.v oe2) (by rw [show act.eval ((.tmp 102)) = _ from (E.d 0 0)]; rfl) ?_
              intro u23_1 qc0 hm
              have qB2 : Cs u23_1 (w.heap.size) ((Ba.cells (Ba.mk (gI s).1 (rNum (gI s).2).1 acc1 acc2 acc3) (Value.slice aol1 acc1.length capl1) (Value.slice aol2 acc2.length capl2) (Value.slice aol3 acc3.length capl3)) : List Value).toArray 60 := by rw [show lay _ 0 _ = ((Ba.cells (Ba.mk (gI s).1 (rNum (gI s).2).1 acc1 acc2 acc3) (Value.slice aol1 acc1.length capl1) (Value.slice aol2 acc2.length capl2) (Value.slice aol3 acc3.length capl3)) : List Value).toArray from lay_whole #[.int .i64 0, .int .u64 0, .slice none 0 0, .slice none 0 0, .slice none 0 0] _ rfl] at qc0; exact qc0
              clear qc0
              have Hx115 := hid qB2
              have zu23_1 := hm.size
              have Cx116 := hid (show Mod (fun k => (k = w.heap.size)) wl3 u23_1 from hm)
              clear hm
              clear act E qB2 HKP3_0
              refine QSeq.nil (t' := [_, _]) rfl ?_
              have ha0 := HA0.out
              subst ha0
              clear HA0 hsz0 oe2 oe3
              simp only [putAll, Act.put, List.setIfInBounds_toArray, List.set_cons_zero, List.set_cons_succ, List.set_nil]
              have h1 : (gList gPm (rNum (gI s).2).2).2 = st1 := (congrArg Prod.snd HGL1.out).trans HF1.out.1
              have h2 : (gList gOp st1).2 = st2 := (congrArg Prod.snd HGL2.out).trans HF2.out.1
              have h3 : (gList gTb st2).2 = st3 := (congrArg Prod.snd HGL3.out).trans HF3.out.1
              have hse : (gBa s).2 = st3 := by show (gList gTb (gList gOp (gList gPm _).2).2).2 = _; rw [h1, h2, h3]
              go_wp2
              exact bodyPost_ret (results_cellA rfl _ _ w.heap.size ((Ba.cells (Ba.mk (gI s).1 (rNum (gI s).2).1 acc1 acc2 acc3) (Value.slice aol1 acc1.length capl1) (Value.slice aol2 acc2.length capl2) (Value.slice aol3 acc3.length capl3))) rfl (fun k u hu => by rw [Hx115.out.cell]; simpa using hu) Try.underlying60 rfl (by kernel_rfl)) rfl ⟨_, (Ba.mk (gI s).1 (rNum (gI s).2).1 acc1 acc2 acc3), rfl, ⟨_, _, _, rfl, ⟨gI_I64 _, rNum_lt (gI_suf.bytes HBY.out)⟩, (HKP3_1.out.mod Cx116.out (by intro k h1 h2; omega) (by intro k h1 h2; omega)).rd.widen (by intro b h1; (try dsimp only at h1 ⊢); omega), (HKP3_2.out.mod Cx116.out (by intro k h1 h2; omega) (by intro k h1 h2; omega)).rd.widen (by intro b h1; (try dsimp only at h1 ⊢); omega), (HAL3.out.mod Cx116.out (by intro k h1 h2; omega) (by intro k h1 h2; omega)).rd.widen (by intro b h1; (try dsimp only at h1 ⊢); omega)⟩, (by rw [hse]; exact (HRL3.out.mod Cx116.out (by intro k h1 h2; have hb := HBR.out k h1; omega))), (fun h => by rw [hse] at h; have hn2 : st2 ≠ none := fun e => h (by rw [← h3, e]; exact (gList_suf gTb_suf).no); have hn1 : st1 ≠ none := fun e => hn2 (by rw [← h2, e]; exact (gList_suf gOp_suf).no); show Ba.mk _ _ _ _ _ = Ba.mk _ _ (gList gPm _).1 (gList gOp (gList gPm _).2).1 (gList gTb (gList gOp (gList gPm _).2).2).1; rw [h1, h2, HGL1.out, HGL2.out, HGL3.out, ← HF1.out.2 hn1, ← HF2.out.2 hn2, ← HF3.out.2 h]), (HML3.out.trans Cx116.out (by intro k h1 h2; first | exact h2 | omega))⟩
set_option maxHeartbeats 4000000 in
theorem Ref_Ba : Gets BaR 74 38 (gW zBa gBa) := by
  intro R r s w hR hB hl
  have HRD := Lib.hid hR
  have HBR := Lib.hid hB
  have HBY := hid hR.bytes
  have HLN := Lib.hid hl
  clear hR hB hl
  go_enter Try.func38, Try.ntmps38
  go_upto_region 1 with (fail)
  obtain ⟨w1, hw1⟩ : ∃ zz, zz = (w.alloc (.cells #[.int .i64 0, .int .u64 0, .slice none 0 0, .slice none 0 0, .slice none 0 0] 60)) := ⟨_, rfl⟩
  change Code.wp _ _ _ _ (w.alloc (.cells #[.int .i64 0, .int .u64 0, .slice none 0 0, .slice none 0 0, .slice none 0 0] 60))
  rw [← hw1]
  have HB2 := hid (show Cs w1 (w.heap.size) #[.int .i64 0, .int .u64 0, .slice none 0 0, .slice none 0 0, .slice none 0 0] 60 by rw [hw1]; exact Cs.new _ _ _)
  have hm : Mod (fun _ => False) w w1 := by rw [hw1]; exact (Mod.refl _ _).alloc _
  have HM0 := hid (show Mod (fun k => (R k)) w w1 from hm.mono (fun _ _ h => h.elim))
  have hs1 : w1.heap.size = w.heap.size + 1 := by rw [hw1]; simp
  have Hx1 := hid (HRD.out.mod hm (fun _ _ h => h))
  clear HRD
  clear hw1 hm
  obtain ⟨s2, hp2⟩ : ∃ z, z = (gBa s).2 := ⟨_, rfl⟩
  have HP2 := hid hp2.symm
  clear hp2
  go_upto_region 1 with (fail)
  generalize ha0 : Act.mk _ _ = a0
  have oe0 : a0.eval (.tmp 0) = .pointer (some ⟨r, 0, none⟩) := by rw [← ha0]; rfl
  have hsz0 : a0.tmps.size = 12 := by rw [← ha0]; rfl
  have HA0 := hid ha0
  clear ha0
  refine wp_region_S 12 hsz0 [4, 5, 3, 15] [0, 1, 2, 3] ?_
  refine QSeq.pure rfl (.pointer (some ⟨r, 0, none⟩)) (fun E => ex_move rfl (E.v oe0)) ?_
  refine QSeq.go fun act E => ?_
  refine qc_callF (args := #[.pointer (some ⟨r, 0, none⟩)]) rfl (wanted_none rfl) rfl Try.func91 (args1 (E.d 0 0)) (dBa_U.to HP2.out Hx1.out (by intro k h1; have hb := HBR.out k h1; omega) HLN.out) ?_
  rintro e u1_1 ⟨cs1, y1, rfl, qx1, qrd, hy1, hm⟩
  have HY1 := Lib.hid hy1
  have hcl : cs1.length = 5 := BaR.len qx1
  have HCL := Lib.hid hcl
  have HOC := hid (BaR.one qx1)
  clear hcl hy1
  refine ⟨_, rfl, ?_⟩
  have Hx2 := hid (qx1.widen (R' := (fun k => (New w1 u1_1 k))) (fun _ h => h))
  have Hx3 := hid qrd
  have zu1_1 := hm.size
  have Cx4 := hid (show Mod (fun k => (R k)) w1 u1_1 from hm)
  clear hm
  clear act E qx1 qrd Hx1
  refine QSeq.go fun act E => ?_
  refine qc_alloc rfl (wanted_none rfl) rfl (z := [.int .i64 0, .int .u64 0, .slice none 0 0, .slice none 0 0, .slice none 0 0]) (by kernel_rfl) ?_
  intro u1_2 qqx hm
  have zl1_2 := qqx.lt
  have Hx5 := hid qqx
  have zu1_2 := hm.size
  have HMu1_2 := hid hm
  have Cx6 := hid (Cx4.out.goE hm)
  clear hm Cx4
  clear act E qqx
  refine QSeq.go fun act E => ?_
  have hlz : (cs1).length = List.length ([.int .i64 0, .int .u64 0, .slice none 0 0, .slice none 0 0, .slice none 0 0] : List Value) := HCL.out
  refine qc_store rfl (wanted_none rfl) rfl Hx5.out (off := 0) (vs := cs1) (by rw [hlz]; kernel_rfl) HOC.out (by rw [hlz]; exact Nat.le_of_eq (Nat.zero_add _)) (E.d 2 0) (by rw [show act.eval ((.tmp 5)) = _ from (E.d 1 1)]; rfl) ?_
  intro u1_3 qc0 hm
  have qqx : Cs u1_3 (u1_1.heap.size) (cs1 : List Value).toArray 60 := by rw [show lay _ 0 _ = (cs1 : List Value).toArray from lay_whole #[.int .i64 0, .int .u64 0, .slice none 0 0, .slice none 0 0, .slice none 0 0] _ (by rw [hlz]; rfl)] at qc0; exact qc0
  clear qc0 hlz
  have Hx7 := hid qqx
  have zu1_3 := hm.size
  have HMu1_3 := hid hm
  have Cx8 := hid (Mod.goS (S' := (fun k => (R k))) Cx6.out hm (fun _ h => h) (by intro k h0 h2; omega))
  clear hm Cx6
  clear act E qqx Hx5
  have Hx9 := hid ((Hx3.out.mod HMu1_2.out (fun _ _ h => h)).mod HMu1_3.out (by intro k h1 h2; have hb := HBR.out k h1; omega))
  have Hx10 := hid ((Hx2.out.mod HMu1_2.out (fun _ _ h => h)).mod HMu1_3.out (by intro k h1 h2; omega))
  clear Hx3 Hx2 HMu1_2 HMu1_3
  refine QSeq.nil (t' := [_, _, _, _]) rfl ?_
  have ha0 := HA0.out
  subst ha0
  clear HA0 hsz0 oe0
  simp only [putAll, Act.put, List.setIfInBounds_toArray, List.set_cons_zero, List.set_cons_succ, List.set_nil]
  cases s2 with
  | none =>
    go_upto_region 2 with (fail)
    generalize ha0 : Act.mk _ _ = a0
    have oe0 : a0.eval (.tmp 0) = .pointer (some ⟨r, 0, none⟩) := by rw [← ha0]; rfl
    have hsz0 : a0.tmps.size = 12 := by rw [← ha0]; rfl
    have HA0 := hid ha0
    clear ha0
    refine wp_region_S 12 hsz0 [6, 7, 8, 9] [0, 1, 2, 3] ?_
    refine QSeq.pure rfl (.pointer (some ⟨r, 0, none⟩)) (fun E => ex_move rfl (E.v oe0)) ?_
    refine QSeq.pure rfl (.pointer (some ⟨r, 0, none⟩)) (fun E => ex_nil rfl (E.d 0 0)) ?_
    refine QSeq.pure rfl (.pointer (some ⟨r, 1, none⟩)) (fun E => ex_field rfl Try.underlying74 rfl (by kernel_rfl) (E.d 1 0)) ?_
    refine QSeq.pure rfl (.bool true) (fun E => ex_load1 rfl Try.underlying4 rfl (E.d 2 0) (RrR.bad Hx9.out)) ?_
    refine QSeq.nil (t' := [_, _, _, _]) rfl ?_
    have ha0 := HA0.out
    subst ha0
    clear HA0 hsz0 oe0
    simp only [putAll, Act.put, List.setIfInBounds_toArray, List.set_cons_zero, List.set_cons_succ]
    go_upto_region 3 with (fail)
    generalize ha0 : Act.mk _ _ = a0
    have oe2 : a0.eval (.tmp 2) = .pointer (some ⟨w.heap.size, 0, none⟩) := by rw [← ha0]; rfl
    have hsz0 : a0.tmps.size = 12 := by rw [← ha0]; rfl
    have HA0 := hid ha0
    clear ha0
    refine wp_region_S 12 hsz0 [10, 13] [0, 1] ?_
    refine QSeq.pure rfl (.agg #[.int .i64 0, .int .u64 0, .slice none 0 0, .slice none 0 0, .slice none 0 0]) (fun E => ex_build0 rfl (r := #[.int .i64 0, .int .u64 0, .slice none 0 0, .slice none 0 0, .slice none 0 0]) (by kernel_rfl)) ?_
    refine QSeq.go fun act E => ?_
    refine qc_store rfl (wanted_none rfl) rfl (HB2.out.mod Cx8.out (by intro h2; first | omega | (have hb := HBR.out _ h2; omega))) (off := 0) (vs := [.int .i64 0, .int .u64 0, .slice none 0 0, .slice none 0 0, .slice none 0 0]) (by kernel_rfl) (BaR.one (zBa_rd (fun _ => False) w)) (by show 5 ≤ 5; exact Nat.le_refl _) (E.v oe2) (by rw [show act.eval ((.tmp 10)) = _ from (E.d 0 0)]; rfl) ?_
    intro u3_1 qc0 hm
    have qB2 : Cs u3_1 (w.heap.size) #[.int .i64 0, .int .u64 0, .slice none 0 0, .slice none 0 0, .slice none 0 0] 60 := by rw [show lay _ 0 _ = #[.int .i64 0, .int .u64 0, .slice none 0 0, .slice none 0 0, .slice none 0 0] from lay_whole #[.int .i64 0, .int .u64 0, .slice none 0 0, .slice none 0 0, .slice none 0 0] [.int .i64 0, .int .u64 0, .slice none 0 0, .slice none 0 0, .slice none 0 0] rfl] at qc0; exact qc0
    clear qc0
    have Hx11 := hid qB2
    have zu3_1 := hm.size
    have Cx12 := hid (show Mod (fun k => (k = w.heap.size)) u1_3 u3_1 from hm)
    clear hm
    clear act E qB2 HB2
    refine QSeq.nil (t' := [_, _]) rfl ?_
    have ha0 := HA0.out
    subst ha0
    clear HA0 hsz0 oe2
    simp only [putAll, Act.put, List.setIfInBounds_toArray, List.set_cons_zero, List.set_cons_succ, List.set_nil]
    go_wp2
    exact bodyPost_ret (results_cellA rfl _ _ w.heap.size ([.int .i64 0, .int .u64 0, .slice none 0 0, .slice none 0 0, .slice none 0 0]) rfl (fun k u hu => by rw [Hx11.out.cell]; simpa using hu) Try.underlying60 rfl (by kernel_rfl)) rfl ⟨_, rfl, (by show BaR.rd _ _ _ (if (gBa s).2.isSome then _ else _); rw [HP2.out]; exact zBa_rd _ _), (by show RrR _ _ _ _ (gBa s).2; rw [HP2.out]; exact (Hx9.out.mod Cx12.out (by intro k h1 h2; have hb := HBR.out k h1; omega))), ((HM0.out.trans Cx8.out (fun _ _ h => h)).trans Cx12.out (by intro k h1 h2; first | exact h2 | omega))⟩
  | some l2 =>
    go_upto_region 2 with (fail)
    generalize ha0 : Act.mk _ _ = a0
    have oe0 : a0.eval (.tmp 0) = .pointer (some ⟨r, 0, none⟩) := by rw [← ha0]; rfl
    have hsz0 : a0.tmps.size = 12 := by rw [← ha0]; rfl
    have HA0 := hid ha0
    clear ha0
    refine wp_region_S 12 hsz0 [6, 7, 8, 9] [0, 1, 2, 3] ?_
    refine QSeq.pure rfl (.pointer (some ⟨r, 0, none⟩)) (fun E => ex_move rfl (E.v oe0)) ?_
    refine QSeq.pure rfl (.pointer (some ⟨r, 0, none⟩)) (fun E => ex_nil rfl (E.d 0 0)) ?_
    refine QSeq.pure rfl (.pointer (some ⟨r, 1, none⟩)) (fun E => ex_field rfl Try.underlying74 rfl (by kernel_rfl) (E.d 1 0)) ?_
    refine QSeq.pure rfl (.bool false) (fun E => ex_load1 rfl Try.underlying4 rfl (E.d 2 0) (RrR.bad Hx9.out)) ?_
    refine QSeq.nil (t' := [_, _, _, _]) rfl ?_
    have ha0 := HA0.out
    subst ha0
    clear HA0 hsz0 oe0
    simp only [putAll, Act.put, List.setIfInBounds_toArray, List.set_cons_zero, List.set_cons_succ]
    go_upto_region 4 with (fail)
    generalize ha0 : Act.mk _ _ = a0
    have oe2 : a0.eval (.tmp 2) = .pointer (some ⟨w.heap.size, 0, none⟩) := by rw [← ha0]; rfl
    have oe3 : a0.eval (.tmp 3) = .pointer (some ⟨u1_1.heap.size, 0, none⟩) := by rw [← ha0]; rfl
    have hsz0 : a0.tmps.size = 12 := by rw [← ha0]; rfl
    have HA0 := hid ha0
    clear ha0
    refine wp_region_S 12 hsz0 [11, 13] [0, 1] ?_
    refine QSeq.pure rfl (.agg cs1.toArray) (fun E => ex_loadA rfl Try.underlying60 rfl (off := 0) (cs := cs1) (by rw [HCL.out]; kernel_rfl) (E.v oe3) (Cs.whole Hx7.out)) ?_
    refine QSeq.go fun act E => ?_
    refine qc_store rfl (wanted_none rfl) rfl (HB2.out.mod Cx8.out (by intro h2; first | omega | (have hb := HBR.out _ h2; omega))) (off := 0) (vs := cs1) (by rw [HCL.out]; kernel_rfl) HOC.out (by rw [HCL.out]; decide) (E.v oe2) (by rw [show act.eval ((.tmp 11)) = _ from (E.d 0 0)]; rfl) ?_
    intro u4_1 qc0 hm
    have qB2 : Cs u4_1 (w.heap.size) (cs1 : List Value).toArray 60 := by rw [show lay _ 0 _ = (cs1 : List Value).toArray from lay_whole _ _ (by rw [HCL.out]; rfl)] at qc0; exact qc0
    clear qc0
    have Hx13 := hid qB2
    have zu4_1 := hm.size
    have Cx14 := hid (show Mod (fun k => (k = w.heap.size)) u1_3 u4_1 from hm)
    clear hm
    clear act E qB2 HB2
    refine QSeq.nil (t' := [_, _]) rfl ?_
    have ha0 := HA0.out
    subst ha0
    clear HA0 hsz0 oe2 oe3
    simp only [putAll, Act.put, List.setIfInBounds_toArray, List.set_cons_zero, List.set_cons_succ, List.set_nil]
    go_wp2
    exact bodyPost_ret (results_cellA rfl _ _ w.heap.size (cs1) rfl (fun k u hu => by rw [Hx13.out.cell]; simpa using hu) Try.underlying60 rfl (by rw [HCL.out]; kernel_rfl)) rfl ⟨_, rfl, (by show BaR.rd _ _ _ (if (gBa s).2.isSome then (gBa s).1 else _); rw [← HY1.out (by simp), HP2.out]; exact ((Hx10.out.mod Cx14.out (by intro k h1 h2; omega)).widen (R' := (fun k => New w u4_1 k)) (by intro k h1; omega))), (by show RrR _ _ _ _ (gBa s).2; rw [HP2.out]; exact (Hx9.out.mod Cx14.out (by intro k h1 h2; have hb := HBR.out k h1; omega))), ((HM0.out.trans Cx8.out (fun _ _ h => h)).trans Cx14.out (by intro k h1 h2; first | exact h2 | omega))⟩
end Go.Proofs.Ytknpapcfhnhheaa

/- Equality of commitments, names and signatures. -/
set_option maxRecDepth 100000
namespace Go.Proofs.Ytknpapcfhnhheaa
open Go Go.RowKit Go.Gv
theorem size_run {P : Program} {T : TypeId} {n : Nat} (h : (P.info? T).map (·.size) = some n) (w : World) : (sizeOf T).run P w = .ok n w := by
  cases hq : P.info? T with
  | none => rw [hq] at h; cases h
  | some i => rw [hq] at h; simp [sizeOf, typeInfo, hq]; exact Option.some.inj h
theorem part_agg {P : Program} {T : TypeId} {n : Nat} {d : TypeDesc} (hu : P.underlying T = some d) (hd : aggDesc d = true) (h : (P.info? T).map (·.size) = some n) (cs : Array Value) (off : Nat) (w : World) : (part T cs off).run P w = .ok (.agg (cs.extract off (off + n))) w := by
  have hagg : (isAgg T).run P w = .ok true w := by
    unfold isAgg
    rw [Sem.run_bind, run_underlying hu w]
    cases d <;> simp_all [aggDesc]
  simp [part, hagg, size_run h]
theorem part_one {P : Program} {T : TypeId} {d : TypeDesc} (hu : P.underlying T = some d) (hd : aggDesc d = false) {cs : Array Value} {off : Nat} {v : Value} (hv : cs[off]? = some v) (w : World) : (part T cs off).run P w = .ok v w := by
  have hagg : (isAgg T).run P w = .ok false w := by
    unfold isAgg
    rw [Sem.run_bind, run_underlying hu w]
    cases d <;> simp_all [aggDesc]
  simp [part, hagg, hv]
end Go.Proofs.Ytknpapcfhnhheaa

/- Equality of flat things (all cells are ints): they are equal where their cells are. -/
set_option maxRecDepth 100000
set_option linter.unusedVariables false
namespace Go.Proofs.Ytknpapcfhnhheaa
open Go Go.RowKit Go.Gv

/-- cells that are ints of these kinds -/
def KI : List IntKind → List Value → Prop
  | [], [] => True
  | k :: ks, v :: vs => (∃ a, v = .int k a) ∧ KI ks vs
  | _, _ => False
theorem KI.len : ∀ {ks : List IntKind} {vs : List Value}, KI ks vs → vs.length = ks.length
  | [], [], _ => rfl
  | k :: ks, v :: vs, h => by simp [KI.len h.2]
  | [], v :: vs, h => h.elim
  | k :: ks, [], h => h.elim
theorem KI.append : ∀ {ks ks' : List IntKind} {a b : List Value}, KI ks a → KI ks' b → KI (ks ++ ks') (a ++ b)
  | [], ks', [], b, _, h => h
  | k :: ks, ks', v :: vs, b, h, h' => ⟨h.1, KI.append h.2 h'⟩
  | [], _, v :: vs, _, h, _ => h.elim
  | k :: ks, _, [], _, h, _ => h.elim
theorem KI.split : ∀ {ks ks' : List IntKind} {vs : List Value}, KI (ks ++ ks') vs → ∃ a b, vs = a ++ b ∧ KI ks a ∧ KI ks' b
  | [], ks', vs, h => ⟨[], vs, rfl, trivial, h⟩
  | k :: ks, ks', v :: vs, h => by
    obtain ⟨a, b, rfl, h1, h2⟩ := KI.split h.2
    exact ⟨v :: a, b, rfl, ⟨h.1, h1⟩, h2⟩
  | k :: ks, _, [], h => h.elim
theorem KI.ints {k : IntKind} : ∀ {n : Nat} {h : List Int}, h.length = n → KI (List.replicate n k) (h.map (Value.int k))
  | 0, [], _ => trivial
  | n + 1, a :: h, e => ⟨⟨a, rfl⟩, KI.ints (by simpa using e)⟩
theorem KI.rep {k : IntKind} : ∀ {n : Nat} {vs : List Value}, KI (List.replicate n k) vs → ∃ h : List Int, h.length = n ∧ vs = h.map (Value.int k)
  | 0, [], _ => ⟨[], rfl, rfl⟩
  | 0, v :: vs, h => h.elim
  | n + 1, [], h => h.elim
  | n + 1, v :: vs, h => by
    obtain ⟨a, rfl⟩ := h.1
    obtain ⟨l, e, rfl⟩ := KI.rep h.2
    exact ⟨a :: l, by simp [e], rfl⟩
def EqW (P : Program) (d : Nat) (T : TypeId) (ks : List IntKind) : Prop := ∀ (xs ys : List Value) (c : Bool) (w : World), KI ks xs → KI ks ys → (c = true ↔ xs = ys) → (Op.equalIn d T (.agg xs.toArray) (.agg ys.toArray)).run P w = .ok c w
def EqT (P : Program) (d : Nat) (T : TypeId) (ks : List IntKind) : Prop := ∀ (A B : List Value) (off : Nat) (xs ys : List Value) (c : Bool) (w : World), KI ks xs → KI ks ys → (c = true ↔ xs = ys) → (A.drop off).take ks.length = xs → (B.drop off).take ks.length = ys →
  ∃ x y, (part T A.toArray off).run P w = .ok x w ∧ (part T B.toArray off).run P w = .ok y w ∧ (Op.equalIn d T x y).run P w = .ok c w
theorem ex_bool (p : Prop) : ∃ c : Bool, (c = true ↔ p) := by
  rcases Classical.em p with h | h
  · exact ⟨true, by simp [h]⟩
  · exact ⟨false, by simp [h]⟩
theorem bool_of {c d : Bool} (h : c = true ↔ d = true) : c = d := by cases c <;> cases d <;> simp_all
variable {P : Program}
theorem drop_one {A : List Value} {off : Nat} {v : Value} (h : (A.drop off).take 1 = [v]) : A.toArray[off]? = some v := by
  have h1 : ((A.drop off).take 1)[0]? = some v := by rw [h]; rfl
  rw [List.getElem?_take, List.getElem?_drop] at h1
  simpa using h1
theorem EqT.int {d : Nat} {T : TypeId} {k : IntKind} (hu : P.underlying T = some (.int k)) : EqT P (d + 1) T [k] := by
  intro A B off xs ys c w hx hy hc ha hb
  match xs, ys, hx, hy with
  | [x], [y], ⟨⟨a, e⟩, _⟩, ⟨⟨b, e'⟩, _⟩ =>
    subst e e'
    refine ⟨_, _, part_one hu rfl (drop_one ha) w, part_one hu rfl (drop_one hb) w, ?_⟩
    rw [run_equalIn_int w d T k k a b hu, show (a == b) = c from bool_of (by rw [hc]; simp)]
theorem EqT.agg {d : Nat} {T : TypeId} {ks : List IntKind} {de : TypeDesc} (h : EqW P d T ks) (hu : P.underlying T = some de) (hd : aggDesc de = true) (hs : (P.info? T).map (·.size) = some ks.length) : EqT P d T ks := by
  intro A B off xs ys c w hx hy hc ha hb
  have e : ∀ (A : List Value), A.toArray.extract off (off + ks.length) = ((A.drop off).take ks.length).toArray := fun A => by
    apply Array.ext'
    simp [List.extract_eq_take_drop, Nat.add_sub_cancel_left]
  have p1 := part_agg hu hd hs A.toArray off w
  have p2 := part_agg hu hd hs B.toArray off w
  rw [e, ha] at p1
  rw [e, hb] at p2
  exact ⟨_, _, p1, p2, h xs ys c w hx hy hc⟩
theorem EqW.ints {d : Nat} {T e : TypeId} {n : Nat} {k : IntKind} (ht : P.underlying T = some (.array n e)) (he : P.underlying e = some (.int k)) (hs : (P.info? e).map (·.size) = some 1) : EqW P (d + 2) T (List.replicate n k) := by
  intro xs ys c w hx hy hc
  obtain ⟨a, ha, rfl⟩ := hx.rep
  obtain ⟨b, hb, rfl⟩ := hy.rep
  rw [run_equalIn_ints w d T e n ht he hs a b ha hb]
  rw [show decide (a = b) = c from bool_of (by
    rw [hc, decide_eq_true_iff]
    exact ⟨fun h => by rw [h], fun h => (List.map_inj_right (fun x y h => by injection h)).1 h⟩)]
def FsE (P : Program) (d : Nat) : Nat → List Field → List (List IntKind) → Prop
  | _, [], [] => True
  | off, f :: fs, ks :: l => f.name ≠ "_" ∧ f.offset = off ∧ EqT P d f.type ks ∧ FsE P d (off + ks.length) fs l
  | _, _, _ => False
theorem eqFields_all {d : Nat} : ∀ (fs : List Field) (l : List (List IntKind)) (pre pre' xs ys : List Value) (c : Bool) (w : World), FsE P d pre.length fs l → pre'.length = pre.length → KI l.flatten xs → KI l.flatten ys → (c = true ↔ xs = ys) →
    (Op.eqFields d (pre ++ xs).toArray (pre' ++ ys).toArray fs).run P w = .ok c w
  | [], [], pre, pre', xs, ys, c, w, _, _, hx, hy, hc => by
    match xs, ys, hx, hy, hc with
    | [], [], _, _, hc => obtain rfl : c = true := hc.2 rfl; simp [Op.eqFields]
  | [], _ :: _, _, _, _, _, _, _, h, _, _, _, _ => h.elim
  | _ :: _, [], _, _, _, _, _, _, h, _, _, _, _ => h.elim
  | f :: fs, ks :: l, pre, pre', xs, ys, c, w, ⟨h1, h2, h3, h4⟩, hp, hx, hy, hc => by
    obtain ⟨a, b, rfl, ha, hb⟩ := KI.split (by simpa using hx)
    obtain ⟨a', b', rfl, ha', hb'⟩ := KI.split (by simpa using hy)
    have la := ha.len
    have la' := ha'.len
    obtain ⟨c1, hc1⟩ := ex_bool (a = a')
    obtain ⟨c2, hc2⟩ := ex_bool (b = b')
    obtain ⟨x, y, p1, p2, q⟩ := h3 (pre ++ (a ++ b)) (pre' ++ (a' ++ b')) pre.length a a' c1 w ha ha' hc1 (by rw [List.drop_left, ← la, List.take_left]) (by rw [← hp, List.drop_left, ← la', List.take_left])
    have ih := eqFields_all fs l (pre ++ a) (pre' ++ a') b b' c2 w (by rw [List.length_append, la]; exact h4) (by rw [List.length_append, List.length_append, hp, la, la']) hb hb' hc2
    rw [List.append_assoc, List.append_assoc] at ih
    unfold Op.eqFields
    rw [if_pos h1, h2]
    simp only [Sem.run_bind, p1, p2, q, Result.andThen_ok]
    have hcc : c = (c1 && c2) := bool_of (by
      rw [hc, Bool.and_eq_true, hc1, hc2]
      exact ⟨fun h => List.append_inj h (by rw [la, la']), fun h => by rw [h.1, h.2]⟩)
    subst hcc
    cases c1
    · simp
    · simp [ih]
theorem EqW.struct {d : Nat} {T : TypeId} {fs : Array Field} (l : List (List IntKind)) (hu : P.underlying T = some (.struct fs)) (hs : P.stoodInHeld T = false) (hl : FsE P d 0 fs.toList l) : EqW P (d + 1) T l.flatten := by
  intro xs ys c w hx hy hc
  have hf : P.fieldsOf T = fs := by unfold Program.fieldsOf; rw [hu]
  rw [run_equalIn_struct w d T xs.toArray ys.toArray (by rw [hf]; exact hu) hs, hf]
  exact eqFields_all fs.toList l [] [] xs ys c w hl rfl hx hy hc
theorem EqW.run {T : TypeId} {ks : List IntKind} (h : EqW P 10000 T ks) {xs ys : List Value} (hx : KI ks xs) (hy : KI ks ys) {c : Bool} (hc : c = true ↔ xs = ys) (w : World) : (binOp .eql T (.agg xs.toArray) (.agg ys.toArray)).run P w = .ok (.bool (c)) w := by
  rw [run_eql_struct, h xs ys c w hx hy hc]
  rfl
theorem EqW.runN {T : TypeId} {ks : List IntKind} (h : EqW P 10000 T ks) {xs ys : List Value} (hx : KI ks xs) (hy : KI ks ys) {c : Bool} (hc : c = true ↔ xs = ys) (w : World) : (binOp .neq T (.agg xs.toArray) (.agg ys.toArray)).run P w = .ok (.bool (!c)) w := by
  rw [run_neq_struct, h xs ys c w hx hy hc]
  rfl
abbrev kHash : List IntKind := List.replicate 32 .u8
theorem eqT_int {d : Nat} : EqT Try.prog (d + 1) 3 [.i64] := EqT.int Try.underlying3
theorem eqT_u64 {d : Nat} : EqT Try.prog (d + 1) 26 [.u64] := EqT.int Try.underlying26
theorem eqT_hash {d : Nat} : EqT Try.prog (d + 2) 25 kHash := EqT.agg (EqW.ints Try.underlying25 Try.underlying5 (by kernel_rfl)) Try.underlying25 rfl (by kernel_rfl)
theorem eqW_name {d : Nat} : EqW Try.prog (d + 2) 23 [.i64, .i64] := EqW.struct [[.i64], [.i64]] Try.underlying23 (by kernel_rfl) ⟨by decide, rfl, eqT_int, by decide, rfl, eqT_int, trivial⟩
theorem eqT_name {d : Nat} : EqT Try.prog (d + 2) 23 [.i64, .i64] := EqT.agg eqW_name Try.underlying23 rfl (by kernel_rfl)
theorem eqW_sig {d : Nat} : EqW Try.prog (d + 2) 28 [.i64, .i64] := EqW.struct [[.i64], [.i64]] Try.underlying28 (by kernel_rfl) ⟨by decide, rfl, eqT_int, by decide, rfl, eqT_int, trivial⟩
theorem eqT_sig {d : Nat} : EqT Try.prog (d + 2) 28 [.i64, .i64] := EqT.agg eqW_sig Try.underlying28 rfl (by kernel_rfl)
theorem eqW_stamp {d : Nat} : EqW Try.prog (d + 3) 30 [[.i64], [.i64, .i64], kHash, [.u64], [.i64, .i64]].flatten :=
  EqW.struct [[.i64], [.i64, .i64], kHash, [.u64], [.i64, .i64]] Try.underlying30 (by kernel_rfl) ⟨by decide, rfl, eqT_int, by decide, rfl, eqT_name, by decide, rfl, eqT_hash, by decide, rfl, eqT_u64, by decide, rfl, eqT_sig, trivial⟩
theorem eqW_deny {d : Nat} : EqW Try.prog (d + 3) 34 [[.i64], [.i64], [.i64, .i64]].flatten :=
  EqW.struct [[.i64], [.i64], [.i64, .i64]] Try.underlying34 (by kernel_rfl) ⟨by decide, rfl, eqT_int, by decide, rfl, eqT_int, by decide, rfl, eqT_sig, trivial⟩
theorem eqW_commit {d : Nat} : EqW Try.prog (d + 3) 49 [[.i64, .i64], kHash, [.i64], [.i64, .i64]].flatten :=
  EqW.struct [[.i64, .i64], kHash, [.i64], [.i64, .i64]] Try.underlying49 (by kernel_rfl) ⟨by decide, rfl, eqT_name, by decide, rfl, eqT_hash, by decide, rfl, eqT_int, by decide, rfl, eqT_sig, trivial⟩
theorem ki_hash {h : List Int} (e : h.length = 32) : KI kHash (h.map bv) := KI.ints e
theorem ki_st {x : St} (h : x.OK) : KI [[.i64], [.i64, .i64], kHash, [.u64], [.i64, .i64]].flatten x.cells := by
  have := KI.append (ks := [.i64, .i64, .i64]) (a := [.int .i64 x.rp, .int .i64 x.cl, .int .i64 x.sq]) ⟨⟨_, rfl⟩, ⟨_, rfl⟩, ⟨_, rfl⟩, trivial⟩ (KI.append (ki_hash h.h.1) (ks' := [.u64, .i64, .i64]) (b := [.int .u64 (x.tm : Nat), .int .i64 x.sb, .int .i64 x.mr]) ⟨⟨_, rfl⟩, ⟨_, rfl⟩, ⟨_, rfl⟩, trivial⟩)
  exact this
theorem ki_dn (x : Dn) : KI [[.i64], [.i64], [.i64, .i64]].flatten x.cells := ⟨⟨_, rfl⟩, ⟨_, rfl⟩, ⟨_, rfl⟩, ⟨_, rfl⟩, trivial⟩
theorem ki_cm {x : Cm} (h : x.h.length = 32) : KI [[.i64, .i64], kHash, [.i64], [.i64, .i64]].flatten x.cells := by
  have := KI.append (ks := [.i64, .i64]) (a := [.int .i64 x.cl, .int .i64 x.sq]) ⟨⟨_, rfl⟩, ⟨_, rfl⟩, trivial⟩ (KI.append (ki_hash h) (ks' := [.i64, .i64, .i64]) (b := [.int .i64 x.ln, .int .i64 x.sb, .int .i64 x.mr]) ⟨⟨_, rfl⟩, ⟨_, rfl⟩, ⟨_, rfl⟩, trivial⟩)
  exact this
end Go.Proofs.Ytknpapcfhnhheaa

/- Whether two things are one, in plain words. -/
set_option maxRecDepth 100000
set_option linter.unusedVariables false
namespace Go.Proofs.Ytknpapcfhnhheaa
open Go Go.RowKit Go.Gv


noncomputable def eqb {α : Type} (x y : α) : Bool := @decide (x = y) (Classical.propDecidable _)
theorem eqb_iff {α : Type} {x y : α} : eqb x y = true ↔ x = y := by unfold eqb; exact @decide_eq_true_iff _ (Classical.propDecidable _)
theorem eqb_rfl {α : Type} (x : α) : eqb x x = true := eqb_iff.2 rfl
theorem eqb_ne {α : Type} {x y : α} (h : ¬ x = y) : eqb x y = false := by
  cases hq : eqb x y with
  | false => rfl
  | true => exact absurd (eqb_iff.1 hq) h
theorem ne_tt {a b : Int} (h : a ≠ b) : (!(a == b)) = true := by simp [h]
theorem ne_ff {a b : Int} (h : a = b) : (!(a == b)) = false := by simp [h]
theorem dec_eqb {α : Type} (x y : α) [h : Decidable (x = y)] : decide (x = y) = eqb x y := by
  rw [Bool.eq_iff_iff, eqb_iff, decide_eq_true_iff]
theorem agg_guardE (op : BinOp) (T : TypeId) (x y : Operand) (a b : Array Value) (h : Try.prog.eqGuardType Try.prog.depth T = false) (w : World) : (eqGuard op T x y (.agg a) (.agg b)).run Try.prog w = .ok () w := run_eqGuard_agg (P := Try.prog) w op T x y a b h
theorem hash_inj {a b : List Int} (h : a.map bv = b.map bv) : a = b := (List.map_inj_right (fun a b e => by injection e)).1 h
theorem ki_2 (a b : Int) : KI [.i64, .i64] [Value.int .i64 a, Value.int .i64 b] := ⟨⟨_, rfl⟩, ⟨_, rfl⟩, trivial⟩
theorem two_iff (a b c d : Int) : eqb (a, b) (c, d) = true ↔ ([Value.int .i64 a, Value.int .i64 b] = [Value.int .i64 c, Value.int .i64 d]) := by
  rw [eqb_iff]
  simp
theorem st_iff {x y : St} (hx : x.OK) (hy : y.OK) : eqb x y = true ↔ x.cells = y.cells := by
  rw [eqb_iff]
  refine ⟨fun h => by rw [h], fun h => ?_⟩
  have h1 := List.append_inj h rfl
  have h2 := List.append_inj h1.2 (by simp [hx.h.1, hy.h.1])
  have h3 := hash_inj h2.1
  have h4 := h1.1
  have h5 := h2.2
  simp only [List.cons.injEq, Value.int.injEq, and_true, true_and, Int.ofNat_inj] at h4 h5
  cases x; cases y
  simp_all
theorem cm_iff {x y : Cm} (hx : x.OK) (hy : y.OK) : eqb x y = true ↔ x.cells = y.cells := by
  rw [eqb_iff]
  refine ⟨fun h => by rw [h], fun h => ?_⟩
  have h1 := List.append_inj h rfl
  have h2 := List.append_inj h1.2 (by simp [hx.2.1, hy.2.1])
  have h3 := hash_inj h2.1
  have h4 := h1.1
  have h5 := h2.2
  simp only [List.cons.injEq, Value.int.injEq, and_true, true_and, Int.ofNat_inj] at h4 h5
  cases x; cases y
  simp_all
theorem dn_iff {x y : Dn} (hx : x.OK) (hy : y.OK) : eqb x y = true ↔ x.cells = y.cells := by
  rw [eqb_iff]
  refine ⟨fun h => by rw [h], fun h => ?_⟩
  simp only [Dn.cells, List.cons.injEq, Value.int.injEq, and_true, true_and] at h
  cases x; cases y
  simp_all
theorem ce_eqb (x y : Ce) : (eqb x.c y.c && eqb x.l y.l) = eqb x y := by
  rw [Bool.eq_iff_iff, Bool.and_eq_true, eqb_iff, eqb_iff, eqb_iff]
  cases x; cases y
  simp
theorem beq_I (a b : Int) : (a == b) = true ↔ a = b := by simp
theorem pm_eqb (x y : Pm) : (((((x.rp == y.rp) && (x.ep == y.ep)) && (((x.fl : Nat) : Int) == ((y.fl : Nat) : Int))) && eqb (x.sb, x.mr) (y.sb, y.mr)) && eqb x.l y.l) = eqb x y := by
  rw [Bool.eq_iff_iff]
  simp only [Bool.and_eq_true, eqb_iff, beq_I, Int.ofNat_inj, Prod.mk.injEq]
  cases x; cases y
  simp only [Pm.mk.injEq]
  constructor
  · rintro ⟨⟨⟨⟨h1, h2⟩, h3⟩, h4, h5⟩, h6⟩; exact ⟨h1, h2, h3, h6, h4, h5⟩
  · rintro ⟨h1, h2, h3, h6, h4, h5⟩; exact ⟨⟨⟨⟨h1, h2⟩, h3⟩, h4, h5⟩, h6⟩
theorem op_eqb (x y : Op) : (((x.ix == y.ix) && eqb x.nc y.nc) && eqb x.pl y.pl) = eqb x y := by
  rw [Bool.eq_iff_iff]
  simp only [Bool.and_eq_true, eqb_iff, beq_I]
  cases x; cases y
  simp only [Op.mk.injEq]
  constructor
  · rintro ⟨⟨h1, h2⟩, h3⟩; exact ⟨h1, h3, h2⟩
  · rintro ⟨h1, h3, h2⟩; exact ⟨⟨h1, h2⟩, h3⟩
theorem tb_eqb (x y : Tb) : ((!(x.ix == y.ix)) || (!eqb x.l y.l)) = !eqb x y := by
  have h : ((x.ix == y.ix) && eqb x.l y.l) = eqb x y := by
    rw [Bool.eq_iff_iff]
    simp only [Bool.and_eq_true, eqb_iff, beq_I]
    cases x; cases y
    simp
  rw [← h]
  cases (x.ix == y.ix) <;> cases eqb x.l y.l <;> rfl
theorem ba_eqb (x y : Ba) (h : (((((!(x.ep == y.ep)) || (!(((x.tm : Nat) : Int) == ((y.tm : Nat) : Int)))) || (!(((x.ps.length : Nat) : Int) == ((y.ps.length : Nat) : Int)))) || (!eqb x.os y.os)) || (!eqb x.ts y.ts)) = false) : eqb x.ps y.ps = eqb x y := by
  simp only [Bool.or_eq_false_iff, Bool.not_eq_false', eqb_iff, beq_I, Int.ofNat_inj] at h
  obtain ⟨⟨⟨⟨h1, h2⟩, h3⟩, h4⟩, h5⟩ := h
  rw [Bool.eq_iff_iff, eqb_iff, eqb_iff]
  cases x; cases y
  simp_all
theorem ba_neb (x y : Ba) (h : (((((!(x.ep == y.ep)) || (!(((x.tm : Nat) : Int) == ((y.tm : Nat) : Int)))) || (!(((x.ps.length : Nat) : Int) == ((y.ps.length : Nat) : Int)))) || (!eqb x.os y.os)) || (!eqb x.ts y.ts)) = true) : eqb x y = false := by
  refine eqb_ne fun e => ?_
  subst e
  simp [eqb_rfl] at h
theorem take_ne {α : Type} {l m : List α} {k : Nat} (h1 : k < l.length) (h2 : k < m.length) (h : ¬ l[k] = m[k]) : eqb l m = false := eqb_ne fun e => h (by subst e; rfl)
theorem take_all {α : Type} {l m : List α} {k : Nat} (h1 : l.length ≤ k) (h2 : m.length ≤ k) (h : l.take k = m.take k) : eqb l m = true := by
  rw [List.take_of_length_le h1, List.take_of_length_le h2] at h
  exact eqb_iff.2 h
theorem take_succ2 {α : Type} {l m : List α} {k : Nat} (h1 : k < l.length) (h2 : k < m.length) (h : l.take k = m.take k) (he : l[k] = m[k]) : l.take (k + 1) = m.take (k + 1) := by
  rw [List.take_succ_eq_append_getElem h1, List.take_succ_eq_append_getElem h2, h, he]
/-- a function that says whether two things are one; two lists -/
def Eqs {α : Type} (A : Rep α) (F : FuncId) : Prop := ∀ (R R2 : Nat → Prop) (cs ds : List Value) (x y : α) (w : World), A.rd R w cs x → A.rd R2 w ds y → (∀ k, R k → k < w.heap.size) → (∀ k, R2 k → k < w.heap.size) →
  Calls Try.prog F #[.agg cs.toArray, .agg ds.toArray] w fun e w' => e = .returned (.bool (eqb x y)) ∧ Mod (fun _ => False) w w'
def EqsL {α : Type} (A : Rep α) (F : FuncId) : Prop := ∀ (R R2 : Nat → Prop) (v v2 : Value) (l m : List α) (w : World), RdS A R w v l → RdS A R2 w v2 m → (∀ k, R k → k < w.heap.size) → (∀ k, R2 k → k < w.heap.size) →
  Calls Try.prog F #[v, v2] w fun e w' => e = .returned (.bool (eqb l m)) ∧ Mod (fun _ => False) w w'
theorem Same_B {R R2 : Nat → Prop} {N N2 : Nat} {va vb : Value} {a b : List Int} {w : World} (ha : RdR R N w va a) (hb : RdR R2 N2 w vb b) :
    Calls Try.prog 18 #[va, vb] w fun e w' => e = .returned (.bool (eqb a b)) ∧ Mod (fun _ => False) w w' :=
  (Same_R ha hb).mono fun _ _ ⟨he, hm⟩ => ⟨he.trans (by rw [dec_eqb]), hm⟩
end Go.Proofs.Ytknpapcfhnhheaa
