/- NetLooks: to look changes nothing; what is looked at is what is taken: for every list of kinds and every list of places the law returns true. No condition. -/
import Derived.Test.YtekbmpjdombedaaNlP5
import Derived.ProofKit
import Derived.OpenShut
import Derived.ChangeOld
set_option maxRecDepth 100000
set_option linter.unusedVariables false
/- NetLooks: the walk. -/
namespace Go.Proofs.Ytekbmpjdombedaa
open Go Go.RowKit Go.Gv

set_option maxHeartbeats 8000000 in
theorem NetLooks_walk (ks ts : List Int) (vk vt : Value) (w : World) (hk : RdS InR (fun k => k < w.heap.size) w vk ks) (ht : RdS InR (fun k => k < w.heap.size) w vt ts) : Calls Try.prog 4 #[vk, vt] w fun e w' => e = .returned (.bool true) ∧ Mod (fun _ => False) w w' := by
 obtain ⟨ak, capk, rfl⟩ := hk.shape
 obtain ⟨at_, capt, rfl⟩ := ht.shape
 have HKS := Lib.hid hk
 have HTS := Lib.hid ht
 clear hk ht
 go_enter Try.func4, Try.ntmps4
 go_upto_region 1 with (fail)
 have HM0 := hid (Mod.refl (fun _ => False) w)
 go_upto_region 1 with (fail)
 refine wp_region_U 129 [19, 18, 20, 21, 5, 6] [0, 1, 2, 3, 4, 5] (fun a0 HA0 => ?_)
 refine QSeq.call rfl rfl Try.func7 (NNew_Q (mo := 30) (by decide) _) (fun E => args1 rfl) ?_
 rintro e u1_0 ⟨x, rfl, qnt, hm⟩
 refine ⟨_, rfl, ?_⟩
 have Hx1 := hid qnt
 have zu1_0 := hm.size
 have Cx2 := hid (show Mod (fun _ => False) w u1_0 from hm)
 clear hm
 clear qnt
 refine QSeq.pure rfl _ (fun E => ex_move rfl (E.d 0 0)) ?_
 refine QSeq.pure rfl (.pointer (some ⟨x, 0, none⟩)) (fun E => ex_extract rfl (E.d 1 0) rfl) ?_
 refine QSeq.pure rfl (.int .i64 0) (fun E => ex_extract rfl (E.d 1 1) rfl) ?_
 refine QSeq.pure rfl _ (fun E => ex_assign rfl (E.d 2 1)) ?_
 refine QSeq.pure rfl _ (fun E => ex_assign rfl (E.d 3 1)) ?_
 refine QSeq.nil (t' := [_, _, _, _, _, _]) rfl ?_
 obtain rfl := HA0.out
 clear HA0
 simp only [pz, Act.put, List.setIfInBounds_toArray, List.set_cons_zero, List.set_cons_succ]
 go_upto_region 2 with (fail)
 refine wp_region_U 129 [22, 23, 24, 25, 26, 27] [0, 1, 2, 3, 4, 5] (fun a0 HA0 => ?_)
 have oe5 := ev HA0 5 rfl
 have oe6 := ev HA0 6 rfl
 refine QSeq.pure rfl _ (fun E => ex_move rfl (E.v oe6)) ?_
 refine QSeq.pure rfl (.bool false) (fun E => ex_binE rfl (E.d 0 0) rfl (guard_ints _ _ _ _ _ _) (run_neq_i _ _ _ Try.underlying24) (congrArg Value.bool (show _ = false from rfl))) ?_
 refine QSeq.pure rfl _ (fun E => ex_move rfl (E.d 1 0)) ?_
 refine QSeq.pureG rfl (.pointer (some ⟨x, 0, none⟩)) (fun E => ((wanted_of rfl rfl (E.sz 24 (by decide)) (E.d 2 0)).trans rfl)) (fun E => ex_move rfl (E.v oe5)) ?_
 refine QSeq.pureG rfl (.bool false) (fun E => ((wanted_of rfl rfl (E.sz 24 (by decide)) (E.d 2 1)).trans rfl)) (fun E => ex_bin rfl (E.d 3 0) rfl (guard_ptr _ _ _ _ _ _ _) (run_eql_nil _ Try.underlying23 (by kernel_rfl) _)) ?_
 refine QSeq.pure rfl (.bool false) (fun E => ex_pick rfl (E.d 2 2) rfl (E.d 4 0)) ?_
 refine QSeq.nil (t' := [_, _, _, _, _, _]) rfl ?_
 obtain rfl := HA0.out
 clear HA0 oe5 oe6
 simp only [pz, Act.put, List.setIfInBounds_toArray, List.set_cons_zero, List.set_cons_succ]
 go_upto_region 4 with (fail)
 refine wp_region_U 129 [7] [0] (fun a0 HA0 => ?_)
 refine QSeq.pure rfl (.int .i64 0) (fun E => ex_assign rfl rfl) ?_
 refine QSeq.nil (t' := [_]) rfl ?_
 obtain rfl := HA0.out
 clear HA0
 simp only [pz, Act.put, List.setIfInBounds_toArray, List.set_cons_zero, List.set_cons_succ]
 go_wp2
 go_loopw [7] (fun ti wr => ∃ (i : Nat) (l : List Mg), ti = .int .i64 ((i : Nat) : Int) ∧ i ≤ 20 ∧ l.length = i ∧ (∀ m ∈ l, cpMg m) ∧ u1_0.heap.size ≤ wr.heap.size ∧ NtR (fun k => New w wr k) wr x 30 l ((i : Nat) : Int) 0 ∧ RdS InR (fun k => k < w.heap.size) wr (.slice ak ks.length capk) ks ∧ RdS InR (fun k => k < w.heap.size) wr (.slice at_ ts.length capt) ts ∧ Mod (fun _ => False) w wr) (fun ti _ => 20 - (intOf ti).toNat)
 case atStart => exact ⟨0, [], rfl, by omega, rfl, (fun m hm => by cases hm), Nat.le_refl _, (Hx1.out.widen (R' := fun k => New w u1_0 k) (by intro k h1;  ((try dsimp only at h1 ⊢); unfold New at *; omega))), (HKS.out.mod Cx2.out (fun _ _ h => h)), (HTS.out.mod Cx2.out (fun _ _ h => h)), (HM0.out.trans Cx2.out (fun _ _ h => h.elim))⟩
 case round =>
  obtain ⟨i, l, rfl, hi20, hll, hP, hz, k1, k2, k3, k4⟩ := hrel
  obtain ⟨wl, rfl⟩ : ∃ x, x = wr := ⟨_, rfl⟩
  have K1 := Lib.hid k1
  have K2 := Lib.hid k2
  have K3 := Lib.hid k3
  have K4 := Lib.hid k4
  clear k1 k2 k3 k4 HKS HTS HM0 Hx1
  go_upto_region 5 with (fail)
  refine wp_region_U 129 [28, 29, 30, 31, 32, 33, 34, 35] [0, 1, 2, 3, 4, 5, 6, 7] (fun a0 HA0 => ?_)
  have oe0 := ev HA0 0 rfl
  have oe7 := ev HA0 7 rfl
  refine QSeq.pure rfl _ (fun E => ex_move rfl (E.v oe7)) ?_
  refine QSeq.pure rfl _ (fun E => ex_move rfl (E.v oe0)) ?_
  refine QSeq.pure rfl (.int .i64 ks.length) (fun E => ex_lenS rfl (E.d 1 0) Try.underlying22) ?_
  refine QSeq.pure rfl (.bool (decide (((i : Nat) : Int) < ((ks.length : Nat) : Int)))) (fun E => ex_bin rfl (E.d 0 2) (E.d 2 0) (guard_ints _ _ _ _ _ _) (run_lss_i _ _ _ Try.underlying3)) ?_
  refine QSeq.pure rfl _ (fun E => ex_move rfl (E.d 3 0)) ?_
  refine QSeq.may (b := (decide (((i : Nat) : Int) < ((ks.length : Nat) : Int)))) rfl (.int .i64 ((i : Nat) : Int)) (fun E => ((wanted_of rfl rfl (E.sz 32 (by decide)) (E.d 4 0)).trans (beq_t _))) (fun E hb => ex_move rfl (E.v oe7)) ?_
  intro v5_5 hw
  have hv5_5 := hid hw
  clear hw
  refine QSeq.may (b := (decide (((i : Nat) : Int) < ((ks.length : Nat) : Int)))) rfl (.bool (decide (((i : Nat) : Int) < 20))) (fun E => ((wanted_of rfl rfl (E.sz 32 (by decide)) (E.d 4 1)).trans (beq_t _))) (fun E hb => ex_bin rfl ((E.q 5 0 hv5_5.out).1 hb) rfl (guard_ints _ _ _ _ _ _) (run_lss_i _ _ _ Try.underlying3)) ?_
  intro v5_6 hw
  have hv5_6 := hid hw
  clear hw
  obtain ⟨pb7, hb7⟩ : ∃ b : Bool, b = ((decide (((i : Nat) : Int) < ((ks.length : Nat) : Int))) && (decide (((i : Nat) : Int) < 20))) := ⟨_, rfl⟩
  have HB7 := hid hb7
  clear hb7
  refine QSeq.pure rfl (.bool pb7) (fun E => ex_pickE rfl (E.d 4 2) rfl rfl ((and_val fun hb => (E.q 6 0 hv5_6.out).1 hb).trans (congrArg Value.bool HB7.out.symm))) ?_
  clear hv5_5 hv5_6
  refine QSeq.nil (t' := [_, _, _, _, _, _, _, _]) rfl ?_
  obtain rfl := HA0.out
  clear HA0 oe0 oe7
  simp only [pz, Act.put, List.setIfInBounds_toArray, List.set_cons_zero, List.set_cons_succ]
  by_cases hc : i < ks.length ∧ i < 20
  ·obtain ⟨hc1, hc2⟩ := hc
   obtain rfl : pb7 = true := HB7.out.trans (by simp only [Bool.and_eq_true, decide_eq_true_eq]; omega)
   obtain ⟨g1, o1, cs1, ea1, hrg, hrd, hcs⟩ := K2.out.at hc1
   obtain ⟨rfl, hdd⟩ := hrd
   generalize ks[i] = d at hcs hdd
   subst ea1
   have HAT1 := hid (show CellsAt (fun k => k < w.heap.size) wl g1 (o1 + i * 1) [.int .i64 d] from ⟨hrg, hcs⟩)
   clear hrg hcs
   go_upto_region 7 with (fail)
   refine wp_region_U 129 [38, 39, 40, 41, 42, 43, 44, 45, 46] [0, 1, 2, 3, 4, 5, 6, 7, 8] (fun a0 HA0 => ?_)
   have oe0 := ev HA0 0 rfl
   have oe5 := ev HA0 5 rfl
   have oe7 := ev HA0 7 rfl
   refine QSeq.pure rfl _ (fun E => ex_move rfl (E.v oe5)) ?_
   refine QSeq.pure rfl _ (fun E => ex_move rfl (E.v oe0)) ?_
   refine QSeq.pure rfl _ (fun E => ex_move rfl (E.v oe7)) ?_
   refine QSeq.pure rfl (.pointer (some ⟨g1, o1 + i * 1, none⟩)) (fun E => ex_idxS (i := i) (s := 1) rfl Try.underlying22 (by kernel_rfl) (E.d 1 1) (E.d 2 0) (by omega)) ?_
   refine QSeq.pure rfl (.int .i64 d) (fun E => ex_load1 rfl Try.underlying3 rfl (E.d 3 0) ((HAT1.out).2 0 _ rfl)) ?_
   refine QSeq.pure rfl _ (fun E => ex_move rfl (E.v oe7)) ?_
   refine QSeq.go fun act E => ?_
   refine qc_run rfl (wanted_none rfl) (v := .agg ((mgkC d ((i : Nat) : Int)) : List Value).toArray) (ex_build rfl (z := (mg0C 0 0 0)) (places := [(0, 1), (1, 1), (2, 1), (3, 37), (40, 38), (78, 38), (116, 38), (154, 1), (155, 1), (156, 1), (157, 6), (163, 11), (174, 38), (212, 1), (213, 35), (248, 34), (282, 4), (286, 1), (287, 8)]) (by kernel_rfl) (parts := [(0, .int .i64 d), (13, .int .i64 ((i : Nat) : Int))]) (by simp only [List.map_toArray, List.map_cons, List.map_nil, show act.eval (.tmp 42) = .int .i64 d from (E.d 4 1), show act.eval (.tmp 43) = .int .i64 ((i : Nat) : Int) from (E.d 5 0)]; try rfl) (r := (mgkC d ((i : Nat) : Int))) (by exact (laid_segs (ns := mgN) rfl [(0, .int .i64 d), (13, .int .i64 ((i : Nat) : Int))] (zMg.segs (zCe.cells zS) (zPm.cells zS) (zPr.cells zS zS zS) (zOp.cells zS) (zDc.cells zS zS zS zS)) rfl ⟨rfl, rfl, trivial⟩).trans rfl)) ?_
   clear act E
   refine QSeq.go fun act E => ?_
   refine qc_buildS (e := 67) (cs := (mgkC d ((i : Nat) : Int))) (zc := [.int .i64 0, .int .i64 0, .int .i64 0, .int .i64 0, .int .i64 0, .int .u8 0, .int .u8 0, .int .u8 0, .int .u8 0, .int .u8 0, .int .u8 0, .int .u8 0, .int .u8 0, .int .u8 0, .int .u8 0, .int .u8 0, .int .u8 0, .int .u8 0, .int .u8 0, .int .u8 0, .int .u8 0, .int .u8 0, .int .u8 0, .int .u8 0, .int .u8 0, .int .u8 0, .int .u8 0, .int .u8 0, .int .u8 0, .int .u8 0, .int .u8 0, .int .u8 0, .int .u8 0, .int .u8 0, .int .u8 0, .int .u8 0, .int .u8 0, .int .i64 0, .int .i64 0, .int .i64 0, .int .i64 0, .int .i64 0, .int .i64 0, .int .u8 0, .int .u8 0, .int .u8 0, .int .u8 0, .int .u8 0, .int .u8 0, .int .u8 0, .int .u8 0, .int .u8 0, .int .u8 0, .int .u8 0, .int .u8 0, .int .u8 0, .int .u8 0, .int .u8 0, .int .u8 0, .int .u8 0, .int .u8 0, .int .u8 0, .int .u8 0, .int .u8 0, .int .u8 0, .int .u8 0, .int .u8 0, .int .u8 0, .int .u8 0, .int .u8 0, .int .u8 0, .int .u8 0, .int .u8 0, .int .u8 0, .int .u8 0, .int .u64 0, .int .i64 0, .int .i64 0, .int .i64 0, .int .i64 0, .int .u8 0, .int .u8 0, .int .u8 0, .int .u8 0, .int .u8 0, .int .u8 0, .int .u8 0, .int .u8 0, .int .u8 0, .int .u8 0, .int .u8 0, .int .u8 0, .int .u8 0, .int .u8 0, .int .u8 0, .int .u8 0, .int .u8 0, .int .u8 0, .int .u8 0, .int .u8 0, .int .u8 0, .int .u8 0, .int .u8 0, .int .u8 0, .int .u8 0, .int .u8 0, .int .u8 0, .int .u8 0, .int .u8 0, .int .u8 0, .int .u8 0, .int .u8 0, .int .i64 0, .int .i64 0, .int .i64 0, .slice none 0 0, .int .i64 0, .int .i64 0, .int .i64 0, .int .u8 0, .int .u8 0, .int .u8 0, .int .u8 0, .int .u8 0, .int .u8 0, .int .u8 0, .int .u8 0, .int .u8 0, .int .u8 0, .int .u8 0, .int .u8 0, .int .u8 0, .int .u8 0, .int .u8 0, .int .u8 0, .int .u8 0, .int .u8 0, .int .u8 0, .int .u8 0, .int .u8 0, .int .u8 0, .int .u8 0, .int .u8 0, .int .u8 0, .int .u8 0, .int .u8 0, .int .u8 0, .int .u8 0, .int .u8 0, .int .u8 0, .int .u8 0, .int .u64 0, .int .i64 0, .int .i64 0, .int .i64 0, .int .i64 0, .int .u64 0, .int .i64 0, .int .i64 0, .int .u64 0, .slice none 0 0, .int .i64 0, .int .i64 0, .int .i64 0, .int .i64 0, .int .i64 0, .int .i64 0, .int .i64 0, .int .u64 0, .slice none 0 0, .slice none 0 0, .slice none 0 0, .int .i64 0, .int .i64 0, .int .i64 0, .int .i64 0, .int .i64 0, .int .i64 0, .int .u8 0, .int .u8 0, .int .u8 0, .int .u8 0, .int .u8 0, .int .u8 0, .int .u8 0, .int .u8 0, .int .u8 0, .int .u8 0, .int .u8 0, .int .u8 0, .int .u8 0, .int .u8 0, .int .u8 0, .int .u8 0, .int .u8 0, .int .u8 0, .int .u8 0, .int .u8 0, .int .u8 0, .int .u8 0, .int .u8 0, .int .u8 0, .int .u8 0, .int .u8 0, .int .u8 0, .int .u8 0, .int .u8 0, .int .u8 0, .int .u8 0, .int .u8 0, .int .i64 0, .int .i64 0, .int .i64 0, .int .i64 0, .int .i64 0, .int .u8 0, .int .u8 0, .int .u8 0, .int .u8 0, .int .u8 0, .int .u8 0, .int .u8 0, .int .u8 0, .int .u8 0, .int .u8 0, .int .u8 0, .int .u8 0, .int .u8 0, .int .u8 0, .int .u8 0, .int .u8 0, .int .u8 0, .int .u8 0, .int .u8 0, .int .u8 0, .int .u8 0, .int .u8 0, .int .u8 0, .int .u8 0, .int .u8 0, .int .u8 0, .int .u8 0, .int .u8 0, .int .u8 0, .int .u8 0, .int .u8 0, .int .u8 0, .int .u64 0, .int .i64 0, .slice none 0 0, .int .u8 0, .int .u8 0, .int .u8 0, .int .u8 0, .int .u8 0, .int .u8 0, .int .u8 0, .int .u8 0, .int .u8 0, .int .u8 0, .int .u8 0, .int .u8 0, .int .u8 0, .int .u8 0, .int .u8 0, .int .u8 0, .int .u8 0, .int .u8 0, .int .u8 0, .int .u8 0, .int .u8 0, .int .u8 0, .int .u8 0, .int .u8 0, .int .u8 0, .int .u8 0, .int .u8 0, .int .u8 0, .int .u8 0, .int .u8 0, .int .u8 0, .int .u8 0, .int .i64 0, .int .i64 0, .int .i64 0, .int .i64 0, .string ByteArray.empty, .int .i64 0, .int .i64 0, .int .i64 0, .int .u64 0, .slice none 0 0, .slice none 0 0, .slice none 0 0, .slice none 0 0]) (sz := 295) rfl (wanted_none rfl) rfl Try.underlying76 (by kernel_rfl) rfl (by decide) (by decide) (E.d 6 0) rfl ?_
   intro u7_7 qrow hm
   have zl7_7 := qrow.lt
   have Hx3 := hid qrow
   have zu7_7 := hm.size
   have Cx4 := hid (show Mod (fun _ => False) wl u7_7 from hm)
   clear hm
   clear act E qrow
   refine QSeq.call rfl rfl Try.func8 (SendB (p := 1) (R2 := (fun k => (k = wl.heap.size))) (ms := [mgk d ((i : Nat) : Int)]) (l := l) (K1.out.mod Cx4.out (fun _ _ h => h)) (RdS.single Hx3.out (mgk_rd hdd (by unfold I64; omega) _ _) rfl) (by intro k h; omega) (by intro k h1 h2; omega) (by intro m hm; rw [List.mem_singleton] at hm; rw [hm]; exact mgk_cp _ _) (by (try simp only [List.length_cons, List.length_nil]); omega) (by omega) (by decide) (by omega) (by omega) (by (try simp only [List.length_cons, List.length_nil]); omega)) (fun E => args2 (E.d 0 7) (E.d 7 0)) ?_
   rintro e u7_8 ⟨rfl, qnt, hm⟩
   refine ⟨_, rfl, ?_⟩
   have Hx5 := hid (qnt.widen (R' := (fun k => (New w wl k) ∨ (New u7_7 u7_8 k))) (fun _ h => h))
   have zu7_8 := hm.size
   have HMu7_8 := hid hm
   have Cx6 := hid (Mod.goS (S' := (fun k => (New w wl k))) Cx4.out hm (fun _ h => h.elim) (by intro k h0 h2; exact h2))
   clear hm Cx4
   clear qnt K1
   have Hx7 := hid (Hx3.out.mod HMu7_8.out (by intro h2; omega))
   clear Hx3 HMu7_8
   refine QSeq.nil (t' := [_, _, _, _, _, _, _, _, _]) rfl ?_
   obtain rfl := HA0.out
   clear HA0 oe0 oe5 oe7
   simp only [pz, Act.put, List.setIfInBounds_toArray, List.set_cons_zero, List.set_cons_succ]
   clear Hx7
   clear HAT1
   go_upto_region 6 with (fail)
   refine wp_region_U 129 [36, 37, 7] [0, 1, 2] (fun a0 HA0 => ?_)
   have oe7 := ev HA0 7 rfl
   refine QSeq.pure rfl _ (fun E => ex_move rfl (E.y 2 oe7)) ?_
   refine QSeq.pure rfl (.int .i64 ((i + 1 : Nat) : Int)) (fun E => ex_binE rfl (E.d 0 0) rfl (guard_ints _ _ _ _ _ _) (run_add_i _ _ Try.underlying3) (congrArg (Value.int .i64) (i64_eq (b := ((i + 1 : Nat) : Int)) (by omega) (by omega) (by omega)))) ?_
   refine QSeq.pure rfl _ (fun E => ex_assign rfl (E.d 1 0)) ?_
   refine QSeq.nil (t' := [_, _, _]) rfl ?_
   obtain rfl := HA0.out
   clear HA0 oe7
   simp only [pz, Act.put, List.setIfInBounds_toArray, List.set_cons_zero, List.set_cons_succ]
   have HQN := hid (show NtR (fun k => (New w wl k) ∨ (New u7_7 u7_8 k)) u7_8 x 30 (l ++ [mgk d ((i : Nat) : Int)]) ((i + 1 : Nat) : Int) 0 from (by have h := Hx5.out; rw [show ((i : Nat) : Int) + ((1 : Nat) : Int) = ((i + 1 : Nat) : Int) by omega] at h; exact h))
   clear Hx5
   go_wp2
   go_roundw
   case rel => exact ⟨i + 1, l ++ [mgk d ((i : Nat) : Int)], rfl, by omega, by rw [List.length_append, hll]; rfl, cp_snoc hP (mgk_cp _ _), by omega, (HQN.out.widen (R' := fun k => New w u7_8 k) (by intro k h1; rcases h1 with h1 | h1 <;> ((try dsimp only at h1 ⊢); unfold New at *; omega))), (K2.out.mod Cx6.out (by intro k h1 h2; omega)), (K3.out.mod Cx6.out (by intro k h1 h2; omega)), (K4.out.trans Cx6.out (by intro k h1 h2; omega))⟩
   case measure => simp [intOf]; omega
  ·obtain rfl : pb7 = false := HB7.out.trans (by rw [Bool.eq_false_iff]; intro h; simp only [Bool.and_eq_true, decide_eq_true_eq] at h; omega)
   obtain ⟨sn, hsn⟩ : ∃ sn : Nat, sn = i := ⟨_, rfl⟩
   clear hc
   have HQN := hid (show NtR (fun k => (New w wl k)) wl x 30 l ((sn : Nat) : Int) 0 from (by rw [hsn]; exact K1.out))
   clear K1
   go_upto_region 8 with (fail)
   refine wp_region_U 129 [8] [0] (fun a0 HA0 => ?_)
   refine QSeq.pure rfl (.int .i64 0) (fun E => ex_assign rfl rfl) ?_
   refine QSeq.nil (t' := [_]) rfl ?_
   obtain rfl := HA0.out
   clear HA0
   simp only [pz, Act.put, List.setIfInBounds_toArray, List.set_cons_zero, List.set_cons_succ]
   go_wp2
   go_loopw [8] (fun ti wr => ∃ (j : Nat) (l : List Mg), ti = .int .i64 ((j : Nat) : Int) ∧ j ≤ 12 ∧ l.length ≤ 20 ∧ (∀ m ∈ l, cpMg m) ∧ wl.heap.size ≤ wr.heap.size ∧ NtR (fun k => New w wr k) wr x 30 l ((sn : Nat) : Int) 0 ∧ RdS InR (fun k => k < w.heap.size) wr (.slice ak ks.length capk) ks ∧ RdS InR (fun k => k < w.heap.size) wr (.slice at_ ts.length capt) ts ∧ Mod (fun _ => False) w wr) (fun ti _ => 12 - (intOf ti).toNat)
   case atStart => exact ⟨0, l, rfl, by omega, by omega, hP, Nat.le_refl _, (HQN.out.widen (R' := fun k => New w wl k) (by intro k h1;  ((try dsimp only at h1 ⊢); unfold New at *; omega))), K2.out, K3.out, K4.out⟩
   case round =>
    obtain ⟨j, l2, rfl, hj12, hl2, hP2, hz2, k1, k2, k3, k4⟩ := hrel
    clear HQN K2 K3 K4 hP hll
    obtain ⟨wm, rfl⟩ : ∃ x, x = wr := ⟨_, rfl⟩
    have K1 := Lib.hid k1
    have K2 := Lib.hid k2
    have K3 := Lib.hid k3
    have K4 := Lib.hid k4
    clear k1 k2 k3 k4 
    go_upto_region 9 with (fail)
    refine wp_region_U 129 [47, 48, 49, 50, 51, 52, 53, 54] [0, 1, 2, 3, 4, 5, 6, 7] (fun a0 HA0 => ?_)
    have oe1 := ev HA0 1 rfl
    have oe8 := ev HA0 8 rfl
    refine QSeq.pure rfl _ (fun E => ex_move rfl (E.v oe8)) ?_
    refine QSeq.pure rfl _ (fun E => ex_move rfl (E.v oe1)) ?_
    refine QSeq.pure rfl (.int .i64 ts.length) (fun E => ex_lenS rfl (E.d 1 0) Try.underlying22) ?_
    refine QSeq.pure rfl (.bool (decide (((j : Nat) : Int) < ((ts.length : Nat) : Int)))) (fun E => ex_bin rfl (E.d 0 2) (E.d 2 0) (guard_ints _ _ _ _ _ _) (run_lss_i _ _ _ Try.underlying3)) ?_
    refine QSeq.pure rfl _ (fun E => ex_move rfl (E.d 3 0)) ?_
    refine QSeq.may (b := (decide (((j : Nat) : Int) < ((ts.length : Nat) : Int)))) rfl (.int .i64 ((j : Nat) : Int)) (fun E => ((wanted_of rfl rfl (E.sz 51 (by decide)) (E.d 4 0)).trans (beq_t _))) (fun E hb => ex_move rfl (E.v oe8)) ?_
    intro v9_5 hw
    have hv9_5 := hid hw
    clear hw
    refine QSeq.may (b := (decide (((j : Nat) : Int) < ((ts.length : Nat) : Int)))) rfl (.bool (decide (((j : Nat) : Int) < 12))) (fun E => ((wanted_of rfl rfl (E.sz 51 (by decide)) (E.d 4 1)).trans (beq_t _))) (fun E hb => ex_bin rfl ((E.q 5 0 hv9_5.out).1 hb) rfl (guard_ints _ _ _ _ _ _) (run_lss_i _ _ _ Try.underlying3)) ?_
    intro v9_6 hw
    have hv9_6 := hid hw
    clear hw
    obtain ⟨pb7, hb7⟩ : ∃ b : Bool, b = ((decide (((j : Nat) : Int) < ((ts.length : Nat) : Int))) && (decide (((j : Nat) : Int) < 12))) := ⟨_, rfl⟩
    have HB7 := hid hb7
    clear hb7
    refine QSeq.pure rfl (.bool pb7) (fun E => ex_pickE rfl (E.d 4 2) rfl rfl ((and_val fun hb => (E.q 6 0 hv9_6.out).1 hb).trans (congrArg Value.bool HB7.out.symm))) ?_
    clear hv9_5 hv9_6
    refine QSeq.nil (t' := [_, _, _, _, _, _, _, _]) rfl ?_
    obtain rfl := HA0.out
    clear HA0 oe1 oe8
    simp only [pz, Act.put, List.setIfInBounds_toArray, List.set_cons_zero, List.set_cons_succ]
    by_cases hc : j < ts.length ∧ j < 12
    ·obtain ⟨hc1, hc2⟩ := hc
     obtain rfl : pb7 = true := HB7.out.trans (by simp only [Bool.and_eq_true, decide_eq_true_eq]; omega)
     obtain ⟨g1, o1, cs1, ea1, hrg, hrd, hcs⟩ := K3.out.at hc1
     obtain ⟨rfl, hdd⟩ := hrd
     generalize ts[j] = d at hcs hdd
     subst ea1
     have HAT1 := hid (show CellsAt (fun k => k < w.heap.size) wm g1 (o1 + j * 1) [.int .i64 d] from ⟨hrg, hcs⟩)
     clear hrg hcs
     obtain ⟨m, hm, hml⟩ := within_nat d ((l2.length : Nat) + 2) (by omega)
     have HW := hid (Within_any d ((l2.length : Nat) + 2) (by omega) (by omega) hdd)
     rw [hm] at HW
     clear hm
     obtain ⟨k, hk⟩ : ∃ k : Int, k = (m : Int) - 1 := ⟨_, rfl⟩
     go_upto_region 11 with (fail)
     generalize ha0 : Act.mk _ _ = a0
     have oe1 : a0.eval (.tmp 1) = .slice (some ⟨g1, o1, none⟩) ts.length capt := by rw [← ha0]; rfl
     have oe5 : a0.eval (.tmp 5) = .pointer (some ⟨x, 0, none⟩) := by rw [← ha0]; rfl
     have oe8 : a0.eval (.tmp 8) = .int .i64 ((j : Nat) : Int) := by rw [← ha0]; rfl
     have hsz0 : a0.tmps.size = 129 := by rw [← ha0]; rfl
     have HA0 := hid ha0
     clear ha0
     refine wp_region_Q0 129 hsz0 [57, 58, 59, 60, 61, 62, 63, 64, 65, 9] [qi (.slice (some ⟨g1, o1, none⟩) ts.length capt), qi (.int .i64 ((j : Nat) : Int)), qi (.pointer (some ⟨g1, o1 + j * 1, none⟩)), qi (.int .i64 d), qi (.pointer (some ⟨x, 0, none⟩)), qi (.int .i64 ((l2.length : Nat) : Int)), qi (.int .i64 (((l2.length : Nat) : Int) + 2)), qi (.int .i64 ((m : Nat) : Int)), qi (.int .i64 k), qi (.int .i64 k)] ⟨qi_stable, qi_stable, qi_stable, qi_stable, qi_stable, qi_stable, qi_stable, qi_stable, qi_stable, qi_stable, trivial⟩ [] ⟨?_, ?_, ?_, ?_, ?_, ?_, ?_, ?_, ?_, ?_, trivial⟩ ?_
     ·exact stq (fun E => ex_move rfl (E.v oe1))
     ·exact stq (fun E => ex_move rfl (E.v oe8))
     ·exact stq (fun E => ex_idxS (i := j) (s := 1) rfl Try.underlying22 (by kernel_rfl) (E.d 0) (E.d 1) (by omega))
     ·exact stq (fun E => ex_load1 rfl Try.underlying3 rfl (E.d 2) (((HAT1.out.mod E.m.old (by intro k h1 h2; omega))).2 0 _ rfl))
     ·exact stq (fun E => ex_move rfl (E.v oe5))
     ·refine stepq_env rfl rfl rfl fun _ _ _ _ _ hm _ _ _ hd _ _ => ?_
      have h4 := hd ⟨4, .data⟩ (by simp) rfl _ rfl
      refine qe_callF (args := #[.pointer (some ⟨x, 0, none⟩)]) rfl (wanted_none rfl) rfl Try.func11 (args1 h4) (LenB (K1.out.mod hm.old (by intro k h1 h2; omega))) ?_
      rintro e w2 ⟨rfl, rfl⟩
      exact ⟨_, rfl, QE.refl, rfl⟩
     ·exact stq (fun E => ex_binE rfl (E.d 5) rfl (guard_ints _ _ _ _ _ _) (run_add_i _ _ Try.underlying3) (congrArg (Value.int .i64) (i64_eq (b := (((l2.length : Nat) : Int) + 2)) rfl (by omega) (by omega))))
     ·refine stepq_env rfl rfl rfl fun _ _ _ _ _ _ _ _ _ hd _ _ => ?_
      have h3 := hd ⟨3, .data⟩ (by simp) rfl _ rfl
      have h6 := hd ⟨6, .data⟩ (by simp) rfl _ rfl
      refine qe_callF (args := #[.int .i64 d, .int .i64 (((l2.length : Nat) : Int) + 2)]) rfl (wanted_none rfl) rfl Try.func9 (args2 h3 h6) (HW.out _) ?_
      rintro e w2 ⟨rfl, rfl⟩
      exact ⟨_, rfl, QE.refl, rfl⟩
     ·exact stq (fun E => ex_binE rfl (E.d 7) rfl (guard_ints _ _ _ _ _ _) (run_sub_i _ _ Try.underlying3) (congrArg (Value.int .i64) (i64_eq (b := k) (by omega) (by omega) (by omega))))
     ·exact stq (fun E => ex_assign rfl (E.d 8))
     intro u11_0 hr
     have zu11_0 := hr.size
     have Cx8 := hid (hr.new (S := (fun _ => False)))
     clear hr
     refine QChain.nil fun vs hl hzz hrows hne => ?_
     obtain ⟨Z, hYZ, hZb, hV⟩ := hzz
     have f0 := fvi hV hl 0
     have f1 := fvi hV hl 1
     have f4 := fvi hV hl 4
     have f5 := fvi hV hl 5
     have f7 := fvi hV hl 7
     have f8 := fvi hV hl 8
     have f9 := fvi hV hl 9
     rw [show vs = [gw vs 0, gw vs 1, gw vs 2, gw vs 3, gw vs 4, gw vs 5, gw vs 6, gw vs 7, gw vs 8, gw vs 9] from (gw_eta hl).trans rfl]
     have ha0 := HA0.out
     subst ha0
     clear HA0 hV hYZ hZb hsz0 hrows hne oe1 oe5 oe8
     simp only [putAll, Act.put, List.setIfInBounds_toArray, List.set_cons_zero, List.set_cons_succ, f0, f1, f4, f5, f7, f8, f9]
     clear hl f0 f1 f4 f5 f7 f8 f9
     clear HAT1
     go_upto_region 12 with (fail)
     refine wp_region_U 129 [66, 67, 68, 69, 10, 11] [0, 1, 2, 3, 4, 5] (fun a0 HA0 => ?_)
     have oe5 := ev HA0 5 rfl
     refine QSeq.pure rfl _ (fun E => ex_move rfl (E.v oe5)) ?_
     refine QSeq.go fun act E => ?_
     refine qc_callF (args := #[.pointer (some ⟨x, 0, none⟩)]) rfl (wanted_none rfl) rfl Try.func11 (args1 (E.d 0 0)) (LenB (K1.out.mod Cx8.out (fun _ _ h => h))) ?_
     rintro e w2 ⟨rfl, hw2⟩
     obtain rfl : u11_0 = w2 := by first | exact hw2 | exact hw2.symm
     refine ⟨_, rfl, ?_⟩
     clear act E
     refine QSeq.pure rfl _ (fun E => ex_move rfl (E.v oe5)) ?_
     refine QSeq.go fun act E => ?_
     refine qc_callF (args := #[.pointer (some ⟨x, 0, none⟩)]) rfl (wanted_none rfl) rfl Try.func12 (args1 (E.d 2 0)) (SentB (K1.out.mod Cx8.out (fun _ _ h => h))) ?_
     rintro e w2 ⟨rfl, hw2⟩
     obtain rfl : u11_0 = w2 := by first | exact hw2 | exact hw2.symm
     refine ⟨_, rfl, ?_⟩
     clear act E
     refine QSeq.pure rfl _ (fun E => ex_assign rfl (E.d 1 2)) ?_
     refine QSeq.pure rfl _ (fun E => ex_assign rfl (E.d 3 1)) ?_
     refine QSeq.nil (t' := [_, _, _, _, _, _]) rfl ?_
     obtain rfl := HA0.out
     clear HA0 oe5
     simp only [pz, Act.put, List.setIfInBounds_toArray, List.set_cons_zero, List.set_cons_succ]
     by_cases hin : 0 ≤ k ∧ k < ((l2.length : Nat) : Int)
     ·obtain ⟨q, rfl⟩ : ∃ q : Nat, k = (q : Int) := ⟨k.toNat, by omega⟩
      have hql : q < l2.length := by omega
      go_upto_region 13 with (fail)
      refine wp_region_U 129 [71, 72, 73, 70, 74, 75, 12, 136, 13] [0, 1, 2, 3, 4, 5, 6, 7, 8] (fun a0 HA0 => ?_)
      have oe5 := ev HA0 5 rfl
      have oe9 := ev HA0 9 rfl
      refine QSeq.pure rfl _ (fun E => ex_move rfl (E.v oe5)) ?_
      refine QSeq.pure rfl _ (fun E => ex_move rfl (E.v oe9)) ?_
      refine QSeq.call rfl rfl Try.func14 (LookB (k := q) (K1.out.mod Cx8.out (fun _ _ h => h)) hql hP2) (fun E => args2 (E.d 0 1) (E.d 1 0)) ?_
      rintro e u13_2 ⟨ca, rfl, qa, hm⟩
      have HLa := hid (MgR.len qa)
      have HOa := hid (MgR.one qa)
      refine ⟨_, rfl, ?_⟩
      have Hx9 := hid qa
      have zu13_2 := hm.size
      have Cx10 := hid (show Mod (fun _ => False) u11_0 u13_2 from hm)
      clear hm
      clear qa
      refine QSeq.pure rfl _ (fun E => ex_move rfl (E.d 2 0)) ?_
      refine QSeq.pure rfl (.agg ca.toArray) (fun E => ex_extract rfl (E.d 3 0) rfl) ?_
      refine QSeq.pure rfl (.bool true) (fun E => ex_extract rfl (E.d 3 1) rfl) ?_
      refine QSeq.go fun act E => ?_
      refine qc_alloc rfl (wanted_none rfl) rfl (z := (mg0C 0 0 0)) (by kernel_rfl) ?_
      intro u13_6 qb12 hm
      have zl13_6 := qb12.lt
      have Hx11 := hid qb12
      have zu13_6 := hm.size
      have HMu13_6 := hid hm
      have Cx12 := hid (Cx10.out.goE hm)
      clear hm Cx10
      clear act E qb12
      refine QSeq.go fun act E => ?_
      have hlz : (ca).length = List.length ((mg0C 0 0 0) : List Value) := (by rw [HLa.out]; kernel_rfl)
      refine qc_store rfl (wanted_none rfl) rfl Hx11.out (off := 0) (vs := ca) (by rw [hlz]; kernel_rfl) HOa.out (by rw [hlz]; exact Nat.le_of_eq (Nat.zero_add _)) (E.d 6 0) (ec (E.d 4 2)) ?_
      intro u13_7 qc0 hm
      have qb12 := qc0.eqv (b := (ca : List Value).toArray) (lay_whole (((mg0C 0 0 0) : List Value).toArray) _ (by rw [hlz]; rfl))
      clear qc0 hlz
      have Hx13 := hid qb12
      have zu13_7 := hm.size
      have HMu13_7 := hid hm
      have Cx14 := hid (Mod.goS (S' := (fun _ => False)) Cx12.out hm (fun _ h => h) (by intro k h0 h2; omega))
      clear hm Cx12
      clear act E qb12 Hx11
      refine QSeq.pure rfl _ (fun E => ex_assign rfl (E.d 5 2)) ?_
      have Hx15 := hid ((Hx9.out.mod HMu13_6.out (fun _ _ h => h)).mod HMu13_7.out (by intro k h1 h2; omega))
      clear Hx9 HMu13_6 HMu13_7
      refine QSeq.nil (t' := [_, _, _, _, _, _, _, _, _]) rfl ?_
      obtain rfl := HA0.out
      clear HA0 oe5 oe9
      simp only [pz, Act.put, List.setIfInBounds_toArray, List.set_cons_zero, List.set_cons_succ, List.set_nil]
      go_upto_region 14 with (fail)
      refine wp_region_U 129 [77, 78, 79, 76, 80, 81, 14, 136, 15] [0, 1, 2, 3, 4, 5, 6, 7, 8] (fun a0 HA0 => ?_)
      have oe5 := ev HA0 5 rfl
      have oe9 := ev HA0 9 rfl
      refine QSeq.pure rfl _ (fun E => ex_move rfl (E.v oe5)) ?_
      refine QSeq.pure rfl _ (fun E => ex_move rfl (E.v oe9)) ?_
      refine QSeq.call rfl rfl Try.func14 (LookB (k := q) ((K1.out.mod Cx8.out (fun _ _ h => h)).mod Cx14.out (fun _ _ h => h)) hql hP2) (fun E => args2 (E.d 0 1) (E.d 1 0)) ?_
      rintro e u14_2 ⟨cb, rfl, qb, hm⟩
      have HLb := hid (MgR.len qb)
      have HOb := hid (MgR.one qb)
      refine ⟨_, rfl, ?_⟩
      have Hx16 := hid qb
      have zu14_2 := hm.size
      have Cx17 := hid (show Mod (fun _ => False) u13_7 u14_2 from hm)
      clear hm
      clear qb
      refine QSeq.pure rfl _ (fun E => ex_move rfl (E.d 2 0)) ?_
      refine QSeq.pure rfl (.agg cb.toArray) (fun E => ex_extract rfl (E.d 3 0) rfl) ?_
      refine QSeq.pure rfl (.bool true) (fun E => ex_extract rfl (E.d 3 1) rfl) ?_
      refine QSeq.go fun act E => ?_
      refine qc_alloc rfl (wanted_none rfl) rfl (z := (mg0C 0 0 0)) (by kernel_rfl) ?_
      intro u14_6 qb14 hm
      have zl14_6 := qb14.lt
      have Hx18 := hid qb14
      have zu14_6 := hm.size
      have HMu14_6 := hid hm
      have Cx19 := hid (Cx17.out.goE hm)
      clear hm Cx17
      clear act E qb14
      refine QSeq.go fun act E => ?_
      have hlz : (cb).length = List.length ((mg0C 0 0 0) : List Value) := (by rw [HLb.out]; kernel_rfl)
      refine qc_store rfl (wanted_none rfl) rfl Hx18.out (off := 0) (vs := cb) (by rw [hlz]; kernel_rfl) HOb.out (by rw [hlz]; exact Nat.le_of_eq (Nat.zero_add _)) (E.d 6 0) (ec (E.d 4 2)) ?_
      intro u14_7 qc0 hm
      have qb14 := qc0.eqv (b := (cb : List Value).toArray) (lay_whole (((mg0C 0 0 0) : List Value).toArray) _ (by rw [hlz]; rfl))
      clear qc0 hlz
      have Hx20 := hid qb14
      have zu14_7 := hm.size
      have HMu14_7 := hid hm
      have Cx21 := hid (Mod.goS (S' := (fun _ => False)) Cx19.out hm (fun _ h => h) (by intro k h0 h2; omega))
      clear hm Cx19
      clear act E qb14 Hx18
      refine QSeq.pure rfl _ (fun E => ex_assign rfl (E.d 5 2)) ?_
      have Hx22 := hid ((Hx16.out.mod HMu14_6.out (fun _ _ h => h)).mod HMu14_7.out (by intro k h1 h2; omega))
      clear Hx16 HMu14_6 HMu14_7
      refine QSeq.nil (t' := [_, _, _, _, _, _, _, _, _]) rfl ?_
      obtain rfl := HA0.out
      clear HA0 oe5 oe9
      simp only [pz, Act.put, List.setIfInBounds_toArray, List.set_cons_zero, List.set_cons_succ, List.set_nil]
      go_upto_region 15 with (fail)
      refine wp_region_U 129 [82, 83, 84, 85, 86, 87, 88, 89, 90, 91, 92, 93, 94, 95, 96, 97, 98, 99, 100, 101, 102] [0, 1, 2, 3, 4, 5, 6, 7, 8, 9, 10, 11, 12, 13, 14, 15, 16, 17, 18, 19, 20] (fun a0 HA0 => ?_)
      have oe5 := ev HA0 5 rfl
      have oe10 := ev HA0 10 rfl
      have oe11 := ev HA0 11 rfl
      have oe12 := ev HA0 12 rfl
      have oe13 := ev HA0 13 rfl
      have oe14 := ev HA0 14 rfl
      have oe15 := ev HA0 15 rfl
      refine QSeq.pure rfl _ (fun E => ex_move rfl (E.v oe13)) ?_
      refine QSeq.pure rfl _ (fun E => ex_move rfl (E.v oe15)) ?_
      refine QSeq.pure rfl (.bool false) (fun E => ex_bin rfl (E.d 0 1) (E.d 1 0) (guard_bools _ _ _ _ _ _) (run_neq_bools _ _ _ Try.underlying4)) ?_
      refine QSeq.pure rfl _ (fun E => ex_move rfl (E.d 2 0)) ?_
      refine QSeq.pureG rfl (.agg ca.toArray) (fun E => ((wanted_of rfl rfl (E.sz 85 (by decide)) (E.d 3 0)).trans rfl)) (fun E => ex_loadA rfl Try.underlying67 rfl (off := 0) (cs := ca) (by rw [HLa.out]; kernel_rfl) (E.v oe12) (Cs.whole (Hx13.out.mod Cx21.out (fun h => h)))) ?_
      refine QSeq.pureG rfl (.agg cb.toArray) (fun E => ((wanted_of rfl rfl (E.sz 85 (by decide)) (E.d 3 1)).trans rfl)) (fun E => ex_loadA rfl Try.underlying67 rfl (off := 0) (cs := cb) (by rw [HLb.out]; kernel_rfl) (E.v oe14) (Cs.whole Hx20.out)) ?_
      refine QSeq.go fun act E => ?_
      refine qc_callF (args := #[.agg ca.toArray, .agg cb.toArray]) rfl ((wanted_of rfl rfl (E.sz 85 (by decide)) (E.d 3 2)).trans rfl) rfl Try.func15 (args2 (E.d 4 1) (E.d 5 0)) (Eqs.same Eq_Mg (Hx15.out.mod Cx21.out (fun _ _ h => h)) Hx22.out (by intro k h1; omega) (by intro k h1; omega)) ?_
      rintro e u15_6 ⟨rfl, hm⟩
      refine ⟨_, rfl, ?_⟩
      have zu15_6 := hm.size
      have Cx23 := hid (show Mod (fun _ => False) u14_7 u15_6 from hm)
      clear hm
      clear act E
      refine QSeq.pureG rfl (.bool false) (fun E => ((wanted_of rfl rfl (E.sz 85 (by decide)) (E.d 3 3)).trans rfl)) (fun E => ex_not rfl (E.d 6 0)) ?_
      refine QSeq.pure rfl (.bool false) (fun E => ex_pick rfl (E.d 3 4) rfl (E.d 7 0)) ?_
      refine QSeq.pure rfl _ (fun E => ex_move rfl (E.d 8 0)) ?_
      refine QSeq.pureG rfl (.pointer (some ⟨x, 0, none⟩)) (fun E => ((wanted_of rfl rfl (E.sz 91 (by decide)) (E.d 9 0)).trans rfl)) (fun E => ex_move rfl (E.v oe5)) ?_
      refine QSeq.go fun act E => ?_
      refine qc_callF (args := #[.pointer (some ⟨x, 0, none⟩)]) rfl ((wanted_of rfl rfl (E.sz 91 (by decide)) (E.d 9 1)).trans rfl) rfl Try.func11 (args1 (E.d 10 0)) (LenB ((((K1.out.mod Cx8.out (fun _ _ h => h)).mod Cx14.out (fun _ _ h => h)).mod Cx21.out (fun _ _ h => h)).mod Cx23.out (fun _ _ h => h))) ?_
      rintro e w2 ⟨rfl, hw2⟩
      obtain rfl : u15_6 = w2 := by first | exact hw2 | exact hw2.symm
      refine ⟨_, rfl, ?_⟩
      clear act E
      refine QSeq.pureG rfl (.int .i64 ((l2.length : Nat) : Int)) (fun E => ((wanted_of rfl rfl (E.sz 91 (by decide)) (E.d 9 2)).trans rfl)) (fun E => ex_move rfl (E.v oe10)) ?_
      refine QSeq.pureG rfl (.bool false) (fun E => ((wanted_of rfl rfl (E.sz 91 (by decide)) (E.d 9 3)).trans rfl)) (fun E => ex_binE rfl (E.d 11 1) (E.d 12 0) (guard_ints _ _ _ _ _ _) (run_neq_i _ _ _ Try.underlying3) (congrArg Value.bool (ne_ff rfl))) ?_
      refine QSeq.pure rfl (.bool false) (fun E => ex_pick rfl (E.d 9 4) rfl (E.d 13 0)) ?_
      refine QSeq.pure rfl _ (fun E => ex_move rfl (E.d 14 0)) ?_
      refine QSeq.pureG rfl (.pointer (some ⟨x, 0, none⟩)) (fun E => ((wanted_of rfl rfl (E.sz 97 (by decide)) (E.d 15 0)).trans rfl)) (fun E => ex_move rfl (E.v oe5)) ?_
      refine QSeq.go fun act E => ?_
      refine qc_callF (args := #[.pointer (some ⟨x, 0, none⟩)]) rfl ((wanted_of rfl rfl (E.sz 97 (by decide)) (E.d 15 1)).trans rfl) rfl Try.func12 (args1 (E.d 16 0)) (SentB ((((K1.out.mod Cx8.out (fun _ _ h => h)).mod Cx14.out (fun _ _ h => h)).mod Cx21.out (fun _ _ h => h)).mod Cx23.out (fun _ _ h => h))) ?_
      rintro e w2 ⟨rfl, hw2⟩
      obtain rfl : u15_6 = w2 := by first | exact hw2 | exact hw2.symm
      refine ⟨_, rfl, ?_⟩
      clear act E
      refine QSeq.pureG rfl (.int .i64 ((sn : Nat) : Int)) (fun E => ((wanted_of rfl rfl (E.sz 97 (by decide)) (E.d 15 2)).trans rfl)) (fun E => ex_move rfl (E.v oe11)) ?_
      refine QSeq.pureG rfl (.bool false) (fun E => ((wanted_of rfl rfl (E.sz 97 (by decide)) (E.d 15 3)).trans rfl)) (fun E => ex_binE rfl (E.d 17 1) (E.d 18 0) (guard_ints _ _ _ _ _ _) (run_neq_i _ _ _ Try.underlying3) (congrArg Value.bool (ne_ff rfl))) ?_
      refine QSeq.pure rfl (.bool false) (fun E => ex_pick rfl (E.d 15 4) rfl (E.d 19 0)) ?_
      refine QSeq.nil (t' := [_, _, _, _, _, _, _, _, _, _, _, _, _, _, _, _, _, _, _, _, _]) rfl ?_
      obtain rfl := HA0.out
      clear HA0 oe5 oe10 oe11 oe12 oe13 oe14 oe15
      simp only [pz, Act.put, List.setIfInBounds_toArray, List.set_cons_zero, List.set_cons_succ]
      clear Hx20
      clear Hx22
      go_upto_region 17 with (fail)
      refine wp_region_U 129 [104, 105, 106, 103, 107, 108, 16, 136, 17] [0, 1, 2, 3, 4, 5, 6, 7, 8] (fun a0 HA0 => ?_)
      have oe5 := ev HA0 5 rfl
      have oe9 := ev HA0 9 rfl
      refine QSeq.pure rfl _ (fun E => ex_move rfl (E.v oe5)) ?_
      refine QSeq.pure rfl _ (fun E => ex_move rfl (E.v oe9)) ?_
      refine QSeq.call rfl rfl Try.func10 (TakeB (k := q) (l := l2) ((((K1.out.mod Cx8.out (fun _ _ h => h)).mod Cx14.out (fun _ _ h => h)).mod Cx21.out (fun _ _ h => h)).mod Cx23.out (fun _ _ h => h)) hql hP2) (fun E => args2 (E.d 0 1) (E.d 1 0)) ?_
      rintro e u17_2 ⟨cc, rfl, qnt, qc, hm⟩
      have HLc := hid (MgR.len qc)
      have HOc := hid (MgR.one qc)
      have HKc := hid (mg_kd qc)
      have HXc := hid (mg_ix qc)
      refine ⟨_, rfl, ?_⟩
      have Hx24 := hid (qnt.widen (R' := (fun k => (New w wm k) ∨ (New u15_6 u17_2 k))) (fun _ h => h))
      have Hx25 := hid qc
      have zu17_2 := hm.size
      have Cx26 := hid (show Mod (fun k => (New w wm k)) u15_6 u17_2 from hm)
      clear hm
      clear qnt qc K1
      refine QSeq.pure rfl _ (fun E => ex_move rfl (E.d 2 0)) ?_
      refine QSeq.pure rfl (.agg cc.toArray) (fun E => ex_extract rfl (E.d 3 0) rfl) ?_
      refine QSeq.pure rfl (.bool true) (fun E => ex_extract rfl (E.d 3 1) rfl) ?_
      refine QSeq.go fun act E => ?_
      refine qc_alloc rfl (wanted_none rfl) rfl (z := (mg0C 0 0 0)) (by kernel_rfl) ?_
      intro u17_6 qb16 hm
      have zl17_6 := qb16.lt
      have Hx27 := hid qb16
      have zu17_6 := hm.size
      have HMu17_6 := hid hm
      have Cx28 := hid (Cx26.out.goE hm)
      clear hm Cx26
      clear act E qb16
      refine QSeq.go fun act E => ?_
      have hlz : (cc).length = List.length ((mg0C 0 0 0) : List Value) := (by rw [HLc.out]; kernel_rfl)
      refine qc_store rfl (wanted_none rfl) rfl Hx27.out (off := 0) (vs := cc) (by rw [hlz]; kernel_rfl) HOc.out (by rw [hlz]; exact Nat.le_of_eq (Nat.zero_add _)) (E.d 6 0) (ec (E.d 4 2)) ?_
      intro u17_7 qc0 hm
      have qb16 := qc0.eqv (b := (cc : List Value).toArray) (lay_whole (((mg0C 0 0 0) : List Value).toArray) _ (by rw [hlz]; rfl))
      clear qc0 hlz
      have Hx29 := hid qb16
      have zu17_7 := hm.size
      have HMu17_7 := hid hm
      have Cx30 := hid (Mod.goS (S' := (fun k => (New w wm k))) Cx28.out hm (fun _ h => h) (by intro k h0 h2; omega))
      clear hm Cx28
      clear act E qb16 Hx27
      refine QSeq.pure rfl _ (fun E => ex_assign rfl (E.d 5 2)) ?_
      have Hx31 := hid ((Hx24.out.mod HMu17_6.out (fun _ _ h => h)).mod HMu17_7.out (by intro k h1 h2; omega))
      have Hx32 := hid ((Hx25.out.mod HMu17_6.out (fun _ _ h => h)).mod HMu17_7.out (by intro k h1 h2; omega))
      clear Hx24 Hx25 HMu17_6 HMu17_7
      refine QSeq.nil (t' := [_, _, _, _, _, _, _, _, _]) rfl ?_
      obtain rfl := HA0.out
      clear HA0 oe5 oe9
      simp only [pz, Act.put, List.setIfInBounds_toArray, List.set_cons_zero, List.set_cons_succ, List.set_nil]
      have hle : (l2.eraseIdx q).length = l2.length - 1 := by rw [List.length_eraseIdx, if_pos hql]
      go_upto_region 18 with (fail)
      refine wp_region_U 129 [109, 110, 111, 112, 113, 114, 115, 116, 117, 118, 119, 120, 121, 122, 123, 124, 125, 126, 127] [0, 1, 2, 3, 4, 5, 6, 7, 8, 9, 10, 11, 12, 13, 14, 15, 16, 17, 18] (fun a0 HA0 => ?_)
      have oe5 := ev HA0 5 rfl
      have oe10 := ev HA0 10 rfl
      have oe12 := ev HA0 12 rfl
      have oe13 := ev HA0 13 rfl
      have oe16 := ev HA0 16 rfl
      have oe17 := ev HA0 17 rfl
      refine QSeq.pure rfl _ (fun E => ex_move rfl (E.v oe17)) ?_
      refine QSeq.pure rfl _ (fun E => ex_move rfl (E.v oe13)) ?_
      refine QSeq.pure rfl (.bool false) (fun E => ex_bin rfl (E.d 0 1) (E.d 1 0) (guard_bools _ _ _ _ _ _) (run_neq_bools _ _ _ Try.underlying4)) ?_
      refine QSeq.pure rfl _ (fun E => ex_move rfl (E.d 2 0)) ?_
      refine QSeq.pureG rfl (.agg ca.toArray) (fun E => ((wanted_of rfl rfl (E.sz 112 (by decide)) (E.d 3 0)).trans rfl)) (fun E => ex_loadA rfl Try.underlying67 rfl (off := 0) (cs := ca) (by rw [HLa.out]; kernel_rfl) (E.v oe12) (Cs.whole (((Hx13.out.mod Cx21.out (fun h => h)).mod Cx23.out (fun h => h)).mod Cx30.out (by intro h2; omega)))) ?_
      refine QSeq.pureG rfl (.agg cc.toArray) (fun E => ((wanted_of rfl rfl (E.sz 112 (by decide)) (E.d 3 1)).trans rfl)) (fun E => ex_loadA rfl Try.underlying67 rfl (off := 0) (cs := cc) (by rw [HLc.out]; kernel_rfl) (E.v oe16) (Cs.whole Hx29.out)) ?_
      refine QSeq.go fun act E => ?_
      refine qc_callF (args := #[.agg ca.toArray, .agg cc.toArray]) rfl ((wanted_of rfl rfl (E.sz 112 (by decide)) (E.d 3 2)).trans rfl) rfl Try.func15 (args2 (E.d 4 1) (E.d 5 0)) (Eqs.same Eq_Mg (((Hx15.out.mod Cx21.out (fun _ _ h => h)).mod Cx23.out (fun _ _ h => h)).mod Cx30.out (by intro k h1 h2; omega)) Hx32.out (by intro k h1; omega) (by intro k h1; omega)) ?_
      rintro e u18_6 ⟨rfl, hm⟩
      refine ⟨_, rfl, ?_⟩
      have zu18_6 := hm.size
      have Cx33 := hid (show Mod (fun _ => False) u17_7 u18_6 from hm)
      clear hm
      clear act E
      refine QSeq.pureG rfl (.bool false) (fun E => ((wanted_of rfl rfl (E.sz 112 (by decide)) (E.d 3 3)).trans rfl)) (fun E => ex_not rfl (E.d 6 0)) ?_
      refine QSeq.pure rfl (.bool false) (fun E => ex_pick rfl (E.d 3 4) rfl (E.d 7 0)) ?_
      refine QSeq.pure rfl _ (fun E => ex_move rfl (E.d 8 0)) ?_
      refine QSeq.pureG rfl (.bool true) (fun E => ((wanted_of rfl rfl (E.sz 118 (by decide)) (E.d 9 0)).trans rfl)) (fun E => ex_move rfl (E.v oe17)) ?_
      refine QSeq.pureG rfl (.bool true) (fun E => ((wanted_of rfl rfl (E.sz 118 (by decide)) (E.d 9 1)).trans rfl)) (fun E => ex_move rfl (E.d 10 0)) ?_
      refine QSeq.pureG rfl (.pointer (some ⟨x, 0, none⟩)) (fun E => ((wanted_of rfl rfl (E.sz 120 (by decide)) (E.d 11 0)).trans rfl)) (fun E => ex_move rfl (E.v oe5)) ?_
      refine QSeq.go fun act E => ?_
      refine qc_callF (args := #[.pointer (some ⟨x, 0, none⟩)]) rfl ((wanted_of rfl rfl (E.sz 120 (by decide)) (E.d 11 1)).trans rfl) rfl Try.func11 (args1 (E.d 12 0)) (LenB (Hx31.out.mod Cx33.out (fun _ _ h => h))) ?_
      rintro e w2 ⟨rfl, hw2⟩
      obtain rfl : u18_6 = w2 := by first | exact hw2 | exact hw2.symm
      refine ⟨_, rfl, ?_⟩
      clear act E
      refine QSeq.pureG rfl (.int .i64 ((l2.length : Nat) : Int)) (fun E => ((wanted_of rfl rfl (E.sz 120 (by decide)) (E.d 11 2)).trans rfl)) (fun E => ex_move rfl (E.v oe10)) ?_
      refine QSeq.pureG rfl (.int .i64 (((l2.length - 1 : Nat) : Nat) : Int)) (fun E => ((wanted_of rfl rfl (E.sz 120 (by decide)) (E.d 11 3)).trans rfl)) (fun E => ex_binE rfl (E.d 14 0) rfl (guard_ints _ _ _ _ _ _) (run_sub_i _ _ Try.underlying3) (congrArg (Value.int .i64) (i64_eq (b := ((l2.length - 1 : Nat) : Int)) (by omega) (by omega) (by omega)))) ?_
      refine QSeq.pureG rfl (.bool false) (fun E => ((wanted_of rfl rfl (E.sz 120 (by decide)) (E.d 11 4)).trans rfl)) (fun E => ex_binE rfl (E.d 13 2) (E.d 15 0) (guard_ints _ _ _ _ _ _) (run_neq_i _ _ _ Try.underlying3) (congrArg Value.bool (ne_ff (by omega)))) ?_
      refine QSeq.pureG rfl (.bool false) (fun E => ((wanted_of rfl rfl (E.sz 118 (by decide)) (E.d 9 7)).trans rfl)) (fun E => ex_pick rfl (E.d 11 5) (E.d 16 0) rfl) ?_
      refine QSeq.pure rfl (.bool false) (fun E => ex_pick rfl (E.d 9 8) rfl (E.d 17 0)) ?_
      refine QSeq.nil (t' := [_, _, _, _, _, _, _, _, _, _, _, _, _, _, _, _, _, _, _]) rfl ?_
      obtain rfl := HA0.out
      clear HA0 oe5 oe10 oe12 oe13 oe16 oe17
      simp only [pz, Act.put, List.setIfInBounds_toArray, List.set_cons_zero, List.set_cons_succ]
      clear Hx13
      clear Hx29
      clear Hx15
      clear Hx32
      go_upto_region 10 with (fail)
      refine wp_region_U 129 [55, 56, 8] [0, 1, 2] (fun a0 HA0 => ?_)
      have oe8 := ev HA0 8 rfl
      refine QSeq.pure rfl _ (fun E => ex_move rfl (E.y 2 oe8)) ?_
      refine QSeq.pure rfl (.int .i64 ((j + 1 : Nat) : Int)) (fun E => ex_binE rfl (E.d 0 0) rfl (guard_ints _ _ _ _ _ _) (run_add_i _ _ Try.underlying3) (congrArg (Value.int .i64) (i64_eq (b := ((j + 1 : Nat) : Int)) (by omega) (by omega) (by omega)))) ?_
      refine QSeq.pure rfl _ (fun E => ex_assign rfl (E.d 1 0)) ?_
      refine QSeq.nil (t' := [_, _, _]) rfl ?_
      obtain rfl := HA0.out
      clear HA0 oe8
      simp only [pz, Act.put, List.setIfInBounds_toArray, List.set_cons_zero, List.set_cons_succ]
      go_wp2
      go_roundw
      case rel => exact ⟨j + 1, l2.eraseIdx q, rfl, by omega, by omega, cp_erase hP2 q, by omega, ((Hx31.out.mod Cx33.out (fun _ _ h => h)).widen (R' := fun k => New w u18_6 k) (by intro k h1; rcases h1 with h1 | h1 <;> ((try dsimp only at h1 ⊢); unfold New at *; omega))), ((((((K2.out.mod Cx8.out (fun _ _ h => h)).mod Cx14.out (fun _ _ h => h)).mod Cx21.out (fun _ _ h => h)).mod Cx23.out (fun _ _ h => h)).mod Cx30.out (by intro k h1 h2; omega)).mod Cx33.out (fun _ _ h => h)), ((((((K3.out.mod Cx8.out (fun _ _ h => h)).mod Cx14.out (fun _ _ h => h)).mod Cx21.out (fun _ _ h => h)).mod Cx23.out (fun _ _ h => h)).mod Cx30.out (by intro k h1 h2; omega)).mod Cx33.out (fun _ _ h => h)), ((((((K4.out.trans Cx8.out (fun _ _ h => h.elim)).trans Cx14.out (fun _ _ h => h.elim)).trans Cx21.out (fun _ _ h => h.elim)).trans Cx23.out (fun _ _ h => h.elim)).trans Cx30.out (by intro k h1 h2; omega)).trans Cx33.out (fun _ _ h => h.elim))⟩
      case measure => simp [intOf]; omega
     ·have hnk := hin
      go_upto_region 13 with (fail)
      refine wp_region_U 129 [71, 72, 73, 70, 74, 75, 12, 136, 13] [0, 1, 2, 3, 4, 5, 6, 7, 8] (fun a0 HA0 => ?_)
      have oe5 := ev HA0 5 rfl
      have oe9 := ev HA0 9 rfl
      refine QSeq.pure rfl _ (fun E => ex_move rfl (E.v oe5)) ?_
      refine QSeq.pure rfl _ (fun E => ex_move rfl (E.v oe9)) ?_
      refine QSeq.call rfl rfl Try.func14 (LookN (K1.out.mod Cx8.out (fun _ _ h => h)) hnk) (fun E => args2 (E.d 0 1) (E.d 1 0)) ?_
      rintro e u13_2 ⟨ca, rfl, qa, hm⟩
      have HLa := hid (MgR.len qa)
      have HOa := hid (MgR.one qa)
      refine ⟨_, rfl, ?_⟩
      have Hx34 := hid qa
      have zu13_2 := hm.size
      have Cx35 := hid (show Mod (fun _ => False) u11_0 u13_2 from hm)
      clear hm
      clear qa
      refine QSeq.pure rfl _ (fun E => ex_move rfl (E.d 2 0)) ?_
      refine QSeq.pure rfl (.agg ca.toArray) (fun E => ex_extract rfl (E.d 3 0) rfl) ?_
      refine QSeq.pure rfl (.bool false) (fun E => ex_extract rfl (E.d 3 1) rfl) ?_
      refine QSeq.go fun act E => ?_
      refine qc_alloc rfl (wanted_none rfl) rfl (z := (mg0C 0 0 0)) (by kernel_rfl) ?_
      intro u13_6 qb12 hm
      have zl13_6 := qb12.lt
      have Hx36 := hid qb12
      have zu13_6 := hm.size
      have HMu13_6 := hid hm
      have Cx37 := hid (Cx35.out.goE hm)
      clear hm Cx35
      clear act E qb12
      refine QSeq.go fun act E => ?_
      have hlz : (ca).length = List.length ((mg0C 0 0 0) : List Value) := (by rw [HLa.out]; kernel_rfl)
      refine qc_store rfl (wanted_none rfl) rfl Hx36.out (off := 0) (vs := ca) (by rw [hlz]; kernel_rfl) HOa.out (by rw [hlz]; exact Nat.le_of_eq (Nat.zero_add _)) (E.d 6 0) (ec (E.d 4 2)) ?_
      intro u13_7 qc0 hm
      have qb12 := qc0.eqv (b := (ca : List Value).toArray) (lay_whole (((mg0C 0 0 0) : List Value).toArray) _ (by rw [hlz]; rfl))
      clear qc0 hlz
      have Hx38 := hid qb12
      have zu13_7 := hm.size
      have HMu13_7 := hid hm
      have Cx39 := hid (Mod.goS (S' := (fun _ => False)) Cx37.out hm (fun _ h => h) (by intro k h0 h2; omega))
      clear hm Cx37
      clear act E qb12 Hx36
      refine QSeq.pure rfl _ (fun E => ex_assign rfl (E.d 5 2)) ?_
      have Hx40 := hid ((Hx34.out.mod HMu13_6.out (fun _ _ h => h)).mod HMu13_7.out (by intro k h1 h2; omega))
      clear Hx34 HMu13_6 HMu13_7
      refine QSeq.nil (t' := [_, _, _, _, _, _, _, _, _]) rfl ?_
      obtain rfl := HA0.out
      clear HA0 oe5 oe9
      simp only [pz, Act.put, List.setIfInBounds_toArray, List.set_cons_zero, List.set_cons_succ, List.set_nil]
      go_upto_region 14 with (fail)
      refine wp_region_U 129 [77, 78, 79, 76, 80, 81, 14, 136, 15] [0, 1, 2, 3, 4, 5, 6, 7, 8] (fun a0 HA0 => ?_)
      have oe5 := ev HA0 5 rfl
      have oe9 := ev HA0 9 rfl
      refine QSeq.pure rfl _ (fun E => ex_move rfl (E.v oe5)) ?_
      refine QSeq.pure rfl _ (fun E => ex_move rfl (E.v oe9)) ?_
      refine QSeq.call rfl rfl Try.func14 (LookN ((K1.out.mod Cx8.out (fun _ _ h => h)).mod Cx39.out (fun _ _ h => h)) hnk) (fun E => args2 (E.d 0 1) (E.d 1 0)) ?_
      rintro e u14_2 ⟨cb, rfl, qb, hm⟩
      have HLb := hid (MgR.len qb)
      have HOb := hid (MgR.one qb)
      refine ⟨_, rfl, ?_⟩
      have Hx41 := hid qb
      have zu14_2 := hm.size
      have Cx42 := hid (show Mod (fun _ => False) u13_7 u14_2 from hm)
      clear hm
      clear qb
      refine QSeq.pure rfl _ (fun E => ex_move rfl (E.d 2 0)) ?_
      refine QSeq.pure rfl (.agg cb.toArray) (fun E => ex_extract rfl (E.d 3 0) rfl) ?_
      refine QSeq.pure rfl (.bool false) (fun E => ex_extract rfl (E.d 3 1) rfl) ?_
      refine QSeq.go fun act E => ?_
      refine qc_alloc rfl (wanted_none rfl) rfl (z := (mg0C 0 0 0)) (by kernel_rfl) ?_
      intro u14_6 qb14 hm
      have zl14_6 := qb14.lt
      have Hx43 := hid qb14
      have zu14_6 := hm.size
      have HMu14_6 := hid hm
      have Cx44 := hid (Cx42.out.goE hm)
      clear hm Cx42
      clear act E qb14
      refine QSeq.go fun act E => ?_
      have hlz : (cb).length = List.length ((mg0C 0 0 0) : List Value) := (by rw [HLb.out]; kernel_rfl)
      refine qc_store rfl (wanted_none rfl) rfl Hx43.out (off := 0) (vs := cb) (by rw [hlz]; kernel_rfl) HOb.out (by rw [hlz]; exact Nat.le_of_eq (Nat.zero_add _)) (E.d 6 0) (ec (E.d 4 2)) ?_
      intro u14_7 qc0 hm
      have qb14 := qc0.eqv (b := (cb : List Value).toArray) (lay_whole (((mg0C 0 0 0) : List Value).toArray) _ (by rw [hlz]; rfl))
      clear qc0 hlz
      have Hx45 := hid qb14
      have zu14_7 := hm.size
      have HMu14_7 := hid hm
      have Cx46 := hid (Mod.goS (S' := (fun _ => False)) Cx44.out hm (fun _ h => h) (by intro k h0 h2; omega))
      clear hm Cx44
      clear act E qb14 Hx43
      refine QSeq.pure rfl _ (fun E => ex_assign rfl (E.d 5 2)) ?_
      have Hx47 := hid ((Hx41.out.mod HMu14_6.out (fun _ _ h => h)).mod HMu14_7.out (by intro k h1 h2; omega))
      clear Hx41 HMu14_6 HMu14_7
      refine QSeq.nil (t' := [_, _, _, _, _, _, _, _, _]) rfl ?_
      obtain rfl := HA0.out
      clear HA0 oe5 oe9
      simp only [pz, Act.put, List.setIfInBounds_toArray, List.set_cons_zero, List.set_cons_succ, List.set_nil]
      go_upto_region 15 with (fail)
      refine wp_region_U 129 [82, 83, 84, 85, 86, 87, 88, 89, 90, 91, 92, 93, 94, 95, 96, 97, 98, 99, 100, 101, 102] [0, 1, 2, 3, 4, 5, 6, 7, 8, 9, 10, 11, 12, 13, 14, 15, 16, 17, 18, 19, 20] (fun a0 HA0 => ?_)
      have oe5 := ev HA0 5 rfl
      have oe10 := ev HA0 10 rfl
      have oe11 := ev HA0 11 rfl
      have oe12 := ev HA0 12 rfl
      have oe13 := ev HA0 13 rfl
      have oe14 := ev HA0 14 rfl
      have oe15 := ev HA0 15 rfl
      refine QSeq.pure rfl _ (fun E => ex_move rfl (E.v oe13)) ?_
      refine QSeq.pure rfl _ (fun E => ex_move rfl (E.v oe15)) ?_
      refine QSeq.pure rfl (.bool false) (fun E => ex_bin rfl (E.d 0 1) (E.d 1 0) (guard_bools _ _ _ _ _ _) (run_neq_bools _ _ _ Try.underlying4)) ?_
      refine QSeq.pure rfl _ (fun E => ex_move rfl (E.d 2 0)) ?_
      refine QSeq.pureG rfl (.agg ca.toArray) (fun E => ((wanted_of rfl rfl (E.sz 85 (by decide)) (E.d 3 0)).trans rfl)) (fun E => ex_loadA rfl Try.underlying67 rfl (off := 0) (cs := ca) (by rw [HLa.out]; kernel_rfl) (E.v oe12) (Cs.whole (Hx38.out.mod Cx46.out (fun h => h)))) ?_
      refine QSeq.pureG rfl (.agg cb.toArray) (fun E => ((wanted_of rfl rfl (E.sz 85 (by decide)) (E.d 3 1)).trans rfl)) (fun E => ex_loadA rfl Try.underlying67 rfl (off := 0) (cs := cb) (by rw [HLb.out]; kernel_rfl) (E.v oe14) (Cs.whole Hx45.out)) ?_
      refine QSeq.go fun act E => ?_
      refine qc_callF (args := #[.agg ca.toArray, .agg cb.toArray]) rfl ((wanted_of rfl rfl (E.sz 85 (by decide)) (E.d 3 2)).trans rfl) rfl Try.func15 (args2 (E.d 4 1) (E.d 5 0)) (Eqs.same Eq_Mg (Hx40.out.mod Cx46.out (fun _ _ h => h)) Hx47.out (by intro k h1; omega) (by intro k h1; omega)) ?_
      rintro e u15_6 ⟨rfl, hm⟩
      refine ⟨_, rfl, ?_⟩
      have zu15_6 := hm.size
      have Cx48 := hid (show Mod (fun _ => False) u14_7 u15_6 from hm)
      clear hm
      clear act E
      refine QSeq.pureG rfl (.bool false) (fun E => ((wanted_of rfl rfl (E.sz 85 (by decide)) (E.d 3 3)).trans rfl)) (fun E => ex_not rfl (E.d 6 0)) ?_
      refine QSeq.pure rfl (.bool false) (fun E => ex_pick rfl (E.d 3 4) rfl (E.d 7 0)) ?_
      refine QSeq.pure rfl _ (fun E => ex_move rfl (E.d 8 0)) ?_
      refine QSeq.pureG rfl (.pointer (some ⟨x, 0, none⟩)) (fun E => ((wanted_of rfl rfl (E.sz 91 (by decide)) (E.d 9 0)).trans rfl)) (fun E => ex_move rfl (E.v oe5)) ?_
      refine QSeq.go fun act E => ?_
      refine qc_callF (args := #[.pointer (some ⟨x, 0, none⟩)]) rfl ((wanted_of rfl rfl (E.sz 91 (by decide)) (E.d 9 1)).trans rfl) rfl Try.func11 (args1 (E.d 10 0)) (LenB ((((K1.out.mod Cx8.out (fun _ _ h => h)).mod Cx39.out (fun _ _ h => h)).mod Cx46.out (fun _ _ h => h)).mod Cx48.out (fun _ _ h => h))) ?_
      rintro e w2 ⟨rfl, hw2⟩
      obtain rfl : u15_6 = w2 := by first | exact hw2 | exact hw2.symm
      refine ⟨_, rfl, ?_⟩
      clear act E
      refine QSeq.pureG rfl (.int .i64 ((l2.length : Nat) : Int)) (fun E => ((wanted_of rfl rfl (E.sz 91 (by decide)) (E.d 9 2)).trans rfl)) (fun E => ex_move rfl (E.v oe10)) ?_
      refine QSeq.pureG rfl (.bool false) (fun E => ((wanted_of rfl rfl (E.sz 91 (by decide)) (E.d 9 3)).trans rfl)) (fun E => ex_binE rfl (E.d 11 1) (E.d 12 0) (guard_ints _ _ _ _ _ _) (run_neq_i _ _ _ Try.underlying3) (congrArg Value.bool (ne_ff rfl))) ?_
      refine QSeq.pure rfl (.bool false) (fun E => ex_pick rfl (E.d 9 4) rfl (E.d 13 0)) ?_
      refine QSeq.pure rfl _ (fun E => ex_move rfl (E.d 14 0)) ?_
      refine QSeq.pureG rfl (.pointer (some ⟨x, 0, none⟩)) (fun E => ((wanted_of rfl rfl (E.sz 97 (by decide)) (E.d 15 0)).trans rfl)) (fun E => ex_move rfl (E.v oe5)) ?_
      refine QSeq.go fun act E => ?_
      refine qc_callF (args := #[.pointer (some ⟨x, 0, none⟩)]) rfl ((wanted_of rfl rfl (E.sz 97 (by decide)) (E.d 15 1)).trans rfl) rfl Try.func12 (args1 (E.d 16 0)) (SentB ((((K1.out.mod Cx8.out (fun _ _ h => h)).mod Cx39.out (fun _ _ h => h)).mod Cx46.out (fun _ _ h => h)).mod Cx48.out (fun _ _ h => h))) ?_
      rintro e w2 ⟨rfl, hw2⟩
      obtain rfl : u15_6 = w2 := by first | exact hw2 | exact hw2.symm
      refine ⟨_, rfl, ?_⟩
      clear act E
      refine QSeq.pureG rfl (.int .i64 ((sn : Nat) : Int)) (fun E => ((wanted_of rfl rfl (E.sz 97 (by decide)) (E.d 15 2)).trans rfl)) (fun E => ex_move rfl (E.v oe11)) ?_
      refine QSeq.pureG rfl (.bool false) (fun E => ((wanted_of rfl rfl (E.sz 97 (by decide)) (E.d 15 3)).trans rfl)) (fun E => ex_binE rfl (E.d 17 1) (E.d 18 0) (guard_ints _ _ _ _ _ _) (run_neq_i _ _ _ Try.underlying3) (congrArg Value.bool (ne_ff rfl))) ?_
      refine QSeq.pure rfl (.bool false) (fun E => ex_pick rfl (E.d 15 4) rfl (E.d 19 0)) ?_
      refine QSeq.nil (t' := [_, _, _, _, _, _, _, _, _, _, _, _, _, _, _, _, _, _, _, _, _]) rfl ?_
      obtain rfl := HA0.out
      clear HA0 oe5 oe10 oe11 oe12 oe13 oe14 oe15
      simp only [pz, Act.put, List.setIfInBounds_toArray, List.set_cons_zero, List.set_cons_succ]
      clear Hx45
      clear Hx47
      go_upto_region 17 with (fail)
      refine wp_region_U 129 [104, 105, 106, 103, 107, 108, 16, 136, 17] [0, 1, 2, 3, 4, 5, 6, 7, 8] (fun a0 HA0 => ?_)
      have oe5 := ev HA0 5 rfl
      have oe9 := ev HA0 9 rfl
      refine QSeq.pure rfl _ (fun E => ex_move rfl (E.v oe5)) ?_
      refine QSeq.pure rfl _ (fun E => ex_move rfl (E.v oe9)) ?_
      refine QSeq.call rfl rfl Try.func10 (TakeN ((((K1.out.mod Cx8.out (fun _ _ h => h)).mod Cx39.out (fun _ _ h => h)).mod Cx46.out (fun _ _ h => h)).mod Cx48.out (fun _ _ h => h)) hnk) (fun E => args2 (E.d 0 1) (E.d 1 0)) ?_
      rintro e u17_2 ⟨cc, rfl, qc, hm⟩
      have HLc := hid (MgR.len qc)
      have HOc := hid (MgR.one qc)
      refine ⟨_, rfl, ?_⟩
      have Hx49 := hid qc
      have zu17_2 := hm.size
      have Cx50 := hid (show Mod (fun _ => False) u15_6 u17_2 from hm)
      clear hm
      clear qc
      refine QSeq.pure rfl _ (fun E => ex_move rfl (E.d 2 0)) ?_
      refine QSeq.pure rfl (.agg cc.toArray) (fun E => ex_extract rfl (E.d 3 0) rfl) ?_
      refine QSeq.pure rfl (.bool false) (fun E => ex_extract rfl (E.d 3 1) rfl) ?_
      refine QSeq.go fun act E => ?_
      refine qc_alloc rfl (wanted_none rfl) rfl (z := (mg0C 0 0 0)) (by kernel_rfl) ?_
      intro u17_6 qb16 hm
      have zl17_6 := qb16.lt
      have Hx51 := hid qb16
      have zu17_6 := hm.size
      have HMu17_6 := hid hm
      have Cx52 := hid (Cx50.out.goE hm)
      clear hm Cx50
      clear act E qb16
      refine QSeq.go fun act E => ?_
      have hlz : (cc).length = List.length ((mg0C 0 0 0) : List Value) := (by rw [HLc.out]; kernel_rfl)
      refine qc_store rfl (wanted_none rfl) rfl Hx51.out (off := 0) (vs := cc) (by rw [hlz]; kernel_rfl) HOc.out (by rw [hlz]; exact Nat.le_of_eq (Nat.zero_add _)) (E.d 6 0) (ec (E.d 4 2)) ?_
      intro u17_7 qc0 hm
      have qb16 := qc0.eqv (b := (cc : List Value).toArray) (lay_whole (((mg0C 0 0 0) : List Value).toArray) _ (by rw [hlz]; rfl))
      clear qc0 hlz
      have Hx53 := hid qb16
      have zu17_7 := hm.size
      have HMu17_7 := hid hm
      have Cx54 := hid (Mod.goS (S' := (fun _ => False)) Cx52.out hm (fun _ h => h) (by intro k h0 h2; omega))
      clear hm Cx52
      clear act E qb16 Hx51
      refine QSeq.pure rfl _ (fun E => ex_assign rfl (E.d 5 2)) ?_
      have Hx55 := hid ((Hx49.out.mod HMu17_6.out (fun _ _ h => h)).mod HMu17_7.out (by intro k h1 h2; omega))
      clear Hx49 HMu17_6 HMu17_7
      refine QSeq.nil (t' := [_, _, _, _, _, _, _, _, _]) rfl ?_
      obtain rfl := HA0.out
      clear HA0 oe5 oe9
      simp only [pz, Act.put, List.setIfInBounds_toArray, List.set_cons_zero, List.set_cons_succ, List.set_nil]
      go_upto_region 18 with (fail)
      refine wp_region_U 129 [109, 110, 111, 112, 113, 114, 115, 116, 117, 118, 119, 120, 121, 122, 123, 124, 125, 126, 127] [0, 1, 2, 3, 4, 5, 6, 7, 8, 9, 10, 11, 12, 13, 14, 15, 16, 17, 18] (fun a0 HA0 => ?_)
      have oe12 := ev HA0 12 rfl
      have oe13 := ev HA0 13 rfl
      have oe16 := ev HA0 16 rfl
      have oe17 := ev HA0 17 rfl
      refine QSeq.pure rfl _ (fun E => ex_move rfl (E.v oe17)) ?_
      refine QSeq.pure rfl _ (fun E => ex_move rfl (E.v oe13)) ?_
      refine QSeq.pure rfl (.bool false) (fun E => ex_bin rfl (E.d 0 1) (E.d 1 0) (guard_bools _ _ _ _ _ _) (run_neq_bools _ _ _ Try.underlying4)) ?_
      refine QSeq.pure rfl _ (fun E => ex_move rfl (E.d 2 0)) ?_
      refine QSeq.pureG rfl (.agg ca.toArray) (fun E => ((wanted_of rfl rfl (E.sz 112 (by decide)) (E.d 3 0)).trans rfl)) (fun E => ex_loadA rfl Try.underlying67 rfl (off := 0) (cs := ca) (by rw [HLa.out]; kernel_rfl) (E.v oe12) (Cs.whole (((Hx38.out.mod Cx46.out (fun h => h)).mod Cx48.out (fun h => h)).mod Cx54.out (fun h => h)))) ?_
      refine QSeq.pureG rfl (.agg cc.toArray) (fun E => ((wanted_of rfl rfl (E.sz 112 (by decide)) (E.d 3 1)).trans rfl)) (fun E => ex_loadA rfl Try.underlying67 rfl (off := 0) (cs := cc) (by rw [HLc.out]; kernel_rfl) (E.v oe16) (Cs.whole Hx53.out)) ?_
      refine QSeq.go fun act E => ?_
      refine qc_callF (args := #[.agg ca.toArray, .agg cc.toArray]) rfl ((wanted_of rfl rfl (E.sz 112 (by decide)) (E.d 3 2)).trans rfl) rfl Try.func15 (args2 (E.d 4 1) (E.d 5 0)) (Eqs.same Eq_Mg (((Hx40.out.mod Cx46.out (fun _ _ h => h)).mod Cx48.out (fun _ _ h => h)).mod Cx54.out (fun _ _ h => h)) Hx55.out (by intro k h1; omega) (by intro k h1; omega)) ?_
      rintro e u18_6 ⟨rfl, hm⟩
      refine ⟨_, rfl, ?_⟩
      have zu18_6 := hm.size
      have Cx56 := hid (show Mod (fun _ => False) u17_7 u18_6 from hm)
      clear hm
      clear act E
      refine QSeq.pureG rfl (.bool false) (fun E => ((wanted_of rfl rfl (E.sz 112 (by decide)) (E.d 3 3)).trans rfl)) (fun E => ex_not rfl (E.d 6 0)) ?_
      refine QSeq.pure rfl (.bool false) (fun E => ex_pick rfl (E.d 3 4) rfl (E.d 7 0)) ?_
      refine QSeq.pure rfl _ (fun E => ex_move rfl (E.d 8 0)) ?_
      refine QSeq.pureG rfl (.bool false) (fun E => ((wanted_of rfl rfl (E.sz 118 (by decide)) (E.d 9 0)).trans rfl)) (fun E => ex_move rfl (E.v oe17)) ?_
      refine QSeq.pureG rfl (.bool false) (fun E => ((wanted_of rfl rfl (E.sz 118 (by decide)) (E.d 9 1)).trans rfl)) (fun E => ex_move rfl (E.d 10 0)) ?_
      refine QSeq.skip rfl (fun E => ((wanted_of rfl rfl (E.sz 120 (by decide)) (E.d 11 0)).trans rfl)) ?_
      refine QSeq.skip rfl (fun E => ((wanted_of rfl rfl (E.sz 120 (by decide)) (E.d 11 1)).trans rfl)) ?_
      refine QSeq.skip rfl (fun E => ((wanted_of rfl rfl (E.sz 120 (by decide)) (E.d 11 2)).trans rfl)) ?_
      refine QSeq.skip rfl (fun E => ((wanted_of rfl rfl (E.sz 120 (by decide)) (E.d 11 3)).trans rfl)) ?_
      refine QSeq.skip rfl (fun E => ((wanted_of rfl rfl (E.sz 120 (by decide)) (E.d 11 4)).trans rfl)) ?_
      refine QSeq.pureG rfl (.bool false) (fun E => ((wanted_of rfl rfl (E.sz 118 (by decide)) (E.d 9 7)).trans rfl)) (fun E => ex_pick rfl (E.d 11 5) (E.d 16 0) rfl) ?_
      refine QSeq.pure rfl (.bool false) (fun E => ex_pick rfl (E.d 9 8) rfl (E.d 17 0)) ?_
      refine QSeq.nil (t' := [_, _, _, _, _, _, _, _, _, _, _, _, _, _, _, _, _, _, _]) rfl ?_
      obtain rfl := HA0.out
      clear HA0 oe12 oe13 oe16 oe17
      simp only [pz, Act.put, List.setIfInBounds_toArray, List.set_cons_zero, List.set_cons_succ]
      clear Hx38
      clear Hx53
      clear Hx40
      clear Hx55
      go_upto_region 10 with (fail)
      refine wp_region_U 129 [55, 56, 8] [0, 1, 2] (fun a0 HA0 => ?_)
      have oe8 := ev HA0 8 rfl
      refine QSeq.pure rfl _ (fun E => ex_move rfl (E.y 2 oe8)) ?_
      refine QSeq.pure rfl (.int .i64 ((j + 1 : Nat) : Int)) (fun E => ex_binE rfl (E.d 0 0) rfl (guard_ints _ _ _ _ _ _) (run_add_i _ _ Try.underlying3) (congrArg (Value.int .i64) (i64_eq (b := ((j + 1 : Nat) : Int)) (by omega) (by omega) (by omega)))) ?_
      refine QSeq.pure rfl _ (fun E => ex_assign rfl (E.d 1 0)) ?_
      refine QSeq.nil (t' := [_, _, _]) rfl ?_
      obtain rfl := HA0.out
      clear HA0 oe8
      simp only [pz, Act.put, List.setIfInBounds_toArray, List.set_cons_zero, List.set_cons_succ]
      go_wp2
      go_roundw
      case rel => exact ⟨j + 1, l2, rfl, by omega, by omega, hP2, by omega, (((((((K1.out.mod Cx8.out (fun _ _ h => h)).mod Cx39.out (fun _ _ h => h)).mod Cx46.out (fun _ _ h => h)).mod Cx48.out (fun _ _ h => h)).mod Cx54.out (fun _ _ h => h)).mod Cx56.out (fun _ _ h => h)).widen (R' := fun k => New w u18_6 k) (by intro k h1;  ((try dsimp only at h1 ⊢); unfold New at *; omega))), ((((((K2.out.mod Cx8.out (fun _ _ h => h)).mod Cx39.out (fun _ _ h => h)).mod Cx46.out (fun _ _ h => h)).mod Cx48.out (fun _ _ h => h)).mod Cx54.out (fun _ _ h => h)).mod Cx56.out (fun _ _ h => h)), ((((((K3.out.mod Cx8.out (fun _ _ h => h)).mod Cx39.out (fun _ _ h => h)).mod Cx46.out (fun _ _ h => h)).mod Cx48.out (fun _ _ h => h)).mod Cx54.out (fun _ _ h => h)).mod Cx56.out (fun _ _ h => h)), ((((((K4.out.trans Cx8.out (fun _ _ h => h.elim)).trans Cx39.out (fun _ _ h => h.elim)).trans Cx46.out (fun _ _ h => h.elim)).trans Cx48.out (fun _ _ h => h.elim)).trans Cx54.out (fun _ _ h => h.elim)).trans Cx56.out (fun _ _ h => h.elim))⟩
      case measure => simp [intOf]; omega
    ·obtain rfl : pb7 = false := HB7.out.trans (by rw [Bool.eq_false_iff]; intro h; simp only [Bool.and_eq_true, decide_eq_true_eq] at h; omega)
     go_upto_region 20 with (fail)
     refine wp_region_U 129 [128, 4] [0, 1] (fun a0 HA0 => ?_)
     refine QSeq.call rfl rfl Try.func13 (wakes23 _) (fun E => args0) ?_
     rintro e u20_0 ⟨rfl, hm⟩
     refine ⟨_, rfl, ?_⟩
     have zu20_0 := hm.size
     have Cx57 := hid (show Mod (fun _ => False) wm u20_0 from hm)
     clear hm
     refine QSeq.pure rfl _ (fun E => ex_assign rfl (E.d 0 0)) ?_
     refine QSeq.nil (t' := [_, _]) rfl ?_
     obtain rfl := HA0.out
     clear HA0
     simp only [pz, Act.put, List.setIfInBounds_toArray, List.set_cons_zero, List.set_cons_succ]
     go_wp2
     go_ret
     exact ⟨rfl, (K4.out.trans Cx57.out (fun _ _ h => h.elim))⟩
end Go.Proofs.Ytekbmpjdombedaa

namespace Go.Proofs.Ytekbmpjdombedaa.netLooks
open Go Go.RowKit Go.Gv Go.ChangeShapes Go.WideShapes Go.ChangeAt
open Go.ChangeMaps (open_string shut_string)

theorem own : ownKnob Try.prog.godebug = none := by kernel_rfl
theorem laidOut : laidOutB Try.prog = true := by kernel_rfl

theorem lifted (os : Os) (started : os.Started) (H : Type) (enc : TypeId × Value → H) :
    ReturnsInHanded {} Try.checked os 4 .any (Rows.netLooksSpec.pre6 enc Try.prog Try.f4 Rows.netLooksRow.domain false) (Rows.netLooksSpec.post enc Try.prog Try.f4 false true false false) := by
  refine returnsInHanded_of_change (C := Try.checked) own started (by kernel_rfl) Try.func4
    (ChangeSpec.witness6 (enc := enc) (C := Try.checked) false ⟨#[], #[.slice none 0 0, .slice none 0 0], []⟩ 8 (by kernel_rfl) (by kernel_rfl) (by kernel_rfl) (by kernel_rfl)) ?_
  intro W base args ds gs before hval0 hW hcnd _
  have hval : ∀ (j : Nat) t v, Try.f4.params[j]? = some t → args[j]? = some v → Value.okWide Try.prog W .any base t v := hval0
  have hW' := hW
  obtain ⟨p, q, hA0, hV, rfl, hfz, hnd⟩ := hW
  have hA : DataW.TrodAll enc Try.prog W 0 (fun _ => true) true Try.f4.params.toList args.toList ds p := hA0
  rw [Try.params4] at hA hval
  obtain ⟨v0, vs0, d0, ds0, p0, q0, hargs, rfl, rfl, h0, r0⟩ := trodAll_cons hA
  obtain ⟨v1, vs1, d1, ds1, p1, q1, rfl, rfl, rfl, h1, r1⟩ := trodAll_cons r0
  obtain ⟨rfl, rfl, rfl⟩ := trodAll_nil r1
  obtain rfl : args = #[v0, v1] := by cases args; simp_all
  obtain ⟨rfl, rfl⟩ := trodVars_none hV
  have k0 := h0
  have lt0 : ∀ x ∈ p0, x.block < W.heap.size := by obtain ⟨m, hm⟩ := k0; exact DataW.trod_lt m _ _ _ hm
  have k1 := h1
  have lt1 : ∀ x ∈ p1, x.block < W.heap.size := by obtain ⟨m, hm⟩ := k1; exact DataW.trod_lt m _ _ _ hm
  obtain ⟨l0, e0⟩ := slice_arg reads_int Try.underlying22 (by kernel_rfl) k0 (hval 0 22 v0 rfl rfl)
  obtain ⟨l1, e1⟩ := slice_arg reads_int Try.underlying22 (by kernel_rfl) k1 (hval 1 22 v1 rfl rfl)
  clear hA0 hval0
  refine (NetLooks_walk l0 l1 v0 v1 W e0 e1).mono fun e W' ⟨he, hmod⟩ => ?_
  subst he
  have bel : Below W.heap.size W W' := hmod.below (Nat.le_refl _) (fun _ _ => id)
  exact ⟨_, rfl, _, _, _, [], _, [], hW', trodAll_mk1 (shut_bool Try.underlying4 _), (trodAll_cons_mk (Below.trod laidOut (by kernel_rfl) (of_decide_eq_true (by kernel_rfl)) k0 bel lt0) (trodAll_cons_mk (Below.trod laidOut (by kernel_rfl) (of_decide_eq_true (by kernel_rfl)) k1 bel lt1) trodAll_mk0)), rfl, bel.frame _, fun h => by cases h⟩

theorem over : Rows.netLooksRow.holds Try.pinned (OpenSpec.ofChange Rows.netLooksSpec) :=
  OpenClaim.holds_of_wide 4 Try.f4 rfl rfl rfl rfl rfl rfl rfl ⟨rfl, rfl, rfl, rfl, rfl⟩ rfl rfl rfl rfl rfl (by kernel_rfl) Try.func4 (by kernel_rfl)
    (of_decide_eq_true (by kernel_rfl)) (by unfold Func.isWrapper; first | (rw [if_pos (by decide +kernel)]; kernel_rfl) | (rw [if_neg (by decide +kernel)]; exact ⟨rfl, rfl⟩))
    (fun os started H enc _ => lifted os started H enc)

theorem proved : Rows.NetLooksSaid := over
end Go.Proofs.Ytekbmpjdombedaa.netLooks
