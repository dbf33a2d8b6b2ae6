/- NetFull: what has no room is lost, and counted; taken off there is room again; what is doubled is not sent: for every room, every list of numbers and every list of choices the law returns true. No condition. -/
import Derived.Test.YtekbmpjdombedaaNfP4
import Derived.ProofKit
import Derived.OpenShut
import Derived.ChangeOld
set_option maxRecDepth 100000
set_option linter.unusedVariables false
/- NetFull: the walk. -/
namespace Go.Proofs.Ytekbmpjdombedaa
open Go Go.RowKit Go.Gv

set_option maxHeartbeats 16000000 in
theorem NetFull_walk (e0 : Int) (ss : List Int) (ts : List Bool) (vs vt : Value) (w : World) (he : -9223372036854775808 ≤ e0 ∧ e0 ≤ 9223372036854775807) (hs : RdS InR (fun k => k < w.heap.size) w vs ss) (ht : RdS BlR (fun k => k < w.heap.size) w vt ts) :
    Calls Try.prog 5 #[.int .i64 e0, vs, vt] w fun e w' => e = .returned (.bool true) ∧ Mod (fun _ => False) w w' := by
  obtain ⟨as_, caps, rfl⟩ := hs.shape
  obtain ⟨at_, capt, rfl⟩ := ht.shape
  have HSS := Lib.hid hs
  have HTS := Lib.hid ht
  clear hs ht
  go_enter Try.func5, Try.ntmps5
  go_upto_region 1 with (fail)
  have HM0 := hid (Mod.refl (fun _ => False) w)
  obtain ⟨m, hm, hml⟩ := within_nat e0 9 (by decide)
  have HW := hid (Within_any e0 9 (by decide) (by decide) he)
  rw [hm] at HW
  clear hm
  obtain ⟨mo, hmo⟩ : ∃ mo, mo = 1 + m := ⟨_, rfl⟩
  have hmo9 : 1 ≤ mo ∧ mo ≤ 9 := by omega
  go_upto_region 1 with (fail)
  refine wp_region_U 128 [17, 18, 19, 0] [0, 1, 2, 3] (fun a0 HA0 => ?_)
  have oe0 := ev HA0 0 rfl
  refine QSeq.pure rfl _ (fun E => ex_move rfl (E.y 3 oe0)) ?_
  refine QSeq.go fun act E => ?_
  refine qc_callF (args := #[.int .i64 e0, .int .i64 9]) rfl (wanted_none rfl) rfl Try.func9 (args2 (E.d 0 0) rfl) (HW.out _) ?_
  rintro e w2 ⟨rfl, hw2⟩
  obtain rfl : w = w2 := by first | exact hw2 | exact hw2.symm
  refine ⟨_, rfl, ?_⟩
  clear act E
  refine QSeq.pure rfl (.int .i64 ((mo : Nat) : Int)) (fun E => ex_binE rfl rfl (E.d 1 0) (guard_ints _ _ _ _ _ _) (run_add_i _ _ Try.underlying3) (congrArg (Value.int .i64) (i64_eq (b := ((mo : Nat) : Int)) (by omega) (by omega) (by omega)))) ?_
  refine QSeq.pure rfl _ (fun E => ex_assign rfl (E.d 2 0)) ?_
  refine QSeq.nil (t' := [_, _, _, _]) rfl ?_
  obtain rfl := HA0.out
  clear HA0 oe0
  simp only [pz, Act.put, List.setIfInBounds_toArray, List.set_cons_zero, List.set_cons_succ]
  clear hmo HW hml
  go_upto_region 2 with (fail)
  refine wp_region_U 128 [21, 22, 20, 23, 24, 7, 8] [0, 1, 2, 3, 4, 5, 6] (fun a0 HA0 => ?_)
  have oe0 := ev HA0 0 rfl
  refine QSeq.pure rfl _ (fun E => ex_move rfl (E.v oe0)) ?_
  refine QSeq.call rfl rfl Try.func7 (NNew_Q (mo := ((mo : Nat) : Int)) (by omega) _) (fun E => args1 (E.d 0 0)) ?_
  rintro e u2_1 ⟨x, rfl, qnt, hm⟩
  refine ⟨_, rfl, ?_⟩
  have Hx1 := hid qnt
  have zu2_1 := hm.size
  have Cx2 := hid (show Mod (fun _ => False) w u2_1 from hm)
  clear hm
  clear qnt
  refine QSeq.pure rfl _ (fun E => ex_move rfl (E.d 1 0)) ?_
  refine QSeq.pure rfl (.pointer (some ⟨x, 0, none⟩)) (fun E => ex_extract rfl (E.d 2 0) rfl) ?_
  refine QSeq.pure rfl (.int .i64 0) (fun E => ex_extract rfl (E.d 2 1) rfl) ?_
  refine QSeq.pure rfl _ (fun E => ex_assign rfl (E.d 3 1)) ?_
  refine QSeq.pure rfl _ (fun E => ex_assign rfl (E.d 4 1)) ?_
  refine QSeq.nil (t' := [_, _, _, _, _, _, _]) rfl ?_
  obtain rfl := HA0.out
  clear HA0 oe0
  simp only [pz, Act.put, List.setIfInBounds_toArray, List.set_cons_zero, List.set_cons_succ]
  go_upto_region 3 with (fail)
  refine wp_region_U 128 [25, 26, 27, 28, 29, 30] [0, 1, 2, 3, 4, 5] (fun a0 HA0 => ?_)
  have oe7 := ev HA0 7 rfl
  have oe8 := ev HA0 8 rfl
  refine QSeq.pure rfl _ (fun E => ex_move rfl (E.v oe8)) ?_
  refine QSeq.pure rfl (.bool false) (fun E => ex_binE rfl (E.d 0 0) rfl (guard_ints _ _ _ _ _ _) (run_neq_i _ _ _ Try.underlying24) (congrArg Value.bool (show _ = false from rfl))) ?_
  refine QSeq.pure rfl _ (fun E => ex_move rfl (E.d 1 0)) ?_
  refine QSeq.pureG rfl (.pointer (some ⟨x, 0, none⟩)) (fun E => ((wanted_of rfl rfl (E.sz 27 (by decide)) (E.d 2 0)).trans rfl)) (fun E => ex_move rfl (E.v oe7)) ?_
  refine QSeq.pureG rfl (.bool false) (fun E => ((wanted_of rfl rfl (E.sz 27 (by decide)) (E.d 2 1)).trans rfl)) (fun E => ex_bin rfl (E.d 3 0) rfl (guard_ptr _ _ _ _ _ _ _) (run_eql_nil _ Try.underlying23 (by kernel_rfl) _)) ?_
  refine QSeq.pure rfl (.bool false) (fun E => ex_pick rfl (E.d 2 2) rfl (E.d 4 0)) ?_
  refine QSeq.nil (t' := [_, _, _, _, _, _]) rfl ?_
  obtain rfl := HA0.out
  clear HA0 oe7 oe8
  simp only [pz, Act.put, List.setIfInBounds_toArray, List.set_cons_zero, List.set_cons_succ]
  go_upto_region 5 with (fail)
  refine wp_region_U 128 [9, 10, 11] [0, 1, 2] (fun a0 HA0 => ?_)
  refine QSeq.pure rfl (.int .i64 0) (fun E => ex_assign rfl rfl) ?_
  refine QSeq.pure rfl (.int .i64 0) (fun E => ex_assign rfl rfl) ?_
  refine QSeq.pure rfl (.int .i64 0) (fun E => ex_assign rfl rfl) ?_
  refine QSeq.nil (t' := [_, _, _]) rfl ?_
  obtain rfl := HA0.out
  clear HA0
  simp only [pz, Act.put, List.setIfInBounds_toArray, List.set_cons_zero, List.set_cons_succ]
  go_upto_region 6 with (fail)
  refine wp_region_U 128 [12] [0] (fun a0 HA0 => ?_)
  refine QSeq.pure rfl (.int .i64 0) (fun E => ex_assign rfl rfl) ?_
  refine QSeq.nil (t' := [_]) rfl ?_
  obtain rfl := HA0.out
  clear HA0
  simp only [pz, Act.put, List.setIfInBounds_toArray, List.set_cons_zero, List.set_cons_succ]
  go_wp2
  go_loopw [9, 10, 11, 12] (fun t9 t10 t11 ti wr => ∃ (i sn lo : Nat) (l : List Mg), t9 = .int .i64 ((l.length : Nat) : Int) ∧ t10 = .int .i64 ((sn : Nat) : Int) ∧ t11 = .int .i64 ((lo : Nat) : Int) ∧ ti = .int .i64 ((i : Nat) : Int) ∧ i ≤ 20 ∧ l.length ≤ mo ∧ sn ≤ 4 * i ∧ lo ≤ 4 * i ∧ (∀ m ∈ l, cpMg m) ∧ u2_1.heap.size ≤ wr.heap.size ∧ NtR (fun k => New w wr k) wr x ((mo : Nat) : Int) l ((sn : Nat) : Int) ((lo : Nat) : Int) ∧ RdS InR (fun k => k < w.heap.size) wr (.slice as_ ss.length caps) ss ∧ RdS BlR (fun k => k < w.heap.size) wr (.slice at_ ts.length capt) ts ∧ Mod (fun _ => False) w wr) (fun _ _ _ ti _ => 20 - (intOf ti).toNat)
  case atStart => exact ⟨0, 0, 0, [], rfl, rfl, rfl, rfl, by omega, Nat.zero_le _, by omega, by omega, (fun m hm => by cases hm), Nat.le_refl _, (Hx1.out.widen (R' := fun k => New w u2_1 k) (by intro k h1;  ((try dsimp only at h1 ⊢); unfold New at *; omega))), (HSS.out.mod Cx2.out (fun _ _ h => h)), (HTS.out.mod Cx2.out (fun _ _ h => h)), (HM0.out.trans Cx2.out (fun _ _ h => h.elim))⟩
  case round =>
    obtain ⟨i, sn, lo, l, rfl, rfl, rfl, rfl, hi20, hlm, hsn, hlo, hP, hz, k1, k2, k3, k4⟩ := hrel
    obtain ⟨wl, rfl⟩ : ∃ x, x = wr := ⟨_, rfl⟩
    have K1 := Lib.hid k1
    have K2 := Lib.hid k2
    have K3 := Lib.hid k3
    have K4 := Lib.hid k4
    clear k1 k2 k3 k4 HSS HTS HM0 Hx1
    go_upto_region 7 with (fail)
    refine wp_region_U 128 [31, 32, 33, 34, 35, 36, 37, 38] [0, 1, 2, 3, 4, 5, 6, 7] (fun a0 HA0 => ?_)
    have oe1 := ev HA0 1 rfl
    have oe12 := ev HA0 12 rfl
    refine QSeq.pure rfl _ (fun E => ex_move rfl (E.v oe12)) ?_
    refine QSeq.pure rfl _ (fun E => ex_move rfl (E.v oe1)) ?_
    refine QSeq.pure rfl (.int .i64 ss.length) (fun E => ex_lenS rfl (E.d 1 0) Try.underlying22) ?_
    refine QSeq.pure rfl (.bool (decide (((i : Nat) : Int) < ((ss.length : Nat) : Int)))) (fun E => ex_bin rfl (E.d 0 2) (E.d 2 0) (guard_ints _ _ _ _ _ _) (run_lss_i _ _ _ Try.underlying3)) ?_
    refine QSeq.pure rfl _ (fun E => ex_move rfl (E.d 3 0)) ?_
    refine QSeq.may (b := (decide (((i : Nat) : Int) < ((ss.length : Nat) : Int)))) rfl (.int .i64 ((i : Nat) : Int)) (fun E => ((wanted_of rfl rfl (E.sz 35 (by decide)) (E.d 4 0)).trans (beq_t _))) (fun E hb => ex_move rfl (E.v oe12)) ?_
    intro v7_5 hw
    have hv7_5 := hid hw
    clear hw
    refine QSeq.may (b := (decide (((i : Nat) : Int) < ((ss.length : Nat) : Int)))) rfl (.bool (decide (((i : Nat) : Int) < 20))) (fun E => ((wanted_of rfl rfl (E.sz 35 (by decide)) (E.d 4 1)).trans (beq_t _))) (fun E hb => ex_bin rfl ((E.q 5 0 hv7_5.out).1 hb) rfl (guard_ints _ _ _ _ _ _) (run_lss_i _ _ _ Try.underlying3)) ?_
    intro v7_6 hw
    have hv7_6 := hid hw
    clear hw
    obtain ⟨pb7, hb7⟩ : ∃ b : Bool, b = ((decide (((i : Nat) : Int) < ((ss.length : Nat) : Int))) && (decide (((i : Nat) : Int) < 20))) := ⟨_, rfl⟩
    have HB7 := hid hb7
    clear hb7
    refine QSeq.pure rfl (.bool pb7) (fun E => ex_pickE rfl (E.d 4 2) rfl rfl ((and_val fun hb => (E.q 6 0 hv7_6.out).1 hb).trans (congrArg Value.bool HB7.out.symm))) ?_
    clear hv7_5 hv7_6
    refine QSeq.nil (t' := [_, _, _, _, _, _, _, _]) rfl ?_
    obtain rfl := HA0.out
    clear HA0 oe1 oe12
    simp only [pz, Act.put, List.setIfInBounds_toArray, List.set_cons_zero, List.set_cons_succ]
    by_cases hc : i < ss.length ∧ i < 20
    · obtain ⟨hc1, hc2⟩ := hc
      obtain rfl : pb7 = true := HB7.out.trans (by simp only [Bool.and_eq_true, decide_eq_true_eq]; omega)
      obtain ⟨g1, o1, cs1, ea1, hrg, hrd, hcs⟩ := K2.out.at hc1
      obtain ⟨rfl, hdd⟩ := hrd
      generalize ss[i] = d at hcs hdd
      subst ea1
      have HAT1 := hid (show CellsAt (fun k => k < w.heap.size) wl g1 (o1 + i * 1) [.int .i64 d] from ⟨hrg, hcs⟩)
      clear hrg hcs
      obtain ⟨k, hk, hkl⟩ := within_nat d 5 (by decide)
      have HW2 := hid (Within_any d 5 (by decide) (by decide) hdd)
      rw [hk] at HW2
      clear hk
      obtain ⟨r, hr⟩ : ∃ r, r + l.length = mo := ⟨mo - l.length, by omega⟩
      obtain ⟨p, hp⟩ : ∃ p, p = min k r := ⟨_, rfl⟩
      go_upto_region 9 with (fail)
      refine wp_region_U 128 [41, 42, 43, 44, 45, 13] [0, 1, 2, 3, 4, 5] (fun a0 HA0 => ?_)
      have oe1 := ev HA0 1 rfl
      have oe12 := ev HA0 12 rfl
      refine QSeq.pure rfl _ (fun E => ex_move rfl (E.v oe1)) ?_
      refine QSeq.pure rfl _ (fun E => ex_move rfl (E.v oe12)) ?_
      refine QSeq.pure rfl (.pointer (some ⟨g1, o1 + i * 1, none⟩)) (fun E => ex_idxS (i := i) (s := 1) rfl Try.underlying22 (by kernel_rfl) (E.d 0 1) (E.d 1 0) (by omega)) ?_
      refine QSeq.pure rfl (.int .i64 d) (fun E => ex_load1 rfl Try.underlying3 rfl (E.d 2 0) ((HAT1.out).2 0 _ rfl)) ?_
      refine QSeq.go fun act E => ?_
      refine qc_callF (args := #[.int .i64 d, .int .i64 5]) rfl (wanted_none rfl) rfl Try.func9 (args2 (E.d 3 0) rfl) (HW2.out _) ?_
      rintro e w2 ⟨rfl, hw2⟩
      obtain rfl : wl = w2 := by first | exact hw2 | exact hw2.symm
      refine ⟨_, rfl, ?_⟩
      clear act E
      refine QSeq.pure rfl _ (fun E => ex_assign rfl (E.d 4 0)) ?_
      refine QSeq.nil (t' := [_, _, _, _, _, _]) rfl ?_
      obtain rfl := HA0.out
      clear HA0 oe1 oe12
      simp only [pz, Act.put, List.setIfInBounds_toArray, List.set_cons_zero, List.set_cons_succ]
      clear HAT1
      go_upto_region 10 with (fail)
      refine wp_region_U 128 [46, 47, 48, 49, 50, 14] [0, 1, 2, 3, 4, 5] (fun a0 HA0 => ?_)
      have oe0 := ev HA0 0 rfl
      have oe9 := ev HA0 9 rfl
      have oe13 := ev HA0 13 rfl
      refine QSeq.pure rfl _ (fun E => ex_move rfl (E.v oe13)) ?_
      refine QSeq.pure rfl _ (fun E => ex_move rfl (E.v oe0)) ?_
      refine QSeq.pure rfl _ (fun E => ex_move rfl (E.v oe9)) ?_
      refine QSeq.pure rfl (.int .i64 ((r : Nat) : Int)) (fun E => ex_binE rfl (E.d 1 1) (E.d 2 0) (guard_ints _ _ _ _ _ _) (run_sub_i _ _ Try.underlying3) (congrArg (Value.int .i64) (i64_eq (b := ((r : Nat) : Int)) (by omega) (by omega) (by omega)))) ?_
      refine QSeq.pure rfl (.int .i64 ((p : Nat) : Int)) (fun E => ex_min (r := ((p : Nat) : Int)) rfl (E.d 0 3) (E.d 3 0) (by split <;> omega)) ?_
      refine QSeq.pure rfl _ (fun E => ex_assign rfl (E.d 4 0)) ?_
      refine QSeq.nil (t' := [_, _, _, _, _, _]) rfl ?_
      obtain rfl := HA0.out
      clear HA0 oe0 oe9 oe13
      simp only [pz, Act.put, List.setIfInBounds_toArray, List.set_cons_zero, List.set_cons_succ]
      go_upto_region 11 with (fail)
      refine wp_region_U 128 [51, 52, 53, 54, 55, 56] [0, 1, 2, 3, 4, 5] (fun a0 HA0 => ?_)
      have oe7 := ev HA0 7 rfl
      have oe13 := ev HA0 13 rfl
      have oe14 := ev HA0 14 rfl
      refine QSeq.pure rfl _ (fun E => ex_move rfl (E.v oe7)) ?_
      refine QSeq.pure rfl _ (fun E => ex_move rfl (E.v oe13)) ?_
      refine QSeq.go fun act E => ?_
      refine qc_makeS (n := k) rfl (wanted_none rfl) rfl Try.underlying76 info_Mg (E.d 1 0) (E.d 1 0) (by omega) (by decide) ?_
      intro u11_2 qrow hm
      have zlr := qrow.lt
      have Hx3 := hid qrow
      have zu11_2 := hm.size
      have Cx4 := hid (show Mod (fun _ => False) wl u11_2 from hm)
      clear hm
      clear act E qrow
      refine QSeq.call rfl rfl Try.func8 (SendB (p := p) (R2 := (fun k => (k = wl.heap.size))) (ms := (List.replicate k (mgk 0 0))) (l := l) (K1.out.mod Cx4.out (fun _ _ h => h)) (RdS.made (mgk_rd I64_0 I64_0 _ _) Hx3.out rfl (by rw [maxLen_val]; omega)) (by intro k h; omega) (by intro k h1 h2; omega) (fun m hm => by rw [List.eq_of_mem_replicate hm]; exact mgk_cp _ _) (by rw [List.length_replicate]; omega) (by omega) (by omega) (by omega) (by omega) (by rw [List.length_replicate]; omega)) (fun E => args2 (E.d 0 2) (E.d 2 0)) ?_
      rintro e u11_3 ⟨rfl, qnt, hm⟩
      refine ⟨_, rfl, ?_⟩
      have Hx5 := hid (qnt.widen (R' := (fun k => (New w wl k) ∨ (New u11_2 u11_3 k))) (fun _ h => h))
      have zu11_3 := hm.size
      have HMu11_3 := hid hm
      have Cx6 := hid (Mod.goS (S' := (fun k => (New w wl k))) Cx4.out hm (fun _ h => h.elim) (by intro k h0 h2; exact h2))
      clear hm Cx4
      clear qnt K1
      refine QSeq.pure rfl _ (fun E => ex_move rfl (E.v oe14)) ?_
      refine QSeq.pure rfl (.bool false) (fun E => ex_binE rfl (E.d 3 1) (E.d 4 0) (guard_ints _ _ _ _ _ _) (run_neq_i _ _ _ Try.underlying3) (congrArg Value.bool (ne_ff rfl))) ?_
      have Hx7 := hid (Hx3.out.mod HMu11_3.out (by intro h2; omega))
      clear Hx3 HMu11_3
      refine QSeq.nil (t' := [_, _, _, _, _, _]) rfl ?_
      obtain rfl := HA0.out
      clear HA0 oe7 oe13 oe14
      simp only [pz, Act.put, List.setIfInBounds_toArray, List.set_cons_zero, List.set_cons_succ]
      clear Hx7
      obtain ⟨l1, hl1⟩ : ∃ l1, l1 = l ++ (List.replicate k (mgk 0 0)).take p := ⟨_, rfl⟩
      have hl1l : l1.length = l.length + p := by rw [hl1, List.length_append, List.length_take, List.length_replicate]; omega
      have hP1 : ∀ m ∈ l1, cpMg m := by rw [hl1]; exact fun m hm => (List.mem_append.1 hm).elim (hP m) (fun h => by rw [List.eq_of_mem_replicate (List.mem_of_mem_take h)]; exact mgk_cp _ _)
      obtain ⟨s1, hs1⟩ : ∃ s1, s1 = sn + p := ⟨_, rfl⟩
      obtain ⟨o1, ho1⟩ : ∃ o1, o1 + p = lo + k := ⟨lo + k - p, by omega⟩
      have HQN := hid (show NtR (fun k => (New w wl k) ∨ (New u11_2 u11_3 k)) u11_3 x ((mo : Nat) : Int) l1 ((s1 : Nat) : Int) ((o1 : Nat) : Int) from (by have h := Hx5.out; rw [← hl1, List.length_replicate, show ((sn : Nat) : Int) + ((p : Nat) : Int) = ((s1 : Nat) : Int) by omega, show ((lo : Nat) : Int) + ((k : Nat) : Int) - ((p : Nat) : Int) = ((o1 : Nat) : Int) by omega] at h; exact h))
      clear Hx5
      clear hl1
      go_upto_region 13 with (fail)
      refine wp_region_U 128 [57, 58, 59, 60, 61, 62, 63, 64, 65, 66, 67, 9, 10, 11] [0, 1, 2, 3, 4, 5, 6, 7, 8, 9, 10, 11, 12, 13] (fun a0 HA0 => ?_)
      have oe9 := ev HA0 9 rfl
      have oe10 := ev HA0 10 rfl
      have oe11 := ev HA0 11 rfl
      have oe13 := ev HA0 13 rfl
      have oe14 := ev HA0 14 rfl
      refine QSeq.pure rfl _ (fun E => ex_move rfl (E.y 11 oe9)) ?_
      refine QSeq.pure rfl _ (fun E => ex_move rfl (E.v oe14)) ?_
      refine QSeq.pure rfl (.int .i64 ((l1.length : Nat) : Int)) (fun E => ex_binE rfl (E.d 0 1) (E.d 1 0) (guard_ints _ _ _ _ _ _) (run_add_i _ _ Try.underlying3) (congrArg (Value.int .i64) (i64_eq (b := ((l1.length : Nat) : Int)) (by omega) (by omega) (by omega)))) ?_
      refine QSeq.pure rfl _ (fun E => ex_move rfl (E.y 12 oe10)) ?_
      refine QSeq.pure rfl _ (fun E => ex_move rfl (E.v oe14)) ?_
      refine QSeq.pure rfl (.int .i64 ((s1 : Nat) : Int)) (fun E => ex_binE rfl (E.d 3 1) (E.d 4 0) (guard_ints _ _ _ _ _ _) (run_add_i _ _ Try.underlying3) (congrArg (Value.int .i64) (i64_eq (b := ((s1 : Nat) : Int)) (by omega) (by omega) (by omega)))) ?_
      refine QSeq.pure rfl _ (fun E => ex_move rfl (E.y 13 oe11)) ?_
      refine QSeq.pure rfl _ (fun E => ex_move rfl (E.v oe13)) ?_
      refine QSeq.pure rfl (.int .i64 ((lo + k : Nat) : Int)) (fun E => ex_binE rfl (E.d 6 1) (E.d 7 0) (guard_ints _ _ _ _ _ _) (run_add_i _ _ Try.underlying3) (congrArg (Value.int .i64) (i64_eq (b := ((lo + k : Nat) : Int)) (by omega) (by omega) (by omega)))) ?_
      refine QSeq.pure rfl _ (fun E => ex_move rfl (E.v oe14)) ?_
      refine QSeq.pure rfl (.int .i64 ((o1 : Nat) : Int)) (fun E => ex_binE rfl (E.d 8 1) (E.d 9 0) (guard_ints _ _ _ _ _ _) (run_sub_i _ _ Try.underlying3) (congrArg (Value.int .i64) (i64_eq (b := ((o1 : Nat) : Int)) (by omega) (by omega) (by omega)))) ?_
      refine QSeq.pure rfl _ (fun E => ex_assign rfl (E.d 2 8)) ?_
      refine QSeq.pure rfl _ (fun E => ex_assign rfl (E.d 5 6)) ?_
      refine QSeq.pure rfl _ (fun E => ex_assign rfl (E.d 10 2)) ?_
      refine QSeq.nil (t' := [_, _, _, _, _, _, _, _, _, _, _, _, _, _]) rfl ?_
      obtain rfl := HA0.out
      clear HA0 oe9 oe10 oe11 oe13 oe14
      simp only [pz, Act.put, List.setIfInBounds_toArray, List.set_cons_zero, List.set_cons_succ]
      by_cases ht : i < ts.length
      · skip
        obtain ⟨g2, o2, cs2, ea2, hrg, hrd, hcs⟩ := (K3.out.mod Cx6.out (by intro k h1 h2; omega)).at ht
        obtain ⟨rfl, -⟩ := hrd
        generalize ts[i] = b at hcs
        subst ea2
        have HAT2 := hid (show CellsAt (fun k => k < w.heap.size) u11_3 g2 (o2 + i * 1) [.bool b] from ⟨hrg, hcs⟩)
        clear hrg hcs
        cases b with
        | true =>
          go_upto_region 14 with (fail)
          refine wp_region_U 128 [68, 69, 70, 71, 72, 73, 74, 75, 76, 77] [0, 1, 2, 3, 4, 5, 6, 7, 8, 9] (fun a0 HA0 => ?_)
          have oe2 := ev HA0 2 rfl
          have oe12 := ev HA0 12 rfl
          refine QSeq.pure rfl _ (fun E => ex_move rfl (E.v oe12)) ?_
          refine QSeq.pure rfl _ (fun E => ex_move rfl (E.v oe2)) ?_
          refine QSeq.pure rfl (.int .i64 ts.length) (fun E => ex_lenS rfl (E.d 1 0) Try.underlying75) ?_
          refine QSeq.pure rfl (.bool true) (fun E => ex_binE rfl (E.d 0 2) (E.d 2 0) (guard_ints _ _ _ _ _ _) (run_lss_i _ _ _ Try.underlying3) (congrArg Value.bool (decide_eq_true (by omega)))) ?_
          refine QSeq.pure rfl _ (fun E => ex_move rfl (E.d 3 0)) ?_
          refine QSeq.pureG rfl (.slice (some ⟨g2, o2, none⟩) ts.length capt) (fun E => ((wanted_of rfl rfl (E.sz 72 (by decide)) (E.d 4 0)).trans rfl)) (fun E => ex_move rfl (E.v oe2)) ?_
          refine QSeq.pureG rfl (.int .i64 ((i : Nat) : Int)) (fun E => ((wanted_of rfl rfl (E.sz 72 (by decide)) (E.d 4 1)).trans rfl)) (fun E => ex_move rfl (E.v oe12)) ?_
          refine QSeq.pureG rfl (.pointer (some ⟨g2, o2 + i * 1, none⟩)) (fun E => ((wanted_of rfl rfl (E.sz 72 (by decide)) (E.d 4 2)).trans rfl)) (fun E => ex_idxS (i := i) (s := 1) rfl Try.underlying75 (by kernel_rfl) (E.d 5 1) (E.d 6 0) (by omega)) ?_
          refine QSeq.pureG rfl (.bool true) (fun E => ((wanted_of rfl rfl (E.sz 72 (by decide)) (E.d 4 3)).trans rfl)) (fun E => ex_load1 rfl Try.underlying4 rfl (E.d 7 0) ((HAT2.out).2 0 _ rfl)) ?_
          refine QSeq.pure rfl (.bool true) (fun E => ex_pick rfl (E.d 4 4) (E.d 8 0) rfl) ?_
          refine QSeq.nil (t' := [_, _, _, _, _, _, _, _, _, _]) rfl ?_
          obtain rfl := HA0.out
          clear HA0 oe2 oe12
          simp only [pz, Act.put, List.setIfInBounds_toArray, List.set_cons_zero, List.set_cons_succ]
          clear HAT2
          by_cases h0 : l1.length = 0
          · skip
            go_upto_region 15 with (fail)
            refine wp_region_U 128 [79, 80, 81, 82, 78, 83, 84, 15, 136, 16] [0, 1, 2, 3, 4, 5, 6, 7, 8, 9] (fun a0 HA0 => ?_)
            have oe7 := ev HA0 7 rfl
            have oe9 := ev HA0 9 rfl
            refine QSeq.pure rfl _ (fun E => ex_move rfl (E.v oe7)) ?_
            refine QSeq.pure rfl _ (fun E => ex_move rfl (E.v oe9)) ?_
            refine QSeq.pure rfl (.int .i64 (-1)) (fun E => ex_binE rfl (E.d 1 0) rfl (guard_ints _ _ _ _ _ _) (run_sub_i _ _ Try.underlying3) (congrArg (Value.int .i64) (i64_eq (b := -1) (by omega) (by omega) (by omega)))) ?_
            refine QSeq.call rfl rfl Try.func10 (TakeN (k := -1) HQN.out (by omega)) (fun E => args2 (E.d 0 2) (E.d 2 0)) ?_
            rintro e u15_3 ⟨cc, rfl, qc, hm⟩
            have HLc := hid (MgR.len qc)
            have HOc := hid (MgR.one qc)
            refine ⟨_, rfl, ?_⟩
            have Hx8 := hid qc
            have zu15_3 := hm.size
            have Cx9 := hid (show Mod (fun _ => False) u11_3 u15_3 from hm)
            clear hm
            clear qc
            refine QSeq.pure rfl _ (fun E => ex_move rfl (E.d 3 0)) ?_
            refine QSeq.pure rfl (.agg cc.toArray) (fun E => ex_extract rfl (E.d 4 0) rfl) ?_
            refine QSeq.pure rfl (.bool false) (fun E => ex_extract rfl (E.d 4 1) rfl) ?_
            refine QSeq.go fun act E => ?_
            refine qc_alloc rfl (wanted_none rfl) rfl (z := (mg0C 0 0 0)) (by kernel_rfl) ?_
            intro u15_7 qb15 hm
            have zl15_7 := qb15.lt
            have Hx10 := hid qb15
            have zu15_7 := hm.size
            have HMu15_7 := hid hm
            have Cx11 := hid (Cx9.out.goE hm)
            clear hm Cx9
            clear act E qb15
            refine QSeq.go fun act E => ?_
            have hlz : (cc).length = List.length ((mg0C 0 0 0) : List Value) := (by rw [HLc.out]; kernel_rfl)
            refine qc_store rfl (wanted_none rfl) rfl Hx10.out (off := 0) (vs := cc) (by rw [hlz]; kernel_rfl) HOc.out (by rw [hlz]; exact Nat.le_of_eq (Nat.zero_add _)) (E.d 7 0) (ec (E.d 5 2)) ?_
            intro u15_8 qc0 hm
            have qb15 := qc0.eqv (b := (cc : List Value).toArray) (lay_whole (((mg0C 0 0 0) : List Value).toArray) _ (by rw [hlz]; rfl))
            clear qc0 hlz
            have Hx12 := hid qb15
            have zu15_8 := hm.size
            have HMu15_8 := hid hm
            have Cx13 := hid (Mod.goS (S' := (fun _ => False)) Cx11.out hm (fun _ h => h) (by intro k h0 h2; omega))
            clear hm Cx11
            clear act E qb15 Hx10
            refine QSeq.pure rfl _ (fun E => ex_assign rfl (E.d 6 2)) ?_
            have Hx14 := hid ((Hx8.out.mod HMu15_7.out (fun _ _ h => h)).mod HMu15_8.out (by intro k h1 h2; omega))
            clear Hx8 HMu15_7 HMu15_8
            refine QSeq.nil (t' := [_, _, _, _, _, _, _, _, _, _]) rfl ?_
            obtain rfl := HA0.out
            clear HA0 oe7 oe9
            simp only [pz, Act.put, List.setIfInBounds_toArray, List.set_cons_zero, List.set_cons_succ, List.set_nil]
            clear Hx12
            clear Hx14
            go_upto_region 16 with (fail)
            refine wp_region_U 128 [85, 86, 87, 88] [0, 1, 2, 3] (fun a0 HA0 => ?_)
            have oe9 := ev HA0 9 rfl
            have oe16 := ev HA0 16 rfl
            refine QSeq.pure rfl _ (fun E => ex_move rfl (E.v oe16)) ?_
            refine QSeq.pure rfl _ (fun E => ex_move rfl (E.v oe9)) ?_
            refine QSeq.pure rfl (.bool false) (fun E => ex_binE rfl (E.d 1 0) rfl (guard_ints _ _ _ _ _ _) (run_gtr_i _ _ _ Try.underlying3) (congrArg Value.bool (decide_eq_false (by omega)))) ?_
            refine QSeq.pure rfl (.bool false) (fun E => ex_bin rfl (E.d 0 2) (E.d 2 0) (guard_bools _ _ _ _ _ _) (run_neq_bools _ _ _ Try.underlying4)) ?_
            refine QSeq.nil (t' := [_, _, _, _]) rfl ?_
            obtain rfl := HA0.out
            clear HA0 oe9 oe16
            simp only [pz, Act.put, List.setIfInBounds_toArray, List.set_cons_zero, List.set_cons_succ]
            go_upto_region 18 with (fail)
            refine wp_region_U 128 [89, 90, 91, 9] [0, 1, 2, 3] (fun a0 HA0 => ?_)
            have oe9 := ev HA0 9 rfl
            refine QSeq.pure rfl _ (fun E => ex_move rfl (E.y 3 oe9)) ?_
            refine QSeq.pure rfl (.int .i64 (-1)) (fun E => ex_binE rfl (E.d 0 0) rfl (guard_ints _ _ _ _ _ _) (run_sub_i _ _ Try.underlying3) (congrArg (Value.int .i64) (i64_eq (b := -1) (by omega) (by omega) (by omega)))) ?_
            refine QSeq.pure rfl (.int .i64 ((l1.length : Nat) : Int)) (fun E => ex_max (r := ((l1.length : Nat) : Int)) rfl (E.d 1 0) rfl (by split <;> omega)) ?_
            refine QSeq.pure rfl _ (fun E => ex_assign rfl (E.d 2 0)) ?_
            refine QSeq.nil (t' := [_, _, _, _]) rfl ?_
            obtain rfl := HA0.out
            clear HA0 oe9
            simp only [pz, Act.put, List.setIfInBounds_toArray, List.set_cons_zero, List.set_cons_succ]
            go_upto_region 23 with (fail)
            refine wp_region_U 128 [111, 112, 113, 114, 115, 116, 117, 118, 119, 120, 121, 122, 123, 124, 125, 126] [0, 1, 2, 3, 4, 5, 6, 7, 8, 9, 10, 11, 12, 13, 14, 15] (fun a0 HA0 => ?_)
            have oe7 := ev HA0 7 rfl
            have oe9 := ev HA0 9 rfl
            have oe10 := ev HA0 10 rfl
            have oe11 := ev HA0 11 rfl
            refine QSeq.pure rfl _ (fun E => ex_move rfl (E.v oe7)) ?_
            refine QSeq.go fun act E => ?_
            refine qc_callF (args := #[.pointer (some ⟨x, 0, none⟩)]) rfl (wanted_none rfl) rfl Try.func11 (args1 (E.d 0 0)) (LenB (HQN.out.mod Cx13.out (fun _ _ h => h))) ?_
            rintro e w2 ⟨rfl, hw2⟩
            obtain rfl : u15_8 = w2 := by first | exact hw2 | exact hw2.symm
            refine ⟨_, rfl, ?_⟩
            clear act E
            refine QSeq.pure rfl _ (fun E => ex_move rfl (E.v oe9)) ?_
            refine QSeq.pure rfl (.bool false) (fun E => ex_binE rfl (E.d 1 1) (E.d 2 0) (guard_ints _ _ _ _ _ _) (run_neq_i _ _ _ Try.underlying3) (congrArg Value.bool (ne_ff (by omega)))) ?_
            refine QSeq.pure rfl _ (fun E => ex_move rfl (E.d 3 0)) ?_
            refine QSeq.pureG rfl (.pointer (some ⟨x, 0, none⟩)) (fun E => ((wanted_of rfl rfl (E.sz 115 (by decide)) (E.d 4 0)).trans rfl)) (fun E => ex_move rfl (E.v oe7)) ?_
            refine QSeq.go fun act E => ?_
            refine qc_callF (args := #[.pointer (some ⟨x, 0, none⟩)]) rfl ((wanted_of rfl rfl (E.sz 115 (by decide)) (E.d 4 1)).trans rfl) rfl Try.func12 (args1 (E.d 5 0)) (SentB (HQN.out.mod Cx13.out (fun _ _ h => h))) ?_
            rintro e w2 ⟨rfl, hw2⟩
            obtain rfl : u15_8 = w2 := by first | exact hw2 | exact hw2.symm
            refine ⟨_, rfl, ?_⟩
            clear act E
            refine QSeq.pureG rfl (.int .i64 ((s1 : Nat) : Int)) (fun E => ((wanted_of rfl rfl (E.sz 115 (by decide)) (E.d 4 2)).trans rfl)) (fun E => ex_move rfl (E.v oe10)) ?_
            refine QSeq.pureG rfl (.bool false) (fun E => ((wanted_of rfl rfl (E.sz 115 (by decide)) (E.d 4 3)).trans rfl)) (fun E => ex_binE rfl (E.d 6 1) (E.d 7 0) (guard_ints _ _ _ _ _ _) (run_neq_i _ _ _ Try.underlying3) (congrArg Value.bool (ne_ff rfl))) ?_
            refine QSeq.pure rfl (.bool false) (fun E => ex_pick rfl (E.d 4 4) rfl (E.d 8 0)) ?_
            refine QSeq.pure rfl _ (fun E => ex_move rfl (E.d 9 0)) ?_
            refine QSeq.pureG rfl (.pointer (some ⟨x, 0, none⟩)) (fun E => ((wanted_of rfl rfl (E.sz 121 (by decide)) (E.d 10 0)).trans rfl)) (fun E => ex_move rfl (E.v oe7)) ?_
            refine QSeq.go fun act E => ?_
            refine qc_callF (args := #[.pointer (some ⟨x, 0, none⟩)]) rfl ((wanted_of rfl rfl (E.sz 121 (by decide)) (E.d 10 1)).trans rfl) rfl Try.func17 (args1 (E.d 11 0)) (LostB (HQN.out.mod Cx13.out (fun _ _ h => h))) ?_
            rintro e w2 ⟨rfl, hw2⟩
            obtain rfl : u15_8 = w2 := by first | exact hw2 | exact hw2.symm
            refine ⟨_, rfl, ?_⟩
            clear act E
            refine QSeq.pureG rfl (.int .i64 ((o1 : Nat) : Int)) (fun E => ((wanted_of rfl rfl (E.sz 121 (by decide)) (E.d 10 2)).trans rfl)) (fun E => ex_move rfl (E.v oe11)) ?_
            refine QSeq.pureG rfl (.bool false) (fun E => ((wanted_of rfl rfl (E.sz 121 (by decide)) (E.d 10 3)).trans rfl)) (fun E => ex_binE rfl (E.d 12 1) (E.d 13 0) (guard_ints _ _ _ _ _ _) (run_neq_i _ _ _ Try.underlying3) (congrArg Value.bool (ne_ff rfl))) ?_
            refine QSeq.pure rfl (.bool false) (fun E => ex_pick rfl (E.d 10 4) rfl (E.d 14 0)) ?_
            refine QSeq.nil (t' := [_, _, _, _, _, _, _, _, _, _, _, _, _, _, _, _]) rfl ?_
            obtain rfl := HA0.out
            clear HA0 oe7 oe9 oe10 oe11
            simp only [pz, Act.put, List.setIfInBounds_toArray, List.set_cons_zero, List.set_cons_succ]
            go_upto_region 8 with (fail)
            refine wp_region_U 128 [39, 40, 12] [0, 1, 2] (fun a0 HA0 => ?_)
            have oe12 := ev HA0 12 rfl
            refine QSeq.pure rfl _ (fun E => ex_move rfl (E.y 2 oe12)) ?_
            refine QSeq.pure rfl (.int .i64 ((i + 1 : Nat) : Int)) (fun E => ex_binE rfl (E.d 0 0) rfl (guard_ints _ _ _ _ _ _) (run_add_i _ _ Try.underlying3) (congrArg (Value.int .i64) (i64_eq (b := ((i + 1 : Nat) : Int)) (by omega) (by omega) (by omega)))) ?_
            refine QSeq.pure rfl _ (fun E => ex_assign rfl (E.d 1 0)) ?_
            refine QSeq.nil (t' := [_, _, _]) rfl ?_
            obtain rfl := HA0.out
            clear HA0 oe12
            simp only [pz, Act.put, List.setIfInBounds_toArray, List.set_cons_zero, List.set_cons_succ]
            go_wp2
            go_roundw
            case rel => exact ⟨i + 1, s1, o1, l1, (by first | rfl | go_num | ((try dsimp only); go_num)), rfl, rfl, rfl, by omega, by omega, by omega, by omega, hP1, by omega, ((HQN.out.mod Cx13.out (fun _ _ h => h)).widen (R' := fun k => New w u15_8 k) (by intro k h1; rcases h1 with h1 | h1 <;> ((try dsimp only at h1 ⊢); unfold New at *; omega))), ((K2.out.mod Cx6.out (by intro k h1 h2; omega)).mod Cx13.out (fun _ _ h => h)), ((K3.out.mod Cx6.out (by intro k h1 h2; omega)).mod Cx13.out (fun _ _ h => h)), ((K4.out.trans Cx6.out (by intro k h1 h2; omega)).trans Cx13.out (fun _ _ h => h.elim))⟩
            case measure => simp [intOf]; omega
          · obtain ⟨q, hq⟩ : ∃ q, q + 1 = l1.length := ⟨l1.length - 1, by omega⟩
            have hql : q < l1.length := by omega
            go_upto_region 15 with (fail)
            refine wp_region_U 128 [79, 80, 81, 82, 78, 83, 84, 15, 136, 16] [0, 1, 2, 3, 4, 5, 6, 7, 8, 9] (fun a0 HA0 => ?_)
            have oe7 := ev HA0 7 rfl
            have oe9 := ev HA0 9 rfl
            refine QSeq.pure rfl _ (fun E => ex_move rfl (E.v oe7)) ?_
            refine QSeq.pure rfl _ (fun E => ex_move rfl (E.v oe9)) ?_
            refine QSeq.pure rfl (.int .i64 ((q : Nat) : Int)) (fun E => ex_binE rfl (E.d 1 0) rfl (guard_ints _ _ _ _ _ _) (run_sub_i _ _ Try.underlying3) (congrArg (Value.int .i64) (i64_eq (b := ((q : Nat) : Int)) (by omega) (by omega) (by omega)))) ?_
            refine QSeq.call rfl rfl Try.func10 (TakeB (k := q) (l := l1) HQN.out hql hP1) (fun E => args2 (E.d 0 2) (E.d 2 0)) ?_
            rintro e u15_3 ⟨cc, rfl, qnt, qc, hm⟩
            have HLc := hid (MgR.len qc)
            have HOc := hid (MgR.one qc)
            have HKc := hid (mg_kd qc)
            have HXc := hid (mg_ix qc)
            refine ⟨_, rfl, ?_⟩
            have Hx15 := hid (qnt.widen (R' := (fun k => (New w wl k) ∨ (New u11_2 u11_3 k) ∨ (New u11_3 u15_3 k))) (by intro k h1; omega))
            have Hx16 := hid qc
            have zu15_3 := hm.size
            have Cx17 := hid (show Mod (fun k => (New w wl k) ∨ (New u11_2 u11_3 k)) u11_3 u15_3 from hm)
            clear hm
            clear qnt qc HQN
            refine QSeq.pure rfl _ (fun E => ex_move rfl (E.d 3 0)) ?_
            refine QSeq.pure rfl (.agg cc.toArray) (fun E => ex_extract rfl (E.d 4 0) rfl) ?_
            refine QSeq.pure rfl (.bool true) (fun E => ex_extract rfl (E.d 4 1) rfl) ?_
            refine QSeq.go fun act E => ?_
            refine qc_alloc rfl (wanted_none rfl) rfl (z := (mg0C 0 0 0)) (by kernel_rfl) ?_
            intro u15_7 qb15 hm
            have zl15_7 := qb15.lt
            have Hx18 := hid qb15
            have zu15_7 := hm.size
            have HMu15_7 := hid hm
            have Cx19 := hid (Cx17.out.goE hm)
            clear hm Cx17
            clear act E qb15
            refine QSeq.go fun act E => ?_
            have hlz : (cc).length = List.length ((mg0C 0 0 0) : List Value) := (by rw [HLc.out]; kernel_rfl)
            refine qc_store rfl (wanted_none rfl) rfl Hx18.out (off := 0) (vs := cc) (by rw [hlz]; kernel_rfl) HOc.out (by rw [hlz]; exact Nat.le_of_eq (Nat.zero_add _)) (E.d 7 0) (ec (E.d 5 2)) ?_
            intro u15_8 qc0 hm
            have qb15 := qc0.eqv (b := (cc : List Value).toArray) (lay_whole (((mg0C 0 0 0) : List Value).toArray) _ (by rw [hlz]; rfl))
            clear qc0 hlz
            have Hx20 := hid qb15
            have zu15_8 := hm.size
            have HMu15_8 := hid hm
            have Cx21 := hid (Mod.goS (S' := (fun k => (New w wl k) ∨ (New u11_2 u11_3 k))) Cx19.out hm (fun _ h => h) (by intro k h0 h2; omega))
            clear hm Cx19
            clear act E qb15 Hx18
            refine QSeq.pure rfl _ (fun E => ex_assign rfl (E.d 6 2)) ?_
            have Hx22 := hid ((Hx15.out.mod HMu15_7.out (fun _ _ h => h)).mod HMu15_8.out (by intro k h1 h2; omega))
            have Hx23 := hid ((Hx16.out.mod HMu15_7.out (fun _ _ h => h)).mod HMu15_8.out (by intro k h1 h2; omega))
            clear Hx15 Hx16 HMu15_7 HMu15_8
            refine QSeq.nil (t' := [_, _, _, _, _, _, _, _, _, _]) rfl ?_
            obtain rfl := HA0.out
            clear HA0 oe7 oe9
            simp only [pz, Act.put, List.setIfInBounds_toArray, List.set_cons_zero, List.set_cons_succ, List.set_nil]
            clear Hx20
            clear Hx23
            have hle : (l1.eraseIdx q).length = q := by rw [List.length_eraseIdx, if_pos hql]; omega
            go_upto_region 16 with (fail)
            refine wp_region_U 128 [85, 86, 87, 88] [0, 1, 2, 3] (fun a0 HA0 => ?_)
            have oe9 := ev HA0 9 rfl
            have oe16 := ev HA0 16 rfl
            refine QSeq.pure rfl _ (fun E => ex_move rfl (E.v oe16)) ?_
            refine QSeq.pure rfl _ (fun E => ex_move rfl (E.v oe9)) ?_
            refine QSeq.pure rfl (.bool true) (fun E => ex_binE rfl (E.d 1 0) rfl (guard_ints _ _ _ _ _ _) (run_gtr_i _ _ _ Try.underlying3) (congrArg Value.bool (decide_eq_true (by omega)))) ?_
            refine QSeq.pure rfl (.bool false) (fun E => ex_bin rfl (E.d 0 2) (E.d 2 0) (guard_bools _ _ _ _ _ _) (run_neq_bools _ _ _ Try.underlying4)) ?_
            refine QSeq.nil (t' := [_, _, _, _]) rfl ?_
            obtain rfl := HA0.out
            clear HA0 oe9 oe16
            simp only [pz, Act.put, List.setIfInBounds_toArray, List.set_cons_zero, List.set_cons_succ]
            go_upto_region 18 with (fail)
            refine wp_region_U 128 [89, 90, 91, 9] [0, 1, 2, 3] (fun a0 HA0 => ?_)
            have oe9 := ev HA0 9 rfl
            refine QSeq.pure rfl _ (fun E => ex_move rfl (E.y 3 oe9)) ?_
            refine QSeq.pure rfl (.int .i64 ((q : Nat) : Int)) (fun E => ex_binE rfl (E.d 0 0) rfl (guard_ints _ _ _ _ _ _) (run_sub_i _ _ Try.underlying3) (congrArg (Value.int .i64) (i64_eq (b := ((q : Nat) : Int)) (by omega) (by omega) (by omega)))) ?_
            refine QSeq.pure rfl (.int .i64 (((l1.eraseIdx q).length : Nat) : Int)) (fun E => ex_max (r := (((l1.eraseIdx q).length : Nat) : Int)) rfl (E.d 1 0) rfl (by split <;> omega)) ?_
            refine QSeq.pure rfl _ (fun E => ex_assign rfl (E.d 2 0)) ?_
            refine QSeq.nil (t' := [_, _, _, _]) rfl ?_
            obtain rfl := HA0.out
            clear HA0 oe9
            simp only [pz, Act.put, List.setIfInBounds_toArray, List.set_cons_zero, List.set_cons_succ]
            go_upto_region 23 with (fail)
            refine wp_region_U 128 [111, 112, 113, 114, 115, 116, 117, 118, 119, 120, 121, 122, 123, 124, 125, 126] [0, 1, 2, 3, 4, 5, 6, 7, 8, 9, 10, 11, 12, 13, 14, 15] (fun a0 HA0 => ?_)
            have oe7 := ev HA0 7 rfl
            have oe9 := ev HA0 9 rfl
            have oe10 := ev HA0 10 rfl
            have oe11 := ev HA0 11 rfl
            refine QSeq.pure rfl _ (fun E => ex_move rfl (E.v oe7)) ?_
            refine QSeq.go fun act E => ?_
            refine qc_callF (args := #[.pointer (some ⟨x, 0, none⟩)]) rfl (wanted_none rfl) rfl Try.func11 (args1 (E.d 0 0)) (LenB Hx22.out) ?_
            rintro e w2 ⟨rfl, hw2⟩
            obtain rfl : u15_8 = w2 := by first | exact hw2 | exact hw2.symm
            refine ⟨_, rfl, ?_⟩
            clear act E
            refine QSeq.pure rfl _ (fun E => ex_move rfl (E.v oe9)) ?_
            refine QSeq.pure rfl (.bool false) (fun E => ex_binE rfl (E.d 1 1) (E.d 2 0) (guard_ints _ _ _ _ _ _) (run_neq_i _ _ _ Try.underlying3) (congrArg Value.bool (ne_ff (by omega)))) ?_
            refine QSeq.pure rfl _ (fun E => ex_move rfl (E.d 3 0)) ?_
            refine QSeq.pureG rfl (.pointer (some ⟨x, 0, none⟩)) (fun E => ((wanted_of rfl rfl (E.sz 115 (by decide)) (E.d 4 0)).trans rfl)) (fun E => ex_move rfl (E.v oe7)) ?_
            refine QSeq.go fun act E => ?_
            refine qc_callF (args := #[.pointer (some ⟨x, 0, none⟩)]) rfl ((wanted_of rfl rfl (E.sz 115 (by decide)) (E.d 4 1)).trans rfl) rfl Try.func12 (args1 (E.d 5 0)) (SentB Hx22.out) ?_
            rintro e w2 ⟨rfl, hw2⟩
            obtain rfl : u15_8 = w2 := by first | exact hw2 | exact hw2.symm
            refine ⟨_, rfl, ?_⟩
            clear act E
            refine QSeq.pureG rfl (.int .i64 ((s1 : Nat) : Int)) (fun E => ((wanted_of rfl rfl (E.sz 115 (by decide)) (E.d 4 2)).trans rfl)) (fun E => ex_move rfl (E.v oe10)) ?_
            refine QSeq.pureG rfl (.bool false) (fun E => ((wanted_of rfl rfl (E.sz 115 (by decide)) (E.d 4 3)).trans rfl)) (fun E => ex_binE rfl (E.d 6 1) (E.d 7 0) (guard_ints _ _ _ _ _ _) (run_neq_i _ _ _ Try.underlying3) (congrArg Value.bool (ne_ff rfl))) ?_
            refine QSeq.pure rfl (.bool false) (fun E => ex_pick rfl (E.d 4 4) rfl (E.d 8 0)) ?_
            refine QSeq.pure rfl _ (fun E => ex_move rfl (E.d 9 0)) ?_
            refine QSeq.pureG rfl (.pointer (some ⟨x, 0, none⟩)) (fun E => ((wanted_of rfl rfl (E.sz 121 (by decide)) (E.d 10 0)).trans rfl)) (fun E => ex_move rfl (E.v oe7)) ?_
            refine QSeq.go fun act E => ?_
            refine qc_callF (args := #[.pointer (some ⟨x, 0, none⟩)]) rfl ((wanted_of rfl rfl (E.sz 121 (by decide)) (E.d 10 1)).trans rfl) rfl Try.func17 (args1 (E.d 11 0)) (LostB Hx22.out) ?_
            rintro e w2 ⟨rfl, hw2⟩
            obtain rfl : u15_8 = w2 := by first | exact hw2 | exact hw2.symm
            refine ⟨_, rfl, ?_⟩
            clear act E
            refine QSeq.pureG rfl (.int .i64 ((o1 : Nat) : Int)) (fun E => ((wanted_of rfl rfl (E.sz 121 (by decide)) (E.d 10 2)).trans rfl)) (fun E => ex_move rfl (E.v oe11)) ?_
            refine QSeq.pureG rfl (.bool false) (fun E => ((wanted_of rfl rfl (E.sz 121 (by decide)) (E.d 10 3)).trans rfl)) (fun E => ex_binE rfl (E.d 12 1) (E.d 13 0) (guard_ints _ _ _ _ _ _) (run_neq_i _ _ _ Try.underlying3) (congrArg Value.bool (ne_ff rfl))) ?_
            refine QSeq.pure rfl (.bool false) (fun E => ex_pick rfl (E.d 10 4) rfl (E.d 14 0)) ?_
            refine QSeq.nil (t' := [_, _, _, _, _, _, _, _, _, _, _, _, _, _, _, _]) rfl ?_
            obtain rfl := HA0.out
            clear HA0 oe7 oe9 oe10 oe11
            simp only [pz, Act.put, List.setIfInBounds_toArray, List.set_cons_zero, List.set_cons_succ]
            go_upto_region 8 with (fail)
            refine wp_region_U 128 [39, 40, 12] [0, 1, 2] (fun a0 HA0 => ?_)
            have oe12 := ev HA0 12 rfl
            refine QSeq.pure rfl _ (fun E => ex_move rfl (E.y 2 oe12)) ?_
            refine QSeq.pure rfl (.int .i64 ((i + 1 : Nat) : Int)) (fun E => ex_binE rfl (E.d 0 0) rfl (guard_ints _ _ _ _ _ _) (run_add_i _ _ Try.underlying3) (congrArg (Value.int .i64) (i64_eq (b := ((i + 1 : Nat) : Int)) (by omega) (by omega) (by omega)))) ?_
            refine QSeq.pure rfl _ (fun E => ex_assign rfl (E.d 1 0)) ?_
            refine QSeq.nil (t' := [_, _, _]) rfl ?_
            obtain rfl := HA0.out
            clear HA0 oe12
            simp only [pz, Act.put, List.setIfInBounds_toArray, List.set_cons_zero, List.set_cons_succ]
            go_wp2
            go_roundw
            case rel => exact ⟨i + 1, s1, o1, (l1.eraseIdx q), (by first | rfl | go_num | ((try dsimp only); go_num)), rfl, rfl, rfl, by omega, by omega, by omega, by omega, cp_erase hP1 q, by omega, (Hx22.out.widen (R' := fun k => New w u15_8 k) (by intro k h1; rcases h1 with h1 | h1 <;> ((try dsimp only at h1 ⊢); unfold New at *; omega))), ((K2.out.mod Cx6.out (by intro k h1 h2; omega)).mod Cx21.out (by intro k h1 h2; omega)), ((K3.out.mod Cx6.out (by intro k h1 h2; omega)).mod Cx21.out (by intro k h1 h2; omega)), ((K4.out.trans Cx6.out (by intro k h1 h2; omega)).trans Cx21.out (by intro k h1 h2; omega))⟩
            case measure => simp [intOf]; omega
        | false =>
          go_upto_region 14 with (fail)
          refine wp_region_U 128 [68, 69, 70, 71, 72, 73, 74, 75, 76, 77] [0, 1, 2, 3, 4, 5, 6, 7, 8, 9] (fun a0 HA0 => ?_)
          have oe2 := ev HA0 2 rfl
          have oe12 := ev HA0 12 rfl
          refine QSeq.pure rfl _ (fun E => ex_move rfl (E.v oe12)) ?_
          refine QSeq.pure rfl _ (fun E => ex_move rfl (E.v oe2)) ?_
          refine QSeq.pure rfl (.int .i64 ts.length) (fun E => ex_lenS rfl (E.d 1 0) Try.underlying75) ?_
          refine QSeq.pure rfl (.bool true) (fun E => ex_binE rfl (E.d 0 2) (E.d 2 0) (guard_ints _ _ _ _ _ _) (run_lss_i _ _ _ Try.underlying3) (congrArg Value.bool (decide_eq_true (by omega)))) ?_
          refine QSeq.pure rfl _ (fun E => ex_move rfl (E.d 3 0)) ?_
          refine QSeq.pureG rfl (.slice (some ⟨g2, o2, none⟩) ts.length capt) (fun E => ((wanted_of rfl rfl (E.sz 72 (by decide)) (E.d 4 0)).trans rfl)) (fun E => ex_move rfl (E.v oe2)) ?_
          refine QSeq.pureG rfl (.int .i64 ((i : Nat) : Int)) (fun E => ((wanted_of rfl rfl (E.sz 72 (by decide)) (E.d 4 1)).trans rfl)) (fun E => ex_move rfl (E.v oe12)) ?_
          refine QSeq.pureG rfl (.pointer (some ⟨g2, o2 + i * 1, none⟩)) (fun E => ((wanted_of rfl rfl (E.sz 72 (by decide)) (E.d 4 2)).trans rfl)) (fun E => ex_idxS (i := i) (s := 1) rfl Try.underlying75 (by kernel_rfl) (E.d 5 1) (E.d 6 0) (by omega)) ?_
          refine QSeq.pureG rfl (.bool false) (fun E => ((wanted_of rfl rfl (E.sz 72 (by decide)) (E.d 4 3)).trans rfl)) (fun E => ex_load1 rfl Try.underlying4 rfl (E.d 7 0) ((HAT2.out).2 0 _ rfl)) ?_
          refine QSeq.pure rfl (.bool false) (fun E => ex_pick rfl (E.d 4 4) (E.d 8 0) rfl) ?_
          refine QSeq.nil (t' := [_, _, _, _, _, _, _, _, _, _]) rfl ?_
          obtain rfl := HA0.out
          clear HA0 oe2 oe12
          simp only [pz, Act.put, List.setIfInBounds_toArray, List.set_cons_zero, List.set_cons_succ]
          clear HAT2
          by_cases h0 : l1.length = 0
          · skip
            go_upto_region 19 with (fail)
            refine wp_region_U 128 [92, 93, 94, 95, 96, 97, 98, 99, 100, 101] [0, 1, 2, 3, 4, 5, 6, 7, 8, 9] (fun a0 HA0 => ?_)
            have oe7 := ev HA0 7 rfl
            have oe9 := ev HA0 9 rfl
            refine QSeq.pure rfl _ (fun E => ex_move rfl (E.v oe7)) ?_
            refine QSeq.call rfl rfl Try.func16 (DoubN (k := 0) HQN.out (by omega)) (fun E => args2 (E.d 0 0) rfl) ?_
            rintro e u19_1 ⟨rfl, hm⟩
            refine ⟨_, rfl, ?_⟩
            have zu19_1 := hm.size
            have Cx24 := hid (show Mod (fun _ => False) u11_3 u19_1 from hm)
            clear hm
            refine QSeq.pure rfl _ (fun E => ex_move rfl (E.v oe9)) ?_
            refine QSeq.pure rfl (.bool false) (fun E => ex_binE rfl (E.d 2 0) rfl (guard_ints _ _ _ _ _ _) (run_gtr_i _ _ _ Try.underlying3) (congrArg Value.bool (decide_eq_false (by omega)))) ?_
            refine QSeq.pure rfl _ (fun E => ex_move rfl (E.d 3 0)) ?_
            refine QSeq.skip rfl (fun E => ((wanted_of rfl rfl (E.sz 96 (by decide)) (E.d 4 0)).trans rfl)) ?_
            refine QSeq.skip rfl (fun E => ((wanted_of rfl rfl (E.sz 96 (by decide)) (E.d 4 1)).trans rfl)) ?_
            refine QSeq.skip rfl (fun E => ((wanted_of rfl rfl (E.sz 96 (by decide)) (E.d 4 2)).trans rfl)) ?_
            refine QSeq.pure rfl (.bool false) (fun E => ex_pick rfl (E.d 4 3) (E.d 7 0) rfl) ?_
            refine QSeq.pure rfl (.bool false) (fun E => ex_bin rfl (E.d 1 7) (E.d 8 0) (guard_bools _ _ _ _ _ _) (run_neq_bools _ _ _ Try.underlying4)) ?_
            refine QSeq.nil (t' := [_, _, _, _, _, _, _, _, _, _]) rfl ?_
            obtain rfl := HA0.out
            clear HA0 oe7 oe9
            simp only [pz, Act.put, List.setIfInBounds_toArray, List.set_cons_zero, List.set_cons_succ]
            go_upto_region 21 with (fail)
            refine wp_region_U 128 [102, 103, 104, 105, 106, 107, 108] [0, 1, 2, 3, 4, 5, 6] (fun a0 HA0 => ?_)
            have oe9 := ev HA0 9 rfl
            refine QSeq.pure rfl _ (fun E => ex_move rfl (E.v oe9)) ?_
            refine QSeq.pure rfl (.bool false) (fun E => ex_binE rfl (E.d 0 0) rfl (guard_ints _ _ _ _ _ _) (run_gtr_i _ _ _ Try.underlying3) (congrArg Value.bool (decide_eq_false (by omega)))) ?_
            refine QSeq.pure rfl _ (fun E => ex_move rfl (E.d 1 0)) ?_
            refine QSeq.skip rfl (fun E => ((wanted_of rfl rfl (E.sz 104 (by decide)) (E.d 2 0)).trans rfl)) ?_
            refine QSeq.skip rfl (fun E => ((wanted_of rfl rfl (E.sz 104 (by decide)) (E.d 2 1)).trans rfl)) ?_
            refine QSeq.skip rfl (fun E => ((wanted_of rfl rfl (E.sz 104 (by decide)) (E.d 2 2)).trans rfl)) ?_
            refine QSeq.pure rfl (.bool false) (fun E => ex_pick rfl (E.d 2 3) (E.d 5 0) rfl) ?_
            refine QSeq.nil (t' := [_, _, _, _, _, _, _]) rfl ?_
            obtain rfl := HA0.out
            clear HA0 oe9
            simp only [pz, Act.put, List.setIfInBounds_toArray, List.set_cons_zero, List.set_cons_succ]
            go_upto_region 23 with (fail)
            refine wp_region_U 128 [111, 112, 113, 114, 115, 116, 117, 118, 119, 120, 121, 122, 123, 124, 125, 126] [0, 1, 2, 3, 4, 5, 6, 7, 8, 9, 10, 11, 12, 13, 14, 15] (fun a0 HA0 => ?_)
            have oe7 := ev HA0 7 rfl
            have oe9 := ev HA0 9 rfl
            have oe10 := ev HA0 10 rfl
            have oe11 := ev HA0 11 rfl
            refine QSeq.pure rfl _ (fun E => ex_move rfl (E.v oe7)) ?_
            refine QSeq.go fun act E => ?_
            refine qc_callF (args := #[.pointer (some ⟨x, 0, none⟩)]) rfl (wanted_none rfl) rfl Try.func11 (args1 (E.d 0 0)) (LenB (HQN.out.mod Cx24.out (fun _ _ h => h))) ?_
            rintro e w2 ⟨rfl, hw2⟩
            obtain rfl : u19_1 = w2 := by first | exact hw2 | exact hw2.symm
            refine ⟨_, rfl, ?_⟩
            clear act E
            refine QSeq.pure rfl _ (fun E => ex_move rfl (E.v oe9)) ?_
            refine QSeq.pure rfl (.bool false) (fun E => ex_binE rfl (E.d 1 1) (E.d 2 0) (guard_ints _ _ _ _ _ _) (run_neq_i _ _ _ Try.underlying3) (congrArg Value.bool (ne_ff (by omega)))) ?_
            refine QSeq.pure rfl _ (fun E => ex_move rfl (E.d 3 0)) ?_
            refine QSeq.pureG rfl (.pointer (some ⟨x, 0, none⟩)) (fun E => ((wanted_of rfl rfl (E.sz 115 (by decide)) (E.d 4 0)).trans rfl)) (fun E => ex_move rfl (E.v oe7)) ?_
            refine QSeq.go fun act E => ?_
            refine qc_callF (args := #[.pointer (some ⟨x, 0, none⟩)]) rfl ((wanted_of rfl rfl (E.sz 115 (by decide)) (E.d 4 1)).trans rfl) rfl Try.func12 (args1 (E.d 5 0)) (SentB (HQN.out.mod Cx24.out (fun _ _ h => h))) ?_
            rintro e w2 ⟨rfl, hw2⟩
            obtain rfl : u19_1 = w2 := by first | exact hw2 | exact hw2.symm
            refine ⟨_, rfl, ?_⟩
            clear act E
            refine QSeq.pureG rfl (.int .i64 ((s1 : Nat) : Int)) (fun E => ((wanted_of rfl rfl (E.sz 115 (by decide)) (E.d 4 2)).trans rfl)) (fun E => ex_move rfl (E.v oe10)) ?_
            refine QSeq.pureG rfl (.bool false) (fun E => ((wanted_of rfl rfl (E.sz 115 (by decide)) (E.d 4 3)).trans rfl)) (fun E => ex_binE rfl (E.d 6 1) (E.d 7 0) (guard_ints _ _ _ _ _ _) (run_neq_i _ _ _ Try.underlying3) (congrArg Value.bool (ne_ff rfl))) ?_
            refine QSeq.pure rfl (.bool false) (fun E => ex_pick rfl (E.d 4 4) rfl (E.d 8 0)) ?_
            refine QSeq.pure rfl _ (fun E => ex_move rfl (E.d 9 0)) ?_
            refine QSeq.pureG rfl (.pointer (some ⟨x, 0, none⟩)) (fun E => ((wanted_of rfl rfl (E.sz 121 (by decide)) (E.d 10 0)).trans rfl)) (fun E => ex_move rfl (E.v oe7)) ?_
            refine QSeq.go fun act E => ?_
            refine qc_callF (args := #[.pointer (some ⟨x, 0, none⟩)]) rfl ((wanted_of rfl rfl (E.sz 121 (by decide)) (E.d 10 1)).trans rfl) rfl Try.func17 (args1 (E.d 11 0)) (LostB (HQN.out.mod Cx24.out (fun _ _ h => h))) ?_
            rintro e w2 ⟨rfl, hw2⟩
            obtain rfl : u19_1 = w2 := by first | exact hw2 | exact hw2.symm
            refine ⟨_, rfl, ?_⟩
            clear act E
            refine QSeq.pureG rfl (.int .i64 ((o1 : Nat) : Int)) (fun E => ((wanted_of rfl rfl (E.sz 121 (by decide)) (E.d 10 2)).trans rfl)) (fun E => ex_move rfl (E.v oe11)) ?_
            refine QSeq.pureG rfl (.bool false) (fun E => ((wanted_of rfl rfl (E.sz 121 (by decide)) (E.d 10 3)).trans rfl)) (fun E => ex_binE rfl (E.d 12 1) (E.d 13 0) (guard_ints _ _ _ _ _ _) (run_neq_i _ _ _ Try.underlying3) (congrArg Value.bool (ne_ff rfl))) ?_
            refine QSeq.pure rfl (.bool false) (fun E => ex_pick rfl (E.d 10 4) rfl (E.d 14 0)) ?_
            refine QSeq.nil (t' := [_, _, _, _, _, _, _, _, _, _, _, _, _, _, _, _]) rfl ?_
            obtain rfl := HA0.out
            clear HA0 oe7 oe9 oe10 oe11
            simp only [pz, Act.put, List.setIfInBounds_toArray, List.set_cons_zero, List.set_cons_succ]
            go_upto_region 8 with (fail)
            refine wp_region_U 128 [39, 40, 12] [0, 1, 2] (fun a0 HA0 => ?_)
            have oe12 := ev HA0 12 rfl
            refine QSeq.pure rfl _ (fun E => ex_move rfl (E.y 2 oe12)) ?_
            refine QSeq.pure rfl (.int .i64 ((i + 1 : Nat) : Int)) (fun E => ex_binE rfl (E.d 0 0) rfl (guard_ints _ _ _ _ _ _) (run_add_i _ _ Try.underlying3) (congrArg (Value.int .i64) (i64_eq (b := ((i + 1 : Nat) : Int)) (by omega) (by omega) (by omega)))) ?_
            refine QSeq.pure rfl _ (fun E => ex_assign rfl (E.d 1 0)) ?_
            refine QSeq.nil (t' := [_, _, _]) rfl ?_
            obtain rfl := HA0.out
            clear HA0 oe12
            simp only [pz, Act.put, List.setIfInBounds_toArray, List.set_cons_zero, List.set_cons_succ]
            go_wp2
            go_roundw
            case rel => exact ⟨i + 1, s1, o1, l1, (by first | rfl | go_num | ((try dsimp only); go_num)), rfl, rfl, rfl, by omega, by omega, by omega, by omega, hP1, by omega, ((HQN.out.mod Cx24.out (fun _ _ h => h)).widen (R' := fun k => New w u19_1 k) (by intro k h1; rcases h1 with h1 | h1 <;> ((try dsimp only at h1 ⊢); unfold New at *; omega))), ((K2.out.mod Cx6.out (by intro k h1 h2; omega)).mod Cx24.out (fun _ _ h => h)), ((K3.out.mod Cx6.out (by intro k h1 h2; omega)).mod Cx24.out (fun _ _ h => h)), ((K4.out.trans Cx6.out (by intro k h1 h2; omega)).trans Cx24.out (fun _ _ h => h.elim))⟩
            case measure => simp [intOf]; omega
          · skip
            by_cases h9 : l1.length = mo
            · skip
              go_upto_region 19 with (fail)
              refine wp_region_U 128 [92, 93, 94, 95, 96, 97, 98, 99, 100, 101] [0, 1, 2, 3, 4, 5, 6, 7, 8, 9] (fun a0 HA0 => ?_)
              have oe0 := ev HA0 0 rfl
              have oe7 := ev HA0 7 rfl
              have oe9 := ev HA0 9 rfl
              refine QSeq.pure rfl _ (fun E => ex_move rfl (E.v oe7)) ?_
              refine QSeq.call rfl rfl Try.func16 (DoubF (k := 0) HQN.out (by omega)) (fun E => args2 (E.d 0 0) rfl) ?_
              rintro e u19_1 ⟨rfl, hm⟩
              refine ⟨_, rfl, ?_⟩
              have zu19_1 := hm.size
              have Cx25 := hid (show Mod (fun _ => False) u11_3 u19_1 from hm)
              clear hm
              refine QSeq.pure rfl _ (fun E => ex_move rfl (E.v oe9)) ?_
              refine QSeq.pure rfl (.bool true) (fun E => ex_binE rfl (E.d 2 0) rfl (guard_ints _ _ _ _ _ _) (run_gtr_i _ _ _ Try.underlying3) (congrArg Value.bool (decide_eq_true (by omega)))) ?_
              refine QSeq.pure rfl _ (fun E => ex_move rfl (E.d 3 0)) ?_
              refine QSeq.pureG rfl (.int .i64 ((l1.length : Nat) : Int)) (fun E => ((wanted_of rfl rfl (E.sz 96 (by decide)) (E.d 4 0)).trans rfl)) (fun E => ex_move rfl (E.v oe9)) ?_
              refine QSeq.pureG rfl (.int .i64 ((mo : Nat) : Int)) (fun E => ((wanted_of rfl rfl (E.sz 96 (by decide)) (E.d 4 1)).trans rfl)) (fun E => ex_move rfl (E.v oe0)) ?_
              refine QSeq.pureG rfl (.bool false) (fun E => ((wanted_of rfl rfl (E.sz 96 (by decide)) (E.d 4 2)).trans rfl)) (fun E => ex_binE rfl (E.d 5 1) (E.d 6 0) (guard_ints _ _ _ _ _ _) (run_lss_i _ _ _ Try.underlying3) (congrArg Value.bool (decide_eq_false (by omega)))) ?_
              refine QSeq.pure rfl (.bool false) (fun E => ex_pick rfl (E.d 4 3) (E.d 7 0) rfl) ?_
              refine QSeq.pure rfl (.bool false) (fun E => ex_bin rfl (E.d 1 7) (E.d 8 0) (guard_bools _ _ _ _ _ _) (run_neq_bools _ _ _ Try.underlying4)) ?_
              refine QSeq.nil (t' := [_, _, _, _, _, _, _, _, _, _]) rfl ?_
              obtain rfl := HA0.out
              clear HA0 oe0 oe7 oe9
              simp only [pz, Act.put, List.setIfInBounds_toArray, List.set_cons_zero, List.set_cons_succ]
              go_upto_region 21 with (fail)
              refine wp_region_U 128 [102, 103, 104, 105, 106, 107, 108] [0, 1, 2, 3, 4, 5, 6] (fun a0 HA0 => ?_)
              have oe0 := ev HA0 0 rfl
              have oe9 := ev HA0 9 rfl
              refine QSeq.pure rfl _ (fun E => ex_move rfl (E.v oe9)) ?_
              refine QSeq.pure rfl (.bool true) (fun E => ex_binE rfl (E.d 0 0) rfl (guard_ints _ _ _ _ _ _) (run_gtr_i _ _ _ Try.underlying3) (congrArg Value.bool (decide_eq_true (by omega)))) ?_
              refine QSeq.pure rfl _ (fun E => ex_move rfl (E.d 1 0)) ?_
              refine QSeq.pureG rfl (.int .i64 ((l1.length : Nat) : Int)) (fun E => ((wanted_of rfl rfl (E.sz 104 (by decide)) (E.d 2 0)).trans rfl)) (fun E => ex_move rfl (E.v oe9)) ?_
              refine QSeq.pureG rfl (.int .i64 ((mo : Nat) : Int)) (fun E => ((wanted_of rfl rfl (E.sz 104 (by decide)) (E.d 2 1)).trans rfl)) (fun E => ex_move rfl (E.v oe0)) ?_
              refine QSeq.pureG rfl (.bool false) (fun E => ((wanted_of rfl rfl (E.sz 104 (by decide)) (E.d 2 2)).trans rfl)) (fun E => ex_binE rfl (E.d 3 1) (E.d 4 0) (guard_ints _ _ _ _ _ _) (run_lss_i _ _ _ Try.underlying3) (congrArg Value.bool (decide_eq_false (by omega)))) ?_
              refine QSeq.pure rfl (.bool false) (fun E => ex_pick rfl (E.d 2 3) (E.d 5 0) rfl) ?_
              refine QSeq.nil (t' := [_, _, _, _, _, _, _]) rfl ?_
              obtain rfl := HA0.out
              clear HA0 oe0 oe9
              simp only [pz, Act.put, List.setIfInBounds_toArray, List.set_cons_zero, List.set_cons_succ]
              go_upto_region 23 with (fail)
              refine wp_region_U 128 [111, 112, 113, 114, 115, 116, 117, 118, 119, 120, 121, 122, 123, 124, 125, 126] [0, 1, 2, 3, 4, 5, 6, 7, 8, 9, 10, 11, 12, 13, 14, 15] (fun a0 HA0 => ?_)
              have oe7 := ev HA0 7 rfl
              have oe9 := ev HA0 9 rfl
              have oe10 := ev HA0 10 rfl
              have oe11 := ev HA0 11 rfl
              refine QSeq.pure rfl _ (fun E => ex_move rfl (E.v oe7)) ?_
              refine QSeq.go fun act E => ?_
              refine qc_callF (args := #[.pointer (some ⟨x, 0, none⟩)]) rfl (wanted_none rfl) rfl Try.func11 (args1 (E.d 0 0)) (LenB (HQN.out.mod Cx25.out (fun _ _ h => h))) ?_
              rintro e w2 ⟨rfl, hw2⟩
              obtain rfl : u19_1 = w2 := by first | exact hw2 | exact hw2.symm
              refine ⟨_, rfl, ?_⟩
              clear act E
              refine QSeq.pure rfl _ (fun E => ex_move rfl (E.v oe9)) ?_
              refine QSeq.pure rfl (.bool false) (fun E => ex_binE rfl (E.d 1 1) (E.d 2 0) (guard_ints _ _ _ _ _ _) (run_neq_i _ _ _ Try.underlying3) (congrArg Value.bool (ne_ff (by omega)))) ?_
              refine QSeq.pure rfl _ (fun E => ex_move rfl (E.d 3 0)) ?_
              refine QSeq.pureG rfl (.pointer (some ⟨x, 0, none⟩)) (fun E => ((wanted_of rfl rfl (E.sz 115 (by decide)) (E.d 4 0)).trans rfl)) (fun E => ex_move rfl (E.v oe7)) ?_
              refine QSeq.go fun act E => ?_
              refine qc_callF (args := #[.pointer (some ⟨x, 0, none⟩)]) rfl ((wanted_of rfl rfl (E.sz 115 (by decide)) (E.d 4 1)).trans rfl) rfl Try.func12 (args1 (E.d 5 0)) (SentB (HQN.out.mod Cx25.out (fun _ _ h => h))) ?_
              rintro e w2 ⟨rfl, hw2⟩
              obtain rfl : u19_1 = w2 := by first | exact hw2 | exact hw2.symm
              refine ⟨_, rfl, ?_⟩
              clear act E
              refine QSeq.pureG rfl (.int .i64 ((s1 : Nat) : Int)) (fun E => ((wanted_of rfl rfl (E.sz 115 (by decide)) (E.d 4 2)).trans rfl)) (fun E => ex_move rfl (E.v oe10)) ?_
              refine QSeq.pureG rfl (.bool false) (fun E => ((wanted_of rfl rfl (E.sz 115 (by decide)) (E.d 4 3)).trans rfl)) (fun E => ex_binE rfl (E.d 6 1) (E.d 7 0) (guard_ints _ _ _ _ _ _) (run_neq_i _ _ _ Try.underlying3) (congrArg Value.bool (ne_ff rfl))) ?_
              refine QSeq.pure rfl (.bool false) (fun E => ex_pick rfl (E.d 4 4) rfl (E.d 8 0)) ?_
              refine QSeq.pure rfl _ (fun E => ex_move rfl (E.d 9 0)) ?_
              refine QSeq.pureG rfl (.pointer (some ⟨x, 0, none⟩)) (fun E => ((wanted_of rfl rfl (E.sz 121 (by decide)) (E.d 10 0)).trans rfl)) (fun E => ex_move rfl (E.v oe7)) ?_
              refine QSeq.go fun act E => ?_
              refine qc_callF (args := #[.pointer (some ⟨x, 0, none⟩)]) rfl ((wanted_of rfl rfl (E.sz 121 (by decide)) (E.d 10 1)).trans rfl) rfl Try.func17 (args1 (E.d 11 0)) (LostB (HQN.out.mod Cx25.out (fun _ _ h => h))) ?_
              rintro e w2 ⟨rfl, hw2⟩
              obtain rfl : u19_1 = w2 := by first | exact hw2 | exact hw2.symm
              refine ⟨_, rfl, ?_⟩
              clear act E
              refine QSeq.pureG rfl (.int .i64 ((o1 : Nat) : Int)) (fun E => ((wanted_of rfl rfl (E.sz 121 (by decide)) (E.d 10 2)).trans rfl)) (fun E => ex_move rfl (E.v oe11)) ?_
              refine QSeq.pureG rfl (.bool false) (fun E => ((wanted_of rfl rfl (E.sz 121 (by decide)) (E.d 10 3)).trans rfl)) (fun E => ex_binE rfl (E.d 12 1) (E.d 13 0) (guard_ints _ _ _ _ _ _) (run_neq_i _ _ _ Try.underlying3) (congrArg Value.bool (ne_ff rfl))) ?_
              refine QSeq.pure rfl (.bool false) (fun E => ex_pick rfl (E.d 10 4) rfl (E.d 14 0)) ?_
              refine QSeq.nil (t' := [_, _, _, _, _, _, _, _, _, _, _, _, _, _, _, _]) rfl ?_
              obtain rfl := HA0.out
              clear HA0 oe7 oe9 oe10 oe11
              simp only [pz, Act.put, List.setIfInBounds_toArray, List.set_cons_zero, List.set_cons_succ]
              go_upto_region 8 with (fail)
              refine wp_region_U 128 [39, 40, 12] [0, 1, 2] (fun a0 HA0 => ?_)
              have oe12 := ev HA0 12 rfl
              refine QSeq.pure rfl _ (fun E => ex_move rfl (E.y 2 oe12)) ?_
              refine QSeq.pure rfl (.int .i64 ((i + 1 : Nat) : Int)) (fun E => ex_binE rfl (E.d 0 0) rfl (guard_ints _ _ _ _ _ _) (run_add_i _ _ Try.underlying3) (congrArg (Value.int .i64) (i64_eq (b := ((i + 1 : Nat) : Int)) (by omega) (by omega) (by omega)))) ?_
              refine QSeq.pure rfl _ (fun E => ex_assign rfl (E.d 1 0)) ?_
              refine QSeq.nil (t' := [_, _, _]) rfl ?_
              obtain rfl := HA0.out
              clear HA0 oe12
              simp only [pz, Act.put, List.setIfInBounds_toArray, List.set_cons_zero, List.set_cons_succ]
              go_wp2
              go_roundw
              case rel => exact ⟨i + 1, s1, o1, l1, (by first | rfl | go_num | ((try dsimp only); go_num)), rfl, rfl, rfl, by omega, by omega, by omega, by omega, hP1, by omega, ((HQN.out.mod Cx25.out (fun _ _ h => h)).widen (R' := fun k => New w u19_1 k) (by intro k h1; rcases h1 with h1 | h1 <;> ((try dsimp only at h1 ⊢); unfold New at *; omega))), ((K2.out.mod Cx6.out (by intro k h1 h2; omega)).mod Cx25.out (fun _ _ h => h)), ((K3.out.mod Cx6.out (by intro k h1 h2; omega)).mod Cx25.out (fun _ _ h => h)), ((K4.out.trans Cx6.out (by intro k h1 h2; omega)).trans Cx25.out (fun _ _ h => h.elim))⟩
              case measure => simp [intOf]; omega
            · have hd : 0 < l1.length ∧ ((l1.length : Nat) : Int) < ((mo : Nat) : Int) := by omega
              go_upto_region 19 with (fail)
              refine wp_region_U 128 [92, 93, 94, 95, 96, 97, 98, 99, 100, 101] [0, 1, 2, 3, 4, 5, 6, 7, 8, 9] (fun a0 HA0 => ?_)
              have oe0 := ev HA0 0 rfl
              have oe7 := ev HA0 7 rfl
              have oe9 := ev HA0 9 rfl
              refine QSeq.pure rfl _ (fun E => ex_move rfl (E.v oe7)) ?_
              refine QSeq.call rfl rfl Try.func16 (DoubB (k := 0) HQN.out hd (by omega)) (fun E => args2 (E.d 0 0) rfl) ?_
              rintro e u19_1 ⟨rfl, qnt, hm⟩
              refine ⟨_, rfl, ?_⟩
              have Hx26 := hid (qnt.widen (R' := (fun k => (New w wl k) ∨ (New u11_2 u11_3 k) ∨ (New u11_3 u19_1 k))) (by intro k h1; omega))
              have zu19_1 := hm.size
              have Cx27 := hid (show Mod (fun k => (New w wl k) ∨ (New u11_2 u11_3 k)) u11_3 u19_1 from hm)
              clear hm
              clear qnt HQN
              refine QSeq.pure rfl _ (fun E => ex_move rfl (E.v oe9)) ?_
              refine QSeq.pure rfl (.bool true) (fun E => ex_binE rfl (E.d 2 0) rfl (guard_ints _ _ _ _ _ _) (run_gtr_i _ _ _ Try.underlying3) (congrArg Value.bool (decide_eq_true (by omega)))) ?_
              refine QSeq.pure rfl _ (fun E => ex_move rfl (E.d 3 0)) ?_
              refine QSeq.pureG rfl (.int .i64 ((l1.length : Nat) : Int)) (fun E => ((wanted_of rfl rfl (E.sz 96 (by decide)) (E.d 4 0)).trans rfl)) (fun E => ex_move rfl (E.v oe9)) ?_
              refine QSeq.pureG rfl (.int .i64 ((mo : Nat) : Int)) (fun E => ((wanted_of rfl rfl (E.sz 96 (by decide)) (E.d 4 1)).trans rfl)) (fun E => ex_move rfl (E.v oe0)) ?_
              refine QSeq.pureG rfl (.bool true) (fun E => ((wanted_of rfl rfl (E.sz 96 (by decide)) (E.d 4 2)).trans rfl)) (fun E => ex_binE rfl (E.d 5 1) (E.d 6 0) (guard_ints _ _ _ _ _ _) (run_lss_i _ _ _ Try.underlying3) (congrArg Value.bool (decide_eq_true (by omega)))) ?_
              refine QSeq.pure rfl (.bool true) (fun E => ex_pick rfl (E.d 4 3) (E.d 7 0) rfl) ?_
              refine QSeq.pure rfl (.bool false) (fun E => ex_bin rfl (E.d 1 7) (E.d 8 0) (guard_bools _ _ _ _ _ _) (run_neq_bools _ _ _ Try.underlying4)) ?_
              refine QSeq.nil (t' := [_, _, _, _, _, _, _, _, _, _]) rfl ?_
              obtain rfl := HA0.out
              clear HA0 oe0 oe7 oe9
              simp only [pz, Act.put, List.setIfInBounds_toArray, List.set_cons_zero, List.set_cons_succ]
              go_upto_region 21 with (fail)
              refine wp_region_U 128 [102, 103, 104, 105, 106, 107, 108] [0, 1, 2, 3, 4, 5, 6] (fun a0 HA0 => ?_)
              have oe0 := ev HA0 0 rfl
              have oe9 := ev HA0 9 rfl
              refine QSeq.pure rfl _ (fun E => ex_move rfl (E.v oe9)) ?_
              refine QSeq.pure rfl (.bool true) (fun E => ex_binE rfl (E.d 0 0) rfl (guard_ints _ _ _ _ _ _) (run_gtr_i _ _ _ Try.underlying3) (congrArg Value.bool (decide_eq_true (by omega)))) ?_
              refine QSeq.pure rfl _ (fun E => ex_move rfl (E.d 1 0)) ?_
              refine QSeq.pureG rfl (.int .i64 ((l1.length : Nat) : Int)) (fun E => ((wanted_of rfl rfl (E.sz 104 (by decide)) (E.d 2 0)).trans rfl)) (fun E => ex_move rfl (E.v oe9)) ?_
              refine QSeq.pureG rfl (.int .i64 ((mo : Nat) : Int)) (fun E => ((wanted_of rfl rfl (E.sz 104 (by decide)) (E.d 2 1)).trans rfl)) (fun E => ex_move rfl (E.v oe0)) ?_
              refine QSeq.pureG rfl (.bool true) (fun E => ((wanted_of rfl rfl (E.sz 104 (by decide)) (E.d 2 2)).trans rfl)) (fun E => ex_binE rfl (E.d 3 1) (E.d 4 0) (guard_ints _ _ _ _ _ _) (run_lss_i _ _ _ Try.underlying3) (congrArg Value.bool (decide_eq_true (by omega)))) ?_
              refine QSeq.pure rfl (.bool true) (fun E => ex_pick rfl (E.d 2 3) (E.d 5 0) rfl) ?_
              refine QSeq.nil (t' := [_, _, _, _, _, _, _]) rfl ?_
              obtain rfl := HA0.out
              clear HA0 oe0 oe9
              simp only [pz, Act.put, List.setIfInBounds_toArray, List.set_cons_zero, List.set_cons_succ]
              obtain ⟨l3, hl3⟩ : ∃ l3, l3 = l1 ++ [l1[0]'hd.1] := ⟨_, rfl⟩
              have hl3l : l3.length = l1.length + 1 := by rw [hl3, List.length_append]; rfl
              have hP3 : ∀ m ∈ l3, cpMg m := by rw [hl3]; exact cp_snoc hP1 (hP1 _ (List.getElem_mem _))
              have HQ3 := hid (show NtR (fun k => (New w wl k) ∨ (New u11_2 u11_3 k) ∨ (New u11_3 u19_1 k)) u19_1 x ((mo : Nat) : Int) l3 ((s1 : Nat) : Int) ((o1 : Nat) : Int) from (by rw [hl3]; exact Hx26.out))
              clear Hx26
              clear hl3
              go_upto_region 22 with (fail)
              refine wp_region_U 128 [109, 110, 9] [0, 1, 2] (fun a0 HA0 => ?_)
              have oe9 := ev HA0 9 rfl
              refine QSeq.pure rfl _ (fun E => ex_move rfl (E.y 2 oe9)) ?_
              refine QSeq.pure rfl (.int .i64 ((l3.length : Nat) : Int)) (fun E => ex_binE rfl (E.d 0 0) rfl (guard_ints _ _ _ _ _ _) (run_add_i _ _ Try.underlying3) (congrArg (Value.int .i64) (i64_eq (b := ((l3.length : Nat) : Int)) (by omega) (by omega) (by omega)))) ?_
              refine QSeq.pure rfl _ (fun E => ex_assign rfl (E.d 1 0)) ?_
              refine QSeq.nil (t' := [_, _, _]) rfl ?_
              obtain rfl := HA0.out
              clear HA0 oe9
              simp only [pz, Act.put, List.setIfInBounds_toArray, List.set_cons_zero, List.set_cons_succ]
              go_upto_region 23 with (fail)
              refine wp_region_U 128 [111, 112, 113, 114, 115, 116, 117, 118, 119, 120, 121, 122, 123, 124, 125, 126] [0, 1, 2, 3, 4, 5, 6, 7, 8, 9, 10, 11, 12, 13, 14, 15] (fun a0 HA0 => ?_)
              have oe7 := ev HA0 7 rfl
              have oe9 := ev HA0 9 rfl
              have oe10 := ev HA0 10 rfl
              have oe11 := ev HA0 11 rfl
              refine QSeq.pure rfl _ (fun E => ex_move rfl (E.v oe7)) ?_
              refine QSeq.go fun act E => ?_
              refine qc_callF (args := #[.pointer (some ⟨x, 0, none⟩)]) rfl (wanted_none rfl) rfl Try.func11 (args1 (E.d 0 0)) (LenB HQ3.out) ?_
              rintro e w2 ⟨rfl, hw2⟩
              obtain rfl : u19_1 = w2 := by first | exact hw2 | exact hw2.symm
              refine ⟨_, rfl, ?_⟩
              clear act E
              refine QSeq.pure rfl _ (fun E => ex_move rfl (E.v oe9)) ?_
              refine QSeq.pure rfl (.bool false) (fun E => ex_binE rfl (E.d 1 1) (E.d 2 0) (guard_ints _ _ _ _ _ _) (run_neq_i _ _ _ Try.underlying3) (congrArg Value.bool (ne_ff (by omega)))) ?_
              refine QSeq.pure rfl _ (fun E => ex_move rfl (E.d 3 0)) ?_
              refine QSeq.pureG rfl (.pointer (some ⟨x, 0, none⟩)) (fun E => ((wanted_of rfl rfl (E.sz 115 (by decide)) (E.d 4 0)).trans rfl)) (fun E => ex_move rfl (E.v oe7)) ?_
              refine QSeq.go fun act E => ?_
              refine qc_callF (args := #[.pointer (some ⟨x, 0, none⟩)]) rfl ((wanted_of rfl rfl (E.sz 115 (by decide)) (E.d 4 1)).trans rfl) rfl Try.func12 (args1 (E.d 5 0)) (SentB HQ3.out) ?_
              rintro e w2 ⟨rfl, hw2⟩
              obtain rfl : u19_1 = w2 := by first | exact hw2 | exact hw2.symm
              refine ⟨_, rfl, ?_⟩
              clear act E
              refine QSeq.pureG rfl (.int .i64 ((s1 : Nat) : Int)) (fun E => ((wanted_of rfl rfl (E.sz 115 (by decide)) (E.d 4 2)).trans rfl)) (fun E => ex_move rfl (E.v oe10)) ?_
              refine QSeq.pureG rfl (.bool false) (fun E => ((wanted_of rfl rfl (E.sz 115 (by decide)) (E.d 4 3)).trans rfl)) (fun E => ex_binE rfl (E.d 6 1) (E.d 7 0) (guard_ints _ _ _ _ _ _) (run_neq_i _ _ _ Try.underlying3) (congrArg Value.bool (ne_ff rfl))) ?_
              refine QSeq.pure rfl (.bool false) (fun E => ex_pick rfl (E.d 4 4) rfl (E.d 8 0)) ?_
              refine QSeq.pure rfl _ (fun E => ex_move rfl (E.d 9 0)) ?_
              refine QSeq.pureG rfl (.pointer (some ⟨x, 0, none⟩)) (fun E => ((wanted_of rfl rfl (E.sz 121 (by decide)) (E.d 10 0)).trans rfl)) (fun E => ex_move rfl (E.v oe7)) ?_
              refine QSeq.go fun act E => ?_
              refine qc_callF (args := #[.pointer (some ⟨x, 0, none⟩)]) rfl ((wanted_of rfl rfl (E.sz 121 (by decide)) (E.d 10 1)).trans rfl) rfl Try.func17 (args1 (E.d 11 0)) (LostB HQ3.out) ?_
              rintro e w2 ⟨rfl, hw2⟩
              obtain rfl : u19_1 = w2 := by first | exact hw2 | exact hw2.symm
              refine ⟨_, rfl, ?_⟩
              clear act E
              refine QSeq.pureG rfl (.int .i64 ((o1 : Nat) : Int)) (fun E => ((wanted_of rfl rfl (E.sz 121 (by decide)) (E.d 10 2)).trans rfl)) (fun E => ex_move rfl (E.v oe11)) ?_
              refine QSeq.pureG rfl (.bool false) (fun E => ((wanted_of rfl rfl (E.sz 121 (by decide)) (E.d 10 3)).trans rfl)) (fun E => ex_binE rfl (E.d 12 1) (E.d 13 0) (guard_ints _ _ _ _ _ _) (run_neq_i _ _ _ Try.underlying3) (congrArg Value.bool (ne_ff rfl))) ?_
              refine QSeq.pure rfl (.bool false) (fun E => ex_pick rfl (E.d 10 4) rfl (E.d 14 0)) ?_
              refine QSeq.nil (t' := [_, _, _, _, _, _, _, _, _, _, _, _, _, _, _, _]) rfl ?_
              obtain rfl := HA0.out
              clear HA0 oe7 oe9 oe10 oe11
              simp only [pz, Act.put, List.setIfInBounds_toArray, List.set_cons_zero, List.set_cons_succ]
              go_upto_region 8 with (fail)
              refine wp_region_U 128 [39, 40, 12] [0, 1, 2] (fun a0 HA0 => ?_)
              have oe12 := ev HA0 12 rfl
              refine QSeq.pure rfl _ (fun E => ex_move rfl (E.y 2 oe12)) ?_
              refine QSeq.pure rfl (.int .i64 ((i + 1 : Nat) : Int)) (fun E => ex_binE rfl (E.d 0 0) rfl (guard_ints _ _ _ _ _ _) (run_add_i _ _ Try.underlying3) (congrArg (Value.int .i64) (i64_eq (b := ((i + 1 : Nat) : Int)) (by omega) (by omega) (by omega)))) ?_
              refine QSeq.pure rfl _ (fun E => ex_assign rfl (E.d 1 0)) ?_
              refine QSeq.nil (t' := [_, _, _]) rfl ?_
              obtain rfl := HA0.out
              clear HA0 oe12
              simp only [pz, Act.put, List.setIfInBounds_toArray, List.set_cons_zero, List.set_cons_succ]
              go_wp2
              go_roundw
              case rel => exact ⟨i + 1, s1, o1, l3, (by first | rfl | go_num | ((try dsimp only); go_num)), rfl, rfl, rfl, by omega, by omega, by omega, by omega, hP3, by omega, (HQ3.out.widen (R' := fun k => New w u19_1 k) (by intro k h1; rcases h1 with h1 | h1 <;> ((try dsimp only at h1 ⊢); unfold New at *; omega))), ((K2.out.mod Cx6.out (by intro k h1 h2; omega)).mod Cx27.out (by intro k h1 h2; omega)), ((K3.out.mod Cx6.out (by intro k h1 h2; omega)).mod Cx27.out (by intro k h1 h2; omega)), ((K4.out.trans Cx6.out (by intro k h1 h2; omega)).trans Cx27.out (by intro k h1 h2; omega))⟩
              case measure => simp [intOf]; omega
      · skip
        go_upto_region 14 with (fail)
        refine wp_region_U 128 [68, 69, 70, 71, 72, 73, 74, 75, 76, 77] [0, 1, 2, 3, 4, 5, 6, 7, 8, 9] (fun a0 HA0 => ?_)
        have oe2 := ev HA0 2 rfl
        have oe12 := ev HA0 12 rfl
        refine QSeq.pure rfl _ (fun E => ex_move rfl (E.v oe12)) ?_
        refine QSeq.pure rfl _ (fun E => ex_move rfl (E.v oe2)) ?_
        refine QSeq.pure rfl (.int .i64 ts.length) (fun E => ex_lenS rfl (E.d 1 0) Try.underlying75) ?_
        refine QSeq.pure rfl (.bool false) (fun E => ex_binE rfl (E.d 0 2) (E.d 2 0) (guard_ints _ _ _ _ _ _) (run_lss_i _ _ _ Try.underlying3) (congrArg Value.bool (decide_eq_false (by omega)))) ?_
        refine QSeq.pure rfl _ (fun E => ex_move rfl (E.d 3 0)) ?_
        refine QSeq.skip rfl (fun E => ((wanted_of rfl rfl (E.sz 72 (by decide)) (E.d 4 0)).trans rfl)) ?_
        refine QSeq.skip rfl (fun E => ((wanted_of rfl rfl (E.sz 72 (by decide)) (E.d 4 1)).trans rfl)) ?_
        refine QSeq.skip rfl (fun E => ((wanted_of rfl rfl (E.sz 72 (by decide)) (E.d 4 2)).trans rfl)) ?_
        refine QSeq.skip rfl (fun E => ((wanted_of rfl rfl (E.sz 72 (by decide)) (E.d 4 3)).trans rfl)) ?_
        refine QSeq.pure rfl (.bool false) (fun E => ex_pick rfl (E.d 4 4) (E.d 8 0) rfl) ?_
        refine QSeq.nil (t' := [_, _, _, _, _, _, _, _, _, _]) rfl ?_
        obtain rfl := HA0.out
        clear HA0 oe2 oe12
        simp only [pz, Act.put, List.setIfInBounds_toArray, List.set_cons_zero, List.set_cons_succ]
        by_cases h0 : l1.length = 0
        · skip
          go_upto_region 19 with (fail)
          refine wp_region_U 128 [92, 93, 94, 95, 96, 97, 98, 99, 100, 101] [0, 1, 2, 3, 4, 5, 6, 7, 8, 9] (fun a0 HA0 => ?_)
          have oe7 := ev HA0 7 rfl
          have oe9 := ev HA0 9 rfl
          refine QSeq.pure rfl _ (fun E => ex_move rfl (E.v oe7)) ?_
          refine QSeq.call rfl rfl Try.func16 (DoubN (k := 0) HQN.out (by omega)) (fun E => args2 (E.d 0 0) rfl) ?_
          rintro e u19_1 ⟨rfl, hm⟩
          refine ⟨_, rfl, ?_⟩
          have zu19_1 := hm.size
          have Cx28 := hid (show Mod (fun _ => False) u11_3 u19_1 from hm)
          clear hm
          refine QSeq.pure rfl _ (fun E => ex_move rfl (E.v oe9)) ?_
          refine QSeq.pure rfl (.bool false) (fun E => ex_binE rfl (E.d 2 0) rfl (guard_ints _ _ _ _ _ _) (run_gtr_i _ _ _ Try.underlying3) (congrArg Value.bool (decide_eq_false (by omega)))) ?_
          refine QSeq.pure rfl _ (fun E => ex_move rfl (E.d 3 0)) ?_
          refine QSeq.skip rfl (fun E => ((wanted_of rfl rfl (E.sz 96 (by decide)) (E.d 4 0)).trans rfl)) ?_
          refine QSeq.skip rfl (fun E => ((wanted_of rfl rfl (E.sz 96 (by decide)) (E.d 4 1)).trans rfl)) ?_
          refine QSeq.skip rfl (fun E => ((wanted_of rfl rfl (E.sz 96 (by decide)) (E.d 4 2)).trans rfl)) ?_
          refine QSeq.pure rfl (.bool false) (fun E => ex_pick rfl (E.d 4 3) (E.d 7 0) rfl) ?_
          refine QSeq.pure rfl (.bool false) (fun E => ex_bin rfl (E.d 1 7) (E.d 8 0) (guard_bools _ _ _ _ _ _) (run_neq_bools _ _ _ Try.underlying4)) ?_
          refine QSeq.nil (t' := [_, _, _, _, _, _, _, _, _, _]) rfl ?_
          obtain rfl := HA0.out
          clear HA0 oe7 oe9
          simp only [pz, Act.put, List.setIfInBounds_toArray, List.set_cons_zero, List.set_cons_succ]
          go_upto_region 21 with (fail)
          refine wp_region_U 128 [102, 103, 104, 105, 106, 107, 108] [0, 1, 2, 3, 4, 5, 6] (fun a0 HA0 => ?_)
          have oe9 := ev HA0 9 rfl
          refine QSeq.pure rfl _ (fun E => ex_move rfl (E.v oe9)) ?_
          refine QSeq.pure rfl (.bool false) (fun E => ex_binE rfl (E.d 0 0) rfl (guard_ints _ _ _ _ _ _) (run_gtr_i _ _ _ Try.underlying3) (congrArg Value.bool (decide_eq_false (by omega)))) ?_
          refine QSeq.pure rfl _ (fun E => ex_move rfl (E.d 1 0)) ?_
          refine QSeq.skip rfl (fun E => ((wanted_of rfl rfl (E.sz 104 (by decide)) (E.d 2 0)).trans rfl)) ?_
          refine QSeq.skip rfl (fun E => ((wanted_of rfl rfl (E.sz 104 (by decide)) (E.d 2 1)).trans rfl)) ?_
          refine QSeq.skip rfl (fun E => ((wanted_of rfl rfl (E.sz 104 (by decide)) (E.d 2 2)).trans rfl)) ?_
          refine QSeq.pure rfl (.bool false) (fun E => ex_pick rfl (E.d 2 3) (E.d 5 0) rfl) ?_
          refine QSeq.nil (t' := [_, _, _, _, _, _, _]) rfl ?_
          obtain rfl := HA0.out
          clear HA0 oe9
          simp only [pz, Act.put, List.setIfInBounds_toArray, List.set_cons_zero, List.set_cons_succ]
          go_upto_region 23 with (fail)
          refine wp_region_U 128 [111, 112, 113, 114, 115, 116, 117, 118, 119, 120, 121, 122, 123, 124, 125, 126] [0, 1, 2, 3, 4, 5, 6, 7, 8, 9, 10, 11, 12, 13, 14, 15] (fun a0 HA0 => ?_)
          have oe7 := ev HA0 7 rfl
          have oe9 := ev HA0 9 rfl
          have oe10 := ev HA0 10 rfl
          have oe11 := ev HA0 11 rfl
          refine QSeq.pure rfl _ (fun E => ex_move rfl (E.v oe7)) ?_
          refine QSeq.go fun act E => ?_
          refine qc_callF (args := #[.pointer (some ⟨x, 0, none⟩)]) rfl (wanted_none rfl) rfl Try.func11 (args1 (E.d 0 0)) (LenB (HQN.out.mod Cx28.out (fun _ _ h => h))) ?_
          rintro e w2 ⟨rfl, hw2⟩
          obtain rfl : u19_1 = w2 := by first | exact hw2 | exact hw2.symm
          refine ⟨_, rfl, ?_⟩
          clear act E
          refine QSeq.pure rfl _ (fun E => ex_move rfl (E.v oe9)) ?_
          refine QSeq.pure rfl (.bool false) (fun E => ex_binE rfl (E.d 1 1) (E.d 2 0) (guard_ints _ _ _ _ _ _) (run_neq_i _ _ _ Try.underlying3) (congrArg Value.bool (ne_ff (by omega)))) ?_
          refine QSeq.pure rfl _ (fun E => ex_move rfl (E.d 3 0)) ?_
          refine QSeq.pureG rfl (.pointer (some ⟨x, 0, none⟩)) (fun E => ((wanted_of rfl rfl (E.sz 115 (by decide)) (E.d 4 0)).trans rfl)) (fun E => ex_move rfl (E.v oe7)) ?_
          refine QSeq.go fun act E => ?_
          refine qc_callF (args := #[.pointer (some ⟨x, 0, none⟩)]) rfl ((wanted_of rfl rfl (E.sz 115 (by decide)) (E.d 4 1)).trans rfl) rfl Try.func12 (args1 (E.d 5 0)) (SentB (HQN.out.mod Cx28.out (fun _ _ h => h))) ?_
          rintro e w2 ⟨rfl, hw2⟩
          obtain rfl : u19_1 = w2 := by first | exact hw2 | exact hw2.symm
          refine ⟨_, rfl, ?_⟩
          clear act E
          refine QSeq.pureG rfl (.int .i64 ((s1 : Nat) : Int)) (fun E => ((wanted_of rfl rfl (E.sz 115 (by decide)) (E.d 4 2)).trans rfl)) (fun E => ex_move rfl (E.v oe10)) ?_
          refine QSeq.pureG rfl (.bool false) (fun E => ((wanted_of rfl rfl (E.sz 115 (by decide)) (E.d 4 3)).trans rfl)) (fun E => ex_binE rfl (E.d 6 1) (E.d 7 0) (guard_ints _ _ _ _ _ _) (run_neq_i _ _ _ Try.underlying3) (congrArg Value.bool (ne_ff rfl))) ?_
          refine QSeq.pure rfl (.bool false) (fun E => ex_pick rfl (E.d 4 4) rfl (E.d 8 0)) ?_
          refine QSeq.pure rfl _ (fun E => ex_move rfl (E.d 9 0)) ?_
          refine QSeq.pureG rfl (.pointer (some ⟨x, 0, none⟩)) (fun E => ((wanted_of rfl rfl (E.sz 121 (by decide)) (E.d 10 0)).trans rfl)) (fun E => ex_move rfl (E.v oe7)) ?_
          refine QSeq.go fun act E => ?_
          refine qc_callF (args := #[.pointer (some ⟨x, 0, none⟩)]) rfl ((wanted_of rfl rfl (E.sz 121 (by decide)) (E.d 10 1)).trans rfl) rfl Try.func17 (args1 (E.d 11 0)) (LostB (HQN.out.mod Cx28.out (fun _ _ h => h))) ?_
          rintro e w2 ⟨rfl, hw2⟩
          obtain rfl : u19_1 = w2 := by first | exact hw2 | exact hw2.symm
          refine ⟨_, rfl, ?_⟩
          clear act E
          refine QSeq.pureG rfl (.int .i64 ((o1 : Nat) : Int)) (fun E => ((wanted_of rfl rfl (E.sz 121 (by decide)) (E.d 10 2)).trans rfl)) (fun E => ex_move rfl (E.v oe11)) ?_
          refine QSeq.pureG rfl (.bool false) (fun E => ((wanted_of rfl rfl (E.sz 121 (by decide)) (E.d 10 3)).trans rfl)) (fun E => ex_binE rfl (E.d 12 1) (E.d 13 0) (guard_ints _ _ _ _ _ _) (run_neq_i _ _ _ Try.underlying3) (congrArg Value.bool (ne_ff rfl))) ?_
          refine QSeq.pure rfl (.bool false) (fun E => ex_pick rfl (E.d 10 4) rfl (E.d 14 0)) ?_
          refine QSeq.nil (t' := [_, _, _, _, _, _, _, _, _, _, _, _, _, _, _, _]) rfl ?_
          obtain rfl := HA0.out
          clear HA0 oe7 oe9 oe10 oe11
          simp only [pz, Act.put, List.setIfInBounds_toArray, List.set_cons_zero, List.set_cons_succ]
          go_upto_region 8 with (fail)
          refine wp_region_U 128 [39, 40, 12] [0, 1, 2] (fun a0 HA0 => ?_)
          have oe12 := ev HA0 12 rfl
          refine QSeq.pure rfl _ (fun E => ex_move rfl (E.y 2 oe12)) ?_
          refine QSeq.pure rfl (.int .i64 ((i + 1 : Nat) : Int)) (fun E => ex_binE rfl (E.d 0 0) rfl (guard_ints _ _ _ _ _ _) (run_add_i _ _ Try.underlying3) (congrArg (Value.int .i64) (i64_eq (b := ((i + 1 : Nat) : Int)) (by omega) (by omega) (by omega)))) ?_
          refine QSeq.pure rfl _ (fun E => ex_assign rfl (E.d 1 0)) ?_
          refine QSeq.nil (t' := [_, _, _]) rfl ?_
          obtain rfl := HA0.out
          clear HA0 oe12
          simp only [pz, Act.put, List.setIfInBounds_toArray, List.set_cons_zero, List.set_cons_succ]
          go_wp2
          go_roundw
          case rel => exact ⟨i + 1, s1, o1, l1, (by first | rfl | go_num | ((try dsimp only); go_num)), rfl, rfl, rfl, by omega, by omega, by omega, by omega, hP1, by omega, ((HQN.out.mod Cx28.out (fun _ _ h => h)).widen (R' := fun k => New w u19_1 k) (by intro k h1; rcases h1 with h1 | h1 <;> ((try dsimp only at h1 ⊢); unfold New at *; omega))), ((K2.out.mod Cx6.out (by intro k h1 h2; omega)).mod Cx28.out (fun _ _ h => h)), ((K3.out.mod Cx6.out (by intro k h1 h2; omega)).mod Cx28.out (fun _ _ h => h)), ((K4.out.trans Cx6.out (by intro k h1 h2; omega)).trans Cx28.out (fun _ _ h => h.elim))⟩
          case measure => simp [intOf]; omega
        · skip
          by_cases h9 : l1.length = mo
          · skip
            go_upto_region 19 with (fail)
            refine wp_region_U 128 [92, 93, 94, 95, 96, 97, 98, 99, 100, 101] [0, 1, 2, 3, 4, 5, 6, 7, 8, 9] (fun a0 HA0 => ?_)
            have oe0 := ev HA0 0 rfl
            have oe7 := ev HA0 7 rfl
            have oe9 := ev HA0 9 rfl
            refine QSeq.pure rfl _ (fun E => ex_move rfl (E.v oe7)) ?_
            refine QSeq.call rfl rfl Try.func16 (DoubF (k := 0) HQN.out (by omega)) (fun E => args2 (E.d 0 0) rfl) ?_
            rintro e u19_1 ⟨rfl, hm⟩
            refine ⟨_, rfl, ?_⟩
            have zu19_1 := hm.size
            have Cx29 := hid (show Mod (fun _ => False) u11_3 u19_1 from hm)
            clear hm
            refine QSeq.pure rfl _ (fun E => ex_move rfl (E.v oe9)) ?_
            refine QSeq.pure rfl (.bool true) (fun E => ex_binE rfl (E.d 2 0) rfl (guard_ints _ _ _ _ _ _) (run_gtr_i _ _ _ Try.underlying3) (congrArg Value.bool (decide_eq_true (by omega)))) ?_
            refine QSeq.pure rfl _ (fun E => ex_move rfl (E.d 3 0)) ?_
            refine QSeq.pureG rfl (.int .i64 ((l1.length : Nat) : Int)) (fun E => ((wanted_of rfl rfl (E.sz 96 (by decide)) (E.d 4 0)).trans rfl)) (fun E => ex_move rfl (E.v oe9)) ?_
            refine QSeq.pureG rfl (.int .i64 ((mo : Nat) : Int)) (fun E => ((wanted_of rfl rfl (E.sz 96 (by decide)) (E.d 4 1)).trans rfl)) (fun E => ex_move rfl (E.v oe0)) ?_
            refine QSeq.pureG rfl (.bool false) (fun E => ((wanted_of rfl rfl (E.sz 96 (by decide)) (E.d 4 2)).trans rfl)) (fun E => ex_binE rfl (E.d 5 1) (E.d 6 0) (guard_ints _ _ _ _ _ _) (run_lss_i _ _ _ Try.underlying3) (congrArg Value.bool (decide_eq_false (by omega)))) ?_
            refine QSeq.pure rfl (.bool false) (fun E => ex_pick rfl (E.d 4 3) (E.d 7 0) rfl) ?_
            refine QSeq.pure rfl (.bool false) (fun E => ex_bin rfl (E.d 1 7) (E.d 8 0) (guard_bools _ _ _ _ _ _) (run_neq_bools _ _ _ Try.underlying4)) ?_
            refine QSeq.nil (t' := [_, _, _, _, _, _, _, _, _, _]) rfl ?_
            obtain rfl := HA0.out
            clear HA0 oe0 oe7 oe9
            simp only [pz, Act.put, List.setIfInBounds_toArray, List.set_cons_zero, List.set_cons_succ]
            go_upto_region 21 with (fail)
            refine wp_region_U 128 [102, 103, 104, 105, 106, 107, 108] [0, 1, 2, 3, 4, 5, 6] (fun a0 HA0 => ?_)
            have oe0 := ev HA0 0 rfl
            have oe9 := ev HA0 9 rfl
            refine QSeq.pure rfl _ (fun E => ex_move rfl (E.v oe9)) ?_
            refine QSeq.pure rfl (.bool true) (fun E => ex_binE rfl (E.d 0 0) rfl (guard_ints _ _ _ _ _ _) (run_gtr_i _ _ _ Try.underlying3) (congrArg Value.bool (decide_eq_true (by omega)))) ?_
            refine QSeq.pure rfl _ (fun E => ex_move rfl (E.d 1 0)) ?_
            refine QSeq.pureG rfl (.int .i64 ((l1.length : Nat) : Int)) (fun E => ((wanted_of rfl rfl (E.sz 104 (by decide)) (E.d 2 0)).trans rfl)) (fun E => ex_move rfl (E.v oe9)) ?_
            refine QSeq.pureG rfl (.int .i64 ((mo : Nat) : Int)) (fun E => ((wanted_of rfl rfl (E.sz 104 (by decide)) (E.d 2 1)).trans rfl)) (fun E => ex_move rfl (E.v oe0)) ?_
            refine QSeq.pureG rfl (.bool false) (fun E => ((wanted_of rfl rfl (E.sz 104 (by decide)) (E.d 2 2)).trans rfl)) (fun E => ex_binE rfl (E.d 3 1) (E.d 4 0) (guard_ints _ _ _ _ _ _) (run_lss_i _ _ _ Try.underlying3) (congrArg Value.bool (decide_eq_false (by omega)))) ?_
            refine QSeq.pure rfl (.bool false) (fun E => ex_pick rfl (E.d 2 3) (E.d 5 0) rfl) ?_
            refine QSeq.nil (t' := [_, _, _, _, _, _, _]) rfl ?_
            obtain rfl := HA0.out
            clear HA0 oe0 oe9
            simp only [pz, Act.put, List.setIfInBounds_toArray, List.set_cons_zero, List.set_cons_succ]
            go_upto_region 23 with (fail)
            refine wp_region_U 128 [111, 112, 113, 114, 115, 116, 117, 118, 119, 120, 121, 122, 123, 124, 125, 126] [0, 1, 2, 3, 4, 5, 6, 7, 8, 9, 10, 11, 12, 13, 14, 15] (fun a0 HA0 => ?_)
            have oe7 := ev HA0 7 rfl
            have oe9 := ev HA0 9 rfl
            have oe10 := ev HA0 10 rfl
            have oe11 := ev HA0 11 rfl
            refine QSeq.pure rfl _ (fun E => ex_move rfl (E.v oe7)) ?_
            refine QSeq.go fun act E => ?_
            refine qc_callF (args := #[.pointer (some ⟨x, 0, none⟩)]) rfl (wanted_none rfl) rfl Try.func11 (args1 (E.d 0 0)) (LenB (HQN.out.mod Cx29.out (fun _ _ h => h))) ?_
            rintro e w2 ⟨rfl, hw2⟩
            obtain rfl : u19_1 = w2 := by first | exact hw2 | exact hw2.symm
            refine ⟨_, rfl, ?_⟩
            clear act E
            refine QSeq.pure rfl _ (fun E => ex_move rfl (E.v oe9)) ?_
            refine QSeq.pure rfl (.bool false) (fun E => ex_binE rfl (E.d 1 1) (E.d 2 0) (guard_ints _ _ _ _ _ _) (run_neq_i _ _ _ Try.underlying3) (congrArg Value.bool (ne_ff (by omega)))) ?_
            refine QSeq.pure rfl _ (fun E => ex_move rfl (E.d 3 0)) ?_
            refine QSeq.pureG rfl (.pointer (some ⟨x, 0, none⟩)) (fun E => ((wanted_of rfl rfl (E.sz 115 (by decide)) (E.d 4 0)).trans rfl)) (fun E => ex_move rfl (E.v oe7)) ?_
            refine QSeq.go fun act E => ?_
            refine qc_callF (args := #[.pointer (some ⟨x, 0, none⟩)]) rfl ((wanted_of rfl rfl (E.sz 115 (by decide)) (E.d 4 1)).trans rfl) rfl Try.func12 (args1 (E.d 5 0)) (SentB (HQN.out.mod Cx29.out (fun _ _ h => h))) ?_
            rintro e w2 ⟨rfl, hw2⟩
            obtain rfl : u19_1 = w2 := by first | exact hw2 | exact hw2.symm
            refine ⟨_, rfl, ?_⟩
            clear act E
            refine QSeq.pureG rfl (.int .i64 ((s1 : Nat) : Int)) (fun E => ((wanted_of rfl rfl (E.sz 115 (by decide)) (E.d 4 2)).trans rfl)) (fun E => ex_move rfl (E.v oe10)) ?_
            refine QSeq.pureG rfl (.bool false) (fun E => ((wanted_of rfl rfl (E.sz 115 (by decide)) (E.d 4 3)).trans rfl)) (fun E => ex_binE rfl (E.d 6 1) (E.d 7 0) (guard_ints _ _ _ _ _ _) (run_neq_i _ _ _ Try.underlying3) (congrArg Value.bool (ne_ff rfl))) ?_
            refine QSeq.pure rfl (.bool false) (fun E => ex_pick rfl (E.d 4 4) rfl (E.d 8 0)) ?_
            refine QSeq.pure rfl _ (fun E => ex_move rfl (E.d 9 0)) ?_
            refine QSeq.pureG rfl (.pointer (some ⟨x, 0, none⟩)) (fun E => ((wanted_of rfl rfl (E.sz 121 (by decide)) (E.d 10 0)).trans rfl)) (fun E => ex_move rfl (E.v oe7)) ?_
            refine QSeq.go fun act E => ?_
            refine qc_callF (args := #[.pointer (some ⟨x, 0, none⟩)]) rfl ((wanted_of rfl rfl (E.sz 121 (by decide)) (E.d 10 1)).trans rfl) rfl Try.func17 (args1 (E.d 11 0)) (LostB (HQN.out.mod Cx29.out (fun _ _ h => h))) ?_
            rintro e w2 ⟨rfl, hw2⟩
            obtain rfl : u19_1 = w2 := by first | exact hw2 | exact hw2.symm
            refine ⟨_, rfl, ?_⟩
            clear act E
            refine QSeq.pureG rfl (.int .i64 ((o1 : Nat) : Int)) (fun E => ((wanted_of rfl rfl (E.sz 121 (by decide)) (E.d 10 2)).trans rfl)) (fun E => ex_move rfl (E.v oe11)) ?_
            refine QSeq.pureG rfl (.bool false) (fun E => ((wanted_of rfl rfl (E.sz 121 (by decide)) (E.d 10 3)).trans rfl)) (fun E => ex_binE rfl (E.d 12 1) (E.d 13 0) (guard_ints _ _ _ _ _ _) (run_neq_i _ _ _ Try.underlying3) (congrArg Value.bool (ne_ff rfl))) ?_
            refine QSeq.pure rfl (.bool false) (fun E => ex_pick rfl (E.d 10 4) rfl (E.d 14 0)) ?_
            refine QSeq.nil (t' := [_, _, _, _, _, _, _, _, _, _, _, _, _, _, _, _]) rfl ?_
            obtain rfl := HA0.out
            clear HA0 oe7 oe9 oe10 oe11
            simp only [pz, Act.put, List.setIfInBounds_toArray, List.set_cons_zero, List.set_cons_succ]
            go_upto_region 8 with (fail)
            refine wp_region_U 128 [39, 40, 12] [0, 1, 2] (fun a0 HA0 => ?_)
            have oe12 := ev HA0 12 rfl
            refine QSeq.pure rfl _ (fun E => ex_move rfl (E.y 2 oe12)) ?_
            refine QSeq.pure rfl (.int .i64 ((i + 1 : Nat) : Int)) (fun E => ex_binE rfl (E.d 0 0) rfl (guard_ints _ _ _ _ _ _) (run_add_i _ _ Try.underlying3) (congrArg (Value.int .i64) (i64_eq (b := ((i + 1 : Nat) : Int)) (by omega) (by omega) (by omega)))) ?_
            refine QSeq.pure rfl _ (fun E => ex_assign rfl (E.d 1 0)) ?_
            refine QSeq.nil (t' := [_, _, _]) rfl ?_
            obtain rfl := HA0.out
            clear HA0 oe12
            simp only [pz, Act.put, List.setIfInBounds_toArray, List.set_cons_zero, List.set_cons_succ]
            go_wp2
            go_roundw
            case rel => exact ⟨i + 1, s1, o1, l1, (by first | rfl | go_num | ((try dsimp only); go_num)), rfl, rfl, rfl, by omega, by omega, by omega, by omega, hP1, by omega, ((HQN.out.mod Cx29.out (fun _ _ h => h)).widen (R' := fun k => New w u19_1 k) (by intro k h1; rcases h1 with h1 | h1 <;> ((try dsimp only at h1 ⊢); unfold New at *; omega))), ((K2.out.mod Cx6.out (by intro k h1 h2; omega)).mod Cx29.out (fun _ _ h => h)), ((K3.out.mod Cx6.out (by intro k h1 h2; omega)).mod Cx29.out (fun _ _ h => h)), ((K4.out.trans Cx6.out (by intro k h1 h2; omega)).trans Cx29.out (fun _ _ h => h.elim))⟩
            case measure => simp [intOf]; omega
          · have hd : 0 < l1.length ∧ ((l1.length : Nat) : Int) < ((mo : Nat) : Int) := by omega
            go_upto_region 19 with (fail)
            refine wp_region_U 128 [92, 93, 94, 95, 96, 97, 98, 99, 100, 101] [0, 1, 2, 3, 4, 5, 6, 7, 8, 9] (fun a0 HA0 => ?_)
            have oe0 := ev HA0 0 rfl
            have oe7 := ev HA0 7 rfl
            have oe9 := ev HA0 9 rfl
            refine QSeq.pure rfl _ (fun E => ex_move rfl (E.v oe7)) ?_
            refine QSeq.call rfl rfl Try.func16 (DoubB (k := 0) HQN.out hd (by omega)) (fun E => args2 (E.d 0 0) rfl) ?_
            rintro e u19_1 ⟨rfl, qnt, hm⟩
            refine ⟨_, rfl, ?_⟩
            have Hx30 := hid (qnt.widen (R' := (fun k => (New w wl k) ∨ (New u11_2 u11_3 k) ∨ (New u11_3 u19_1 k))) (by intro k h1; omega))
            have zu19_1 := hm.size
            have Cx31 := hid (show Mod (fun k => (New w wl k) ∨ (New u11_2 u11_3 k)) u11_3 u19_1 from hm)
            clear hm
            clear qnt HQN
            refine QSeq.pure rfl _ (fun E => ex_move rfl (E.v oe9)) ?_
            refine QSeq.pure rfl (.bool true) (fun E => ex_binE rfl (E.d 2 0) rfl (guard_ints _ _ _ _ _ _) (run_gtr_i _ _ _ Try.underlying3) (congrArg Value.bool (decide_eq_true (by omega)))) ?_
            refine QSeq.pure rfl _ (fun E => ex_move rfl (E.d 3 0)) ?_
            refine QSeq.pureG rfl (.int .i64 ((l1.length : Nat) : Int)) (fun E => ((wanted_of rfl rfl (E.sz 96 (by decide)) (E.d 4 0)).trans rfl)) (fun E => ex_move rfl (E.v oe9)) ?_
            refine QSeq.pureG rfl (.int .i64 ((mo : Nat) : Int)) (fun E => ((wanted_of rfl rfl (E.sz 96 (by decide)) (E.d 4 1)).trans rfl)) (fun E => ex_move rfl (E.v oe0)) ?_
            refine QSeq.pureG rfl (.bool true) (fun E => ((wanted_of rfl rfl (E.sz 96 (by decide)) (E.d 4 2)).trans rfl)) (fun E => ex_binE rfl (E.d 5 1) (E.d 6 0) (guard_ints _ _ _ _ _ _) (run_lss_i _ _ _ Try.underlying3) (congrArg Value.bool (decide_eq_true (by omega)))) ?_
            refine QSeq.pure rfl (.bool true) (fun E => ex_pick rfl (E.d 4 3) (E.d 7 0) rfl) ?_
            refine QSeq.pure rfl (.bool false) (fun E => ex_bin rfl (E.d 1 7) (E.d 8 0) (guard_bools _ _ _ _ _ _) (run_neq_bools _ _ _ Try.underlying4)) ?_
            refine QSeq.nil (t' := [_, _, _, _, _, _, _, _, _, _]) rfl ?_
            obtain rfl := HA0.out
            clear HA0 oe0 oe7 oe9
            simp only [pz, Act.put, List.setIfInBounds_toArray, List.set_cons_zero, List.set_cons_succ]
            go_upto_region 21 with (fail)
            refine wp_region_U 128 [102, 103, 104, 105, 106, 107, 108] [0, 1, 2, 3, 4, 5, 6] (fun a0 HA0 => ?_)
            have oe0 := ev HA0 0 rfl
            have oe9 := ev HA0 9 rfl
            refine QSeq.pure rfl _ (fun E => ex_move rfl (E.v oe9)) ?_
            refine QSeq.pure rfl (.bool true) (fun E => ex_binE rfl (E.d 0 0) rfl (guard_ints _ _ _ _ _ _) (run_gtr_i _ _ _ Try.underlying3) (congrArg Value.bool (decide_eq_true (by omega)))) ?_
            refine QSeq.pure rfl _ (fun E => ex_move rfl (E.d 1 0)) ?_
            refine QSeq.pureG rfl (.int .i64 ((l1.length : Nat) : Int)) (fun E => ((wanted_of rfl rfl (E.sz 104 (by decide)) (E.d 2 0)).trans rfl)) (fun E => ex_move rfl (E.v oe9)) ?_
            refine QSeq.pureG rfl (.int .i64 ((mo : Nat) : Int)) (fun E => ((wanted_of rfl rfl (E.sz 104 (by decide)) (E.d 2 1)).trans rfl)) (fun E => ex_move rfl (E.v oe0)) ?_
            refine QSeq.pureG rfl (.bool true) (fun E => ((wanted_of rfl rfl (E.sz 104 (by decide)) (E.d 2 2)).trans rfl)) (fun E => ex_binE rfl (E.d 3 1) (E.d 4 0) (guard_ints _ _ _ _ _ _) (run_lss_i _ _ _ Try.underlying3) (congrArg Value.bool (decide_eq_true (by omega)))) ?_
            refine QSeq.pure rfl (.bool true) (fun E => ex_pick rfl (E.d 2 3) (E.d 5 0) rfl) ?_
            refine QSeq.nil (t' := [_, _, _, _, _, _, _]) rfl ?_
            obtain rfl := HA0.out
            clear HA0 oe0 oe9
            simp only [pz, Act.put, List.setIfInBounds_toArray, List.set_cons_zero, List.set_cons_succ]
            obtain ⟨l3, hl3⟩ : ∃ l3, l3 = l1 ++ [l1[0]'hd.1] := ⟨_, rfl⟩
            have hl3l : l3.length = l1.length + 1 := by rw [hl3, List.length_append]; rfl
            have hP3 : ∀ m ∈ l3, cpMg m := by rw [hl3]; exact cp_snoc hP1 (hP1 _ (List.getElem_mem _))
            have HQ3 := hid (show NtR (fun k => (New w wl k) ∨ (New u11_2 u11_3 k) ∨ (New u11_3 u19_1 k)) u19_1 x ((mo : Nat) : Int) l3 ((s1 : Nat) : Int) ((o1 : Nat) : Int) from (by rw [hl3]; exact Hx30.out))
            clear Hx30
            clear hl3
            go_upto_region 22 with (fail)
            refine wp_region_U 128 [109, 110, 9] [0, 1, 2] (fun a0 HA0 => ?_)
            have oe9 := ev HA0 9 rfl
            refine QSeq.pure rfl _ (fun E => ex_move rfl (E.y 2 oe9)) ?_
            refine QSeq.pure rfl (.int .i64 ((l3.length : Nat) : Int)) (fun E => ex_binE rfl (E.d 0 0) rfl (guard_ints _ _ _ _ _ _) (run_add_i _ _ Try.underlying3) (congrArg (Value.int .i64) (i64_eq (b := ((l3.length : Nat) : Int)) (by omega) (by omega) (by omega)))) ?_
            refine QSeq.pure rfl _ (fun E => ex_assign rfl (E.d 1 0)) ?_
            refine QSeq.nil (t' := [_, _, _]) rfl ?_
            obtain rfl := HA0.out
            clear HA0 oe9
            simp only [pz, Act.put, List.setIfInBounds_toArray, List.set_cons_zero, List.set_cons_succ]
            go_upto_region 23 with (fail)
            refine wp_region_U 128 [111, 112, 113, 114, 115, 116, 117, 118, 119, 120, 121, 122, 123, 124, 125, 126] [0, 1, 2, 3, 4, 5, 6, 7, 8, 9, 10, 11, 12, 13, 14, 15] (fun a0 HA0 => ?_)
            have oe7 := ev HA0 7 rfl
            have oe9 := ev HA0 9 rfl
            have oe10 := ev HA0 10 rfl
            have oe11 := ev HA0 11 rfl
            refine QSeq.pure rfl _ (fun E => ex_move rfl (E.v oe7)) ?_
            refine QSeq.go fun act E => ?_
            refine qc_callF (args := #[.pointer (some ⟨x, 0, none⟩)]) rfl (wanted_none rfl) rfl Try.func11 (args1 (E.d 0 0)) (LenB HQ3.out) ?_
            rintro e w2 ⟨rfl, hw2⟩
            obtain rfl : u19_1 = w2 := by first | exact hw2 | exact hw2.symm
            refine ⟨_, rfl, ?_⟩
            clear act E
            refine QSeq.pure rfl _ (fun E => ex_move rfl (E.v oe9)) ?_
            refine QSeq.pure rfl (.bool false) (fun E => ex_binE rfl (E.d 1 1) (E.d 2 0) (guard_ints _ _ _ _ _ _) (run_neq_i _ _ _ Try.underlying3) (congrArg Value.bool (ne_ff (by omega)))) ?_
            refine QSeq.pure rfl _ (fun E => ex_move rfl (E.d 3 0)) ?_
            refine QSeq.pureG rfl (.pointer (some ⟨x, 0, none⟩)) (fun E => ((wanted_of rfl rfl (E.sz 115 (by decide)) (E.d 4 0)).trans rfl)) (fun E => ex_move rfl (E.v oe7)) ?_
            refine QSeq.go fun act E => ?_
            refine qc_callF (args := #[.pointer (some ⟨x, 0, none⟩)]) rfl ((wanted_of rfl rfl (E.sz 115 (by decide)) (E.d 4 1)).trans rfl) rfl Try.func12 (args1 (E.d 5 0)) (SentB HQ3.out) ?_
            rintro e w2 ⟨rfl, hw2⟩
            obtain rfl : u19_1 = w2 := by first | exact hw2 | exact hw2.symm
            refine ⟨_, rfl, ?_⟩
            clear act E
            refine QSeq.pureG rfl (.int .i64 ((s1 : Nat) : Int)) (fun E => ((wanted_of rfl rfl (E.sz 115 (by decide)) (E.d 4 2)).trans rfl)) (fun E => ex_move rfl (E.v oe10)) ?_
            refine QSeq.pureG rfl (.bool false) (fun E => ((wanted_of rfl rfl (E.sz 115 (by decide)) (E.d 4 3)).trans rfl)) (fun E => ex_binE rfl (E.d 6 1) (E.d 7 0) (guard_ints _ _ _ _ _ _) (run_neq_i _ _ _ Try.underlying3) (congrArg Value.bool (ne_ff rfl))) ?_
            refine QSeq.pure rfl (.bool false) (fun E => ex_pick rfl (E.d 4 4) rfl (E.d 8 0)) ?_
            refine QSeq.pure rfl _ (fun E => ex_move rfl (E.d 9 0)) ?_
            refine QSeq.pureG rfl (.pointer (some ⟨x, 0, none⟩)) (fun E => ((wanted_of rfl rfl (E.sz 121 (by decide)) (E.d 10 0)).trans rfl)) (fun E => ex_move rfl (E.v oe7)) ?_
            refine QSeq.go fun act E => ?_
            refine qc_callF (args := #[.pointer (some ⟨x, 0, none⟩)]) rfl ((wanted_of rfl rfl (E.sz 121 (by decide)) (E.d 10 1)).trans rfl) rfl Try.func17 (args1 (E.d 11 0)) (LostB HQ3.out) ?_
            rintro e w2 ⟨rfl, hw2⟩
            obtain rfl : u19_1 = w2 := by first | exact hw2 | exact hw2.symm
            refine ⟨_, rfl, ?_⟩
            clear act E
            refine QSeq.pureG rfl (.int .i64 ((o1 : Nat) : Int)) (fun E => ((wanted_of rfl rfl (E.sz 121 (by decide)) (E.d 10 2)).trans rfl)) (fun E => ex_move rfl (E.v oe11)) ?_
            refine QSeq.pureG rfl (.bool false) (fun E => ((wanted_of rfl rfl (E.sz 121 (by decide)) (E.d 10 3)).trans rfl)) (fun E => ex_binE rfl (E.d 12 1) (E.d 13 0) (guard_ints _ _ _ _ _ _) (run_neq_i _ _ _ Try.underlying3) (congrArg Value.bool (ne_ff rfl))) ?_
            refine QSeq.pure rfl (.bool false) (fun E => ex_pick rfl (E.d 10 4) rfl (E.d 14 0)) ?_
            refine QSeq.nil (t' := [_, _, _, _, _, _, _, _, _, _, _, _, _, _, _, _]) rfl ?_
            obtain rfl := HA0.out
            clear HA0 oe7 oe9 oe10 oe11
            simp only [pz, Act.put, List.setIfInBounds_toArray, List.set_cons_zero, List.set_cons_succ]
            go_upto_region 8 with (fail)
            refine wp_region_U 128 [39, 40, 12] [0, 1, 2] (fun a0 HA0 => ?_)
            have oe12 := ev HA0 12 rfl
            refine QSeq.pure rfl _ (fun E => ex_move rfl (E.y 2 oe12)) ?_
            refine QSeq.pure rfl (.int .i64 ((i + 1 : Nat) : Int)) (fun E => ex_binE rfl (E.d 0 0) rfl (guard_ints _ _ _ _ _ _) (run_add_i _ _ Try.underlying3) (congrArg (Value.int .i64) (i64_eq (b := ((i + 1 : Nat) : Int)) (by omega) (by omega) (by omega)))) ?_
            refine QSeq.pure rfl _ (fun E => ex_assign rfl (E.d 1 0)) ?_
            refine QSeq.nil (t' := [_, _, _]) rfl ?_
            obtain rfl := HA0.out
            clear HA0 oe12
            simp only [pz, Act.put, List.setIfInBounds_toArray, List.set_cons_zero, List.set_cons_succ]
            go_wp2
            go_roundw
            case rel => exact ⟨i + 1, s1, o1, l3, (by first | rfl | go_num | ((try dsimp only); go_num)), rfl, rfl, rfl, by omega, by omega, by omega, by omega, hP3, by omega, (HQ3.out.widen (R' := fun k => New w u19_1 k) (by intro k h1; rcases h1 with h1 | h1 <;> ((try dsimp only at h1 ⊢); unfold New at *; omega))), ((K2.out.mod Cx6.out (by intro k h1 h2; omega)).mod Cx31.out (by intro k h1 h2; omega)), ((K3.out.mod Cx6.out (by intro k h1 h2; omega)).mod Cx31.out (by intro k h1 h2; omega)), ((K4.out.trans Cx6.out (by intro k h1 h2; omega)).trans Cx31.out (by intro k h1 h2; omega))⟩
            case measure => simp [intOf]; omega
    · obtain rfl : pb7 = false := HB7.out.trans (by rw [Bool.eq_false_iff]; intro h; simp only [Bool.and_eq_true, decide_eq_true_eq] at h; omega)
      go_upto_region 25 with (fail)
      refine wp_region_U 128 [127, 6] [0, 1] (fun a0 HA0 => ?_)
      refine QSeq.call rfl rfl Try.func13 (wakes23 _) (fun E => args0) ?_
      rintro e u25_0 ⟨rfl, hm⟩
      refine ⟨_, rfl, ?_⟩
      have zu25_0 := hm.size
      have Cx32 := hid (show Mod (fun _ => False) wl u25_0 from hm)
      clear hm
      refine QSeq.pure rfl _ (fun E => ex_assign rfl (E.d 0 0)) ?_
      refine QSeq.nil (t' := [_, _]) rfl ?_
      obtain rfl := HA0.out
      clear HA0
      simp only [pz, Act.put, List.setIfInBounds_toArray, List.set_cons_zero, List.set_cons_succ]
      go_wp2
      go_ret
      exact ⟨rfl, (K4.out.trans Cx32.out (fun _ _ h => h.elim))⟩
end Go.Proofs.Ytekbmpjdombedaa

namespace Go.Proofs.Ytekbmpjdombedaa.netFull
open Go Go.RowKit Go.Gv Go.ChangeShapes Go.WideShapes Go.ChangeAt
open Go.ChangeMaps (open_string shut_string)

theorem own : ownKnob Try.prog.godebug = none := by kernel_rfl
theorem laidOut : laidOutB Try.prog = true := by kernel_rfl

theorem lifted (os : Os) (started : os.Started) (H : Type) (enc : TypeId × Value → H) :
    ReturnsInHanded {} Try.checked os 5 .any (Rows.netFullSpec.pre6 enc Try.prog Try.f5 Rows.netFullRow.domain false) (Rows.netFullSpec.post enc Try.prog Try.f5 false true false false) := by
  refine returnsInHanded_of_change (C := Try.checked) own started (by kernel_rfl) Try.func5
    (ChangeSpec.witness6 (enc := enc) (C := Try.checked) false ⟨#[], #[.int .i64 0, .slice none 0 0, .slice none 0 0], []⟩ 8 (by kernel_rfl) (by kernel_rfl) (by kernel_rfl) (by kernel_rfl)) ?_
  intro W base args ds gs before hval0 hW hcnd _
  have hval : ∀ (j : Nat) t v, Try.f5.params[j]? = some t → args[j]? = some v → Value.okWide Try.prog W .any base t v := hval0
  have hW' := hW
  obtain ⟨p, q, hA0, hV, rfl, hfz, hnd⟩ := hW
  have hA : DataW.TrodAll enc Try.prog W 0 (fun _ => true) true Try.f5.params.toList args.toList ds p := hA0
  rw [Try.params5] at hA hval
  obtain ⟨v0, vs0, d0, ds0, p0, q0, hargs, rfl, rfl, h0, r0⟩ := trodAll_cons hA
  obtain ⟨v1, vs1, d1, ds1, p1, q1, rfl, rfl, rfl, h1, r1⟩ := trodAll_cons r0
  obtain ⟨v2, vs2, d2, ds2, p2, q2, rfl, rfl, rfl, h2, r2⟩ := trodAll_cons r1
  obtain ⟨rfl, rfl, rfl⟩ := trodAll_nil r2
  obtain rfl : args = #[v0, v1, v2] := by cases args; simp_all
  obtain ⟨rfl, rfl⟩ := trodVars_none hV
  have k0 := h0
  have lt0 : ∀ x ∈ p0, x.block < W.heap.size := by obtain ⟨m, hm⟩ := k0; exact DataW.trod_lt m _ _ _ hm
  have k1 := h1
  have lt1 : ∀ x ∈ p1, x.block < W.heap.size := by obtain ⟨m, hm⟩ := k1; exact DataW.trod_lt m _ _ _ hm
  have k2 := h2
  have lt2 : ∀ x ∈ p2, x.block < W.heap.size := by obtain ⟨m, hm⟩ := k2; exact DataW.trod_lt m _ _ _ hm
  obtain ⟨a0, rfl, rfl, rfl, w0⟩ := open_int Try.underlying3 (hval 0 3 v0 rfl rfl) h0
  obtain ⟨l1, e1⟩ := slice_arg reads_int Try.underlying22 (by kernel_rfl) k1 (hval 1 22 v1 rfl rfl)
  obtain ⟨l2, e2⟩ := slice_arg reads_bool Try.underlying75 (by kernel_rfl) k2 (hval 2 75 v2 rfl rfl)
  clear hA0 hval0
  refine (NetFull_walk a0 l1 l2 v1 v2 W (i64_bd w0) e1 e2).mono fun e W' ⟨he, hmod⟩ => ?_
  subst he
  have bel : Below W.heap.size W W' := hmod.below (Nat.le_refl _) (fun _ _ => id)
  exact ⟨_, rfl, _, _, _, [], _, [], hW', trodAll_mk1 (shut_bool Try.underlying4 _), (trodAll_cons_mk (Below.trod laidOut (by kernel_rfl) (of_decide_eq_true (by kernel_rfl)) k0 bel lt0) (trodAll_cons_mk (Below.trod laidOut (by kernel_rfl) (of_decide_eq_true (by kernel_rfl)) k1 bel lt1) (trodAll_cons_mk (Below.trod laidOut (by kernel_rfl) (of_decide_eq_true (by kernel_rfl)) k2 bel lt2) trodAll_mk0))), rfl, bel.frame _, fun h => by cases h⟩

theorem over : Rows.netFullRow.holds Try.pinned (OpenSpec.ofChange Rows.netFullSpec) :=
  OpenClaim.holds_of_wide 5 Try.f5 rfl rfl rfl rfl rfl rfl rfl ⟨rfl, rfl, rfl, rfl, rfl⟩ rfl rfl rfl rfl rfl (by kernel_rfl) Try.func5 (by kernel_rfl)
    (of_decide_eq_true (by kernel_rfl)) (by unfold Func.isWrapper; first | (rw [if_pos (by decide +kernel)]; kernel_rfl) | (rw [if_neg (by decide +kernel)]; exact ⟨rfl, rfl⟩))
    (fun os started H enc _ => lifted os started H enc)

theorem proved : Rows.NetFullSaid := over
end Go.Proofs.Ytekbmpjdombedaa.netFull
