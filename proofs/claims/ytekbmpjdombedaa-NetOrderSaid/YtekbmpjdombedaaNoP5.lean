/- NetOrder: taken from the front messages come as they were sent; all that was put is there once, but what was taken: for every list of kinds and every list of places the law returns true. No condition. -/
import Derived.Test.YtekbmpjdombedaaNoP4
import Derived.ProofKit
import Derived.OpenShut
import Derived.ChangeOld
set_option maxRecDepth 100000
set_option linter.unusedVariables false
/- NetOrder: the walk. -/
namespace Go.Proofs.Ytekbmpjdombedaa
open Go Go.RowKit Go.Gv


/-- a message that was sent: its kind, and which one it is -/
def ordM (ks : List Int) (q : Nat) : Mg := mgk (ks.getD q 0) ((q : Nat) : Int)
theorem ord_cp {ks : List Int} {L : List Nat} : ∀ m ∈ L.map (ordM ks), cpMg m := fun m hm => by obtain ⟨q, -, rfl⟩ := List.mem_map.1 hm; exact mgk_cp _ _
theorem ord_snoc (ks : List Int) (L : List Nat) (q : Nat) (d : Int) (hd : ks.getD q 0 = d) : L.map (ordM ks) ++ [mgk d ((q : Nat) : Int)] = (L ++ [q]).map (ordM ks) := by rw [List.map_append]; simp only [List.map_cons, List.map_nil, ordM, hd]
theorem ord_erase (ks : List Int) (L : List Nat) (k : Nat) : (L.map (ordM ks)).eraseIdx k = (L.take k ++ L.drop (k + 1)).map (ordM ks) := by rw [List.eraseIdx_eq_take_drop_succ, List.map_append, List.map_take, List.map_drop]
theorem ord_tail (ks : List Int) (L : List Nat) (j : Nat) : ((L.drop j).map (ordM ks)).eraseIdx 0 = (L.drop (j + 1)).map (ordM ks) := by rw [List.eraseIdx_zero, ← List.map_tail, List.tail_drop]
theorem ord_head (ks : List Int) (L : List Nat) (j : Nat) (hj : j < L.length) (h : 0 < ((L.drop j).map (ordM ks)).length) : ((L.drop j).map (ordM ks))[0] = ordM ks L[j] := by simp
set_option maxHeartbeats 16000000 in
theorem NetOrder_walk (ks ts : List Int) (vk vt : Value) (w : World) (hk : RdS InR (fun k => k < w.heap.size) w vk ks) (ht : RdS InR (fun k => k < w.heap.size) w vt ts) : Calls Try.prog 3 #[vk, vt] w fun e w' => e = .returned (.bool true) ∧ Mod (fun _ => False) w w' := by
 obtain ⟨ak, capk, rfl⟩ := hk.shape
 obtain ⟨at_, capt, rfl⟩ := ht.shape
 have hkm : ks.length ≤ 9223372036854775807 := by rw [← maxLen_val]; exact hk.bd
 have HKS := Lib.hid hk
 have HTS := Lib.hid ht
 clear hk ht
 go_enter Try.func3, Try.ntmps3
 go_upto_region 1 with (fail)
 have HM0 := hid (Mod.refl (fun _ => False) w)
 go_upto_region 1 with (fail)
 refine wp_region_U 157 [19, 18, 20, 21, 5, 6] [0, 1, 2, 3, 4, 5] (fun a0 HA0 => ?_)
 refine QSeq.call rfl rfl Try.func7 (NNew_Q (mo := 100) (by decide) _) (fun E => args1 rfl) ?_
 rintro e u1_0 ⟨x, rfl, qnt, hm⟩
 refine ⟨_, rfl, ?_⟩
 have Hx1 := hid qnt
 have zu1_0 := hm.size
 have Cx2 := hid (show Mod (fun _ => False) w u1_0 from hm)
 clear hm
 clear qnt
 refine QSeq.pure rfl _ (fun E => ex_move rfl (E.d 0 0)) ?_
 refine QSeq.pure rfl (.pointer (some ⟨x, 0, none⟩)) (fun E => ex_extract rfl (E.d 1 0) rfl) ?_
 refine QSeq.pure rfl (.int .i64 0) (fun E => ex_extract rfl (E.d 1 1) rfl) ?_
 refine QSeq.pure rfl _ (fun E => ex_assign rfl (E.d 2 1)) ?_
 refine QSeq.pure rfl _ (fun E => ex_assign rfl (E.d 3 1)) ?_
 refine QSeq.nil (t' := [_, _, _, _, _, _]) rfl ?_
 obtain rfl := HA0.out
 clear HA0
 simp only [pz, Act.put, List.setIfInBounds_toArray, List.set_cons_zero, List.set_cons_succ]
 go_upto_region 2 with (fail)
 refine wp_region_U 157 [22, 23, 24, 25, 26, 27] [0, 1, 2, 3, 4, 5] (fun a0 HA0 => ?_)
 have oe5 := ev HA0 5 rfl
 have oe6 := ev HA0 6 rfl
 refine QSeq.pure rfl _ (fun E => ex_move rfl (E.v oe6)) ?_
 refine QSeq.pure rfl (.bool false) (fun E => ex_binE rfl (E.d 0 0) rfl (guard_ints _ _ _ _ _ _) (run_neq_i _ _ _ Try.underlying24) (congrArg Value.bool (show _ = false from rfl))) ?_
 refine QSeq.pure rfl _ (fun E => ex_move rfl (E.d 1 0)) ?_
 refine QSeq.pureG rfl (.pointer (some ⟨x, 0, none⟩)) (fun E => ((wanted_of rfl rfl (E.sz 24 (by decide)) (E.d 2 0)).trans rfl)) (fun E => ex_move rfl (E.v oe5)) ?_
 refine QSeq.pureG rfl (.bool false) (fun E => ((wanted_of rfl rfl (E.sz 24 (by decide)) (E.d 2 1)).trans rfl)) (fun E => ex_bin rfl (E.d 3 0) rfl (guard_ptr _ _ _ _ _ _ _) (run_eql_nil _ Try.underlying23 (by kernel_rfl) _)) ?_
 refine QSeq.pure rfl (.bool false) (fun E => ex_pick rfl (E.d 2 2) rfl (E.d 4 0)) ?_
 refine QSeq.nil (t' := [_, _, _, _, _, _]) rfl ?_
 obtain rfl := HA0.out
 clear HA0 oe5 oe6
 simp only [pz, Act.put, List.setIfInBounds_toArray, List.set_cons_zero, List.set_cons_succ]
 go_upto_region 4 with (fail)
 refine wp_region_U 157 [7] [0] (fun a0 HA0 => ?_)
 refine QSeq.pure rfl (.slice none 0 0) (fun E => ex_assign rfl rfl) ?_
 refine QSeq.nil (t' := [_]) rfl ?_
 obtain rfl := HA0.out
 clear HA0
 simp only [pz, Act.put, List.setIfInBounds_toArray, List.set_cons_zero, List.set_cons_succ]
 go_upto_region 5 with (fail)
 refine wp_region_U 157 [8] [0] (fun a0 HA0 => ?_)
 refine QSeq.pure rfl (.int .i64 0) (fun E => ex_assign rfl rfl) ?_
 refine QSeq.nil (t' := [_]) rfl ?_
 obtain rfl := HA0.out
 clear HA0
 simp only [pz, Act.put, List.setIfInBounds_toArray, List.set_cons_zero, List.set_cons_succ]
 go_wp2
 go_loopw [7, 8] (fun tl ti wr => ∃ (i : Nat) (L : List Nat) (v : Value) (P1 P2 : Nat → Prop), tl = v ∧ ti = .int .i64 ((i : Nat) : Int) ∧ i ≤ 40 ∧ i ≤ ks.length ∧ L.length = i ∧ (∀ q ∈ L, q < i) ∧ u1_0.heap.size ≤ wr.heap.size ∧ NtR P1 wr x 100 (L.map (ordM ks)) ((i : Nat) : Int) 0 ∧ OwS NaR 3 P2 (fun _ => False) wr v L ∧ (∀ k, P1 k → P2 k → False) ∧ (∀ k, P1 k → w.heap.size ≤ k ∧ k < wr.heap.size) ∧ (∀ k, P2 k → w.heap.size ≤ k ∧ k < wr.heap.size) ∧ RdS InR (fun k => k < w.heap.size) wr (.slice ak ks.length capk) ks ∧ RdS InR (fun k => k < w.heap.size) wr (.slice at_ ts.length capt) ts ∧ Mod (fun _ => False) w wr) (fun _ ti _ => 40 - (intOf ti).toNat)
 case atStart => exact ⟨0, [], _, (fun k => (New w u1_0 k)), (fun _ => False), rfl, rfl, by omega, by omega, rfl, (fun q hq => by cases hq), Nat.le_refl _, Hx1.out, OwS.nil _ _ _ _ _, (fun _ _ h => h), (by intro k h1; first | omega), (fun _ h => h.elim), (HKS.out.mod Cx2.out (fun _ _ h => h)), (HTS.out.mod Cx2.out (fun _ _ h => h)), (HM0.out.trans Cx2.out (fun _ _ h => h.elim))⟩
 case round =>
  obtain ⟨i, L, v, P1, P2, rfl, rfl, hi40, hik, hLl, hLq, hz, hn, ho, hd, hb1, hb2, hk, ht, hm⟩ := hrel
  clear HKS HTS HM0 Hx1
  obtain ⟨wl, rfl⟩ : ∃ x, x = wr := ⟨_, rfl⟩
  obtain ⟨aolwl, caplwl, rfl⟩ := ho.shape
  have Kwln := Lib.hid hn
  have Kwlo := Lib.hid ho
  have Kwld := Lib.hid hd
  have Kwlb1 := Lib.hid hb1
  have Kwlb2 := Lib.hid hb2
  have Kwlk := Lib.hid hk
  have Kwlt := Lib.hid ht
  have Kwlm := Lib.hid hm
  clear hn ho hd hb1 hb2 hk ht hm
  go_upto_region 6 with (fail)
  refine wp_region_U 157 [28, 29, 30, 31, 32, 33, 34, 35] [0, 1, 2, 3, 4, 5, 6, 7] (fun a0 HA0 => ?_)
  have oe0 := ev HA0 0 rfl
  have oe8 := ev HA0 8 rfl
  refine QSeq.pure rfl _ (fun E => ex_move rfl (E.v oe8)) ?_
  refine QSeq.pure rfl _ (fun E => ex_move rfl (E.v oe0)) ?_
  refine QSeq.pure rfl (.int .i64 ks.length) (fun E => ex_lenS rfl (E.d 1 0) Try.underlying22) ?_
  refine QSeq.pure rfl (.bool (decide (((i : Nat) : Int) < ((ks.length : Nat) : Int)))) (fun E => ex_bin rfl (E.d 0 2) (E.d 2 0) (guard_ints _ _ _ _ _ _) (run_lss_i _ _ _ Try.underlying3)) ?_
  refine QSeq.pure rfl _ (fun E => ex_move rfl (E.d 3 0)) ?_
  refine QSeq.may (b := (decide (((i : Nat) : Int) < ((ks.length : Nat) : Int)))) rfl (.int .i64 ((i : Nat) : Int)) (fun E => ((wanted_of rfl rfl (E.sz 32 (by decide)) (E.d 4 0)).trans (beq_t _))) (fun E hb => ex_move rfl (E.v oe8)) ?_
  intro v6_5 hw
  have hv6_5 := hid hw
  clear hw
  refine QSeq.may (b := (decide (((i : Nat) : Int) < ((ks.length : Nat) : Int)))) rfl (.bool (decide (((i : Nat) : Int) < 40))) (fun E => ((wanted_of rfl rfl (E.sz 32 (by decide)) (E.d 4 1)).trans (beq_t _))) (fun E hb => ex_bin rfl ((E.q 5 0 hv6_5.out).1 hb) rfl (guard_ints _ _ _ _ _ _) (run_lss_i _ _ _ Try.underlying3)) ?_
  intro v6_6 hw
  have hv6_6 := hid hw
  clear hw
  obtain ⟨pb7, hb7⟩ : ∃ b : Bool, b = ((decide (((i : Nat) : Int) < ((ks.length : Nat) : Int))) && (decide (((i : Nat) : Int) < 40))) := ⟨_, rfl⟩
  have HB7 := hid hb7
  clear hb7
  refine QSeq.pure rfl (.bool pb7) (fun E => ex_pickE rfl (E.d 4 2) rfl rfl ((and_val fun hb => (E.q 6 0 hv6_6.out).1 hb).trans (congrArg Value.bool HB7.out.symm))) ?_
  clear hv6_5 hv6_6
  refine QSeq.nil (t' := [_, _, _, _, _, _, _, _]) rfl ?_
  obtain rfl := HA0.out
  clear HA0 oe0 oe8
  simp only [pz, Act.put, List.setIfInBounds_toArray, List.set_cons_zero, List.set_cons_succ]
  by_cases hc : i < ks.length ∧ i < 40
  ·obtain ⟨hc1, hc2⟩ := hc
   obtain rfl : pb7 = true := HB7.out.trans (by simp only [Bool.and_eq_true, decide_eq_true_eq]; omega)
   obtain ⟨d, hdd0⟩ : ∃ d, d = ks[i] := ⟨_, rfl⟩
   have hgd : ks.getD i 0 = d := by rw [hdd0]; simp [hc1]
   have HGD := Lib.hid hgd
   obtain ⟨g1, o1, cs1, ea1, hrg, hrd, hcs⟩ := Kwlk.out.at hc1
   obtain ⟨rfl, hdd⟩ := hrd
   rw [← hdd0] at hcs hdd
   subst ea1
   have HAT1 := hid (show CellsAt (fun k => k < w.heap.size) wl g1 (o1 + i * 1) [.int .i64 d] from ⟨hrg, hcs⟩)
   clear hrg hcs hdd0 hgd
   go_upto_region 8 with (fail)
   refine wp_region_U 157 [38, 39, 40, 41, 42, 43, 44, 45, 46, 47] [0, 1, 2, 3, 4, 5, 6, 7, 8, 9] (fun a0 HA0 => ?_)
   have oe0 := ev HA0 0 rfl
   have oe5 := ev HA0 5 rfl
   have oe8 := ev HA0 8 rfl
   refine QSeq.pure rfl _ (fun E => ex_move rfl (E.v oe5)) ?_
   refine QSeq.pure rfl _ (fun E => ex_move rfl (E.v oe0)) ?_
   refine QSeq.pure rfl _ (fun E => ex_move rfl (E.v oe8)) ?_
   refine QSeq.pure rfl (.pointer (some ⟨g1, o1 + i * 1, none⟩)) (fun E => ex_idxS (i := i) (s := 1) rfl Try.underlying22 (by kernel_rfl) (E.d 1 1) (E.d 2 0) (by omega)) ?_
   refine QSeq.pure rfl (.int .i64 d) (fun E => ex_load1 rfl Try.underlying3 rfl (E.d 3 0) ((HAT1.out).2 0 _ rfl)) ?_
   refine QSeq.pure rfl _ (fun E => ex_move rfl (E.v oe8)) ?_
   refine QSeq.go fun act E => ?_
   refine qc_run rfl (wanted_none rfl) (v := .agg ((mgkC d ((i : Nat) : Int)) : List Value).toArray) (ex_build rfl (z := (mg0C 0 0 0)) (places := [(0, 1), (1, 1), (2, 1), (3, 37), (40, 38), (78, 38), (116, 38), (154, 1), (155, 1), (156, 1), (157, 6), (163, 11), (174, 38), (212, 1), (213, 35), (248, 34), (282, 4), (286, 1), (287, 8)]) (by kernel_rfl) (parts := [(0, .int .i64 d), (13, .int .i64 ((i : Nat) : Int))]) (by simp only [List.map_toArray, List.map_cons, List.map_nil, show act.eval (.tmp 42) = .int .i64 d from (E.d 4 1), show act.eval (.tmp 43) = .int .i64 ((i : Nat) : Int) from (E.d 5 0)]; try rfl) (r := (mgkC d ((i : Nat) : Int))) (by exact (laid_segs (ns := mgN) rfl [(0, .int .i64 d), (13, .int .i64 ((i : Nat) : Int))] (zMg.segs (zCe.cells zS) (zPm.cells zS) (zPr.cells zS zS zS) (zOp.cells zS) (zDc.cells zS zS zS zS)) rfl ⟨rfl, rfl, trivial⟩).trans rfl)) ?_
   clear act E
   refine QSeq.go fun act E => ?_
   refine qc_buildS (e := 67) (cs := (mgkC d ((i : Nat) : Int))) (zc := [.int .i64 0, .int .i64 0, .int .i64 0, .int .i64 0, .int .i64 0, .int .u8 0, .int .u8 0, .int .u8 0, .int .u8 0, .int .u8 0, .int .u8 0, .int .u8 0, .int .u8 0, .int .u8 0, .int .u8 0, .int .u8 0, .int .u8 0, .int .u8 0, .int .u8 0, .int .u8 0, .int .u8 0, .int .u8 0, .int .u8 0, .int .u8 0, .int .u8 0, .int .u8 0, .int .u8 0, .int .u8 0, .int .u8 0, .int .u8 0, .int .u8 0, .int .u8 0, .int .u8 0, .int .u8 0, .int .u8 0, .int .u8 0, .int .u8 0, .int .i64 0, .int .i64 0, .int .i64 0, .int .i64 0, .int .i64 0, .int .i64 0, .int .u8 0, .int .u8 0, .int .u8 0, .int .u8 0, .int .u8 0, .int .u8 0, .int .u8 0, .int .u8 0, .int .u8 0, .int .u8 0, .int .u8 0, .int .u8 0, .int .u8 0, .int .u8 0, .int .u8 0, .int .u8 0, .int .u8 0, .int .u8 0, .int .u8 0, .int .u8 0, .int .u8 0, .int .u8 0, .int .u8 0, .int .u8 0, .int .u8 0, .int .u8 0, .int .u8 0, .int .u8 0, .int .u8 0, .int .u8 0, .int .u8 0, .int .u8 0, .int .u64 0, .int .i64 0, .int .i64 0, .int .i64 0, .int .i64 0, .int .u8 0, .int .u8 0, .int .u8 0, .int .u8 0, .int .u8 0, .int .u8 0, .int .u8 0, .int .u8 0, .int .u8 0, .int .u8 0, .int .u8 0, .int .u8 0, .int .u8 0, .int .u8 0, .int .u8 0, .int .u8 0, .int .u8 0, .int .u8 0, .int .u8 0, .int .u8 0, .int .u8 0, .int .u8 0, .int .u8 0, .int .u8 0, .int .u8 0, .int .u8 0, .int .u8 0, .int .u8 0, .int .u8 0, .int .u8 0, .int .u8 0, .int .u8 0, .int .i64 0, .int .i64 0, .int .i64 0, .slice none 0 0, .int .i64 0, .int .i64 0, .int .i64 0, .int .u8 0, .int .u8 0, .int .u8 0, .int .u8 0, .int .u8 0, .int .u8 0, .int .u8 0, .int .u8 0, .int .u8 0, .int .u8 0, .int .u8 0, .int .u8 0, .int .u8 0, .int .u8 0, .int .u8 0, .int .u8 0, .int .u8 0, .int .u8 0, .int .u8 0, .int .u8 0, .int .u8 0, .int .u8 0, .int .u8 0, .int .u8 0, .int .u8 0, .int .u8 0, .int .u8 0, .int .u8 0, .int .u8 0, .int .u8 0, .int .u8 0, .int .u8 0, .int .u64 0, .int .i64 0, .int .i64 0, .int .i64 0, .int .i64 0, .int .u64 0, .int .i64 0, .int .i64 0, .int .u64 0, .slice none 0 0, .int .i64 0, .int .i64 0, .int .i64 0, .int .i64 0, .int .i64 0, .int .i64 0, .int .i64 0, .int .u64 0, .slice none 0 0, .slice none 0 0, .slice none 0 0, .int .i64 0, .int .i64 0, .int .i64 0, .int .i64 0, .int .i64 0, .int .i64 0, .int .u8 0, .int .u8 0, .int .u8 0, .int .u8 0, .int .u8 0, .int .u8 0, .int .u8 0, .int .u8 0, .int .u8 0, .int .u8 0, .int .u8 0, .int .u8 0, .int .u8 0, .int .u8 0, .int .u8 0, .int .u8 0, .int .u8 0, .int .u8 0, .int .u8 0, .int .u8 0, .int .u8 0, .int .u8 0, .int .u8 0, .int .u8 0, .int .u8 0, .int .u8 0, .int .u8 0, .int .u8 0, .int .u8 0, .int .u8 0, .int .u8 0, .int .u8 0, .int .i64 0, .int .i64 0, .int .i64 0, .int .i64 0, .int .i64 0, .int .u8 0, .int .u8 0, .int .u8 0, .int .u8 0, .int .u8 0, .int .u8 0, .int .u8 0, .int .u8 0, .int .u8 0, .int .u8 0, .int .u8 0, .int .u8 0, .int .u8 0, .int .u8 0, .int .u8 0, .int .u8 0, .int .u8 0, .int .u8 0, .int .u8 0, .int .u8 0, .int .u8 0, .int .u8 0, .int .u8 0, .int .u8 0, .int .u8 0, .int .u8 0, .int .u8 0, .int .u8 0, .int .u8 0, .int .u8 0, .int .u8 0, .int .u8 0, .int .u64 0, .int .i64 0, .slice none 0 0, .int .u8 0, .int .u8 0, .int .u8 0, .int .u8 0, .int .u8 0, .int .u8 0, .int .u8 0, .int .u8 0, .int .u8 0, .int .u8 0, .int .u8 0, .int .u8 0, .int .u8 0, .int .u8 0, .int .u8 0, .int .u8 0, .int .u8 0, .int .u8 0, .int .u8 0, .int .u8 0, .int .u8 0, .int .u8 0, .int .u8 0, .int .u8 0, .int .u8 0, .int .u8 0, .int .u8 0, .int .u8 0, .int .u8 0, .int .u8 0, .int .u8 0, .int .u8 0, .int .i64 0, .int .i64 0, .int .i64 0, .int .i64 0, .string ByteArray.empty, .int .i64 0, .int .i64 0, .int .i64 0, .int .u64 0, .slice none 0 0, .slice none 0 0, .slice none 0 0, .slice none 0 0]) (sz := 295) rfl (wanted_none rfl) rfl Try.underlying76 (by kernel_rfl) rfl (by decide) (by decide) (E.d 6 0) rfl ?_
   intro u8_7 qrow hm
   have zl8_7 := qrow.lt
   have Hx3 := hid qrow
   have zu8_7 := hm.size
   have Cx4 := hid (show Mod (fun _ => False) wl u8_7 from hm)
   clear hm
   clear act E qrow
   refine QSeq.call rfl rfl Try.func8 (SendB (p := 1) (R2 := (fun k => (k = wl.heap.size))) (ms := [mgk d ((i : Nat) : Int)]) (l := (L.map (ordM ks))) (Kwln.out.mod Cx4.out (fun _ _ h => h)) (RdS.single Hx3.out (mgk_rd hdd (by unfold I64; omega) _ _) rfl) (by intro k h; omega) (by intro k h1 h2; have hb := Kwlb1.out k h2; omega) (by intro m hm; rw [List.mem_singleton] at hm; rw [hm]; exact mgk_cp _ _) (by simp only [List.length_cons, List.length_nil]; omega) (by rw [List.length_map]; omega) (by decide) (by omega) (by omega) (by simp only [List.length_cons, List.length_nil, List.length_map]; omega)) (fun E => args2 (E.d 0 7) (E.d 7 0)) ?_
   rintro e u8_8 ⟨rfl, qnt, hm⟩
   refine ⟨_, rfl, ?_⟩
   have Hx5 := hid (qnt.widen (R' := (fun k => (P1 k) ∨ (New u8_7 u8_8 k))) (fun _ h => h))
   have zu8_8 := hm.size
   have HMu8_8 := hid hm
   have Cx6 := hid (Mod.goS (S' := (fun k => (P1 k))) Cx4.out hm (fun _ h => h.elim) (by intro k h0 h2; exact h2))
   clear hm Cx4
   clear qnt Kwln
   refine QSeq.pure rfl (.bool false) (fun E => ex_binE rfl (E.d 8 0) rfl (guard_ints _ _ _ _ _ _) (run_neq_i _ _ _ Try.underlying3) (congrArg Value.bool (ne_ff rfl))) ?_
   have Hx7 := hid (Hx3.out.mod HMu8_8.out (by intro h2; first | omega | (have hb := Kwlb1.out _ h2; omega)))
   clear Hx3 HMu8_8
   refine QSeq.nil (t' := [_, _, _, _, _, _, _, _, _, _]) rfl ?_
   obtain rfl := HA0.out
   clear HA0 oe0 oe5 oe8
   simp only [pz, Act.put, List.setIfInBounds_toArray, List.set_cons_zero, List.set_cons_succ]
   clear Hx7
   clear HAT1
   have HQN := hid (show NtR (fun k => (P1 k) ∨ (New u8_7 u8_8 k)) u8_8 x 100 ((L ++ [i]).map (ordM ks)) ((i + 1 : Nat) : Int) 0 from (by have h := Hx5.out; rw [show List.take 1 [mgk d ((i : Nat) : Int)] = [mgk d ((i : Nat) : Int)] from rfl, ord_snoc ks L i d HGD.out, show ((i : Nat) : Int) + ((1 : Nat) : Int) = ((i + 1 : Nat) : Int) by omega] at h; exact h))
   clear Hx5
   go_upto_region 10 with (fail)
   refine wp_region_U 157 [48, 49, 50, 51, 7] [0, 1, 2, 3, 4] (fun a0 HA0 => ?_)
   have oe7 := ev HA0 7 rfl
   have oe8 := ev HA0 8 rfl
   refine QSeq.pure rfl _ (fun E => ex_move rfl (E.y 4 oe7)) ?_
   refine QSeq.pure rfl _ (fun E => ex_move rfl (E.v oe8)) ?_
   refine QSeq.go fun act E => ?_
   refine qc_build1 (z := .int .i64 0) rfl (wanted_none rfl) rfl Try.underlying22 (by kernel_rfl) (E.d 1 0) rfl ?_
   intro u10_2 qrow hm
   have zlr2 := qrow.lt
   have Hx8 := hid qrow
   have zu10_2 := hm.size
   have Cx9 := hid (show Mod (fun _ => False) u8_8 u10_2 from hm)
   clear hm
   clear act E qrow
   refine QSeq.go fun act E => ?_
   refine qc_appF (A := NaR) NaR_flat (e := 3) (E := fun _ => False) rfl (wanted_none rfl) rfl (.int .i64 0) 8 Try.underlying22 (by kernel_rfl) rfl (by intro u hu; simp [Value.cells] at hu; subst hu; rfl) (E.d 0 2) (E.d 2 0) (((Kwlo.out.mod Cx6.out (by intro k h1 h2; first | omega | (have hb := Kwlb2.out k h1; omega) | (have hb := Kwlb1.out k h2; omega) | exact Kwld.out k h1 h2 | exact Kwld.out k h2 h1 | (have hb := Kwlb2.out k h1; have hb2 := Kwlb1.out k h2; omega)) (by intro k h1 h2; have hb := Kwlb1.out k h2; omega)).mod Cx9.out (fun _ _ h => h) (fun _ _ h => h))) (RdS.one1 (R := (fun k => (k = u8_8.heap.size))) (n := i) Hx8.out (by omega) rfl) (by simp only [List.length_cons, List.length_nil]; omega) (by rw [maxLen_val]; simp only [List.length_cons, List.length_nil]; omega) ?_
   intro ao5 cap5 u10_3 qleft hm
   have Hx10 := hid (qleft.widen (R' := (fun k => (P2 k) ∨ (New u10_2 u10_3 k))) (E' := fun _ => False) (fun _ h => h) (fun _ h => h))
   have zu10_3 := hm.size
   have HMu10_3 := hid hm
   have Cx11 := hid (Mod.goS (S' := (fun k => (P2 k))) Cx9.out hm (fun _ h => h.elim) (by intro k h0 h2; exact h2))
   clear hm Cx9
   clear act E qleft Kwlo
   refine QSeq.pure rfl _ (fun E => ex_assign rfl (E.d 3 0)) ?_
   have Hx12 := hid (Hx8.out.mod HMu10_3.out (by intro h2; first | omega | (have hb := Kwlb2.out _ h2; omega)))
   clear Hx8 HMu10_3
   refine QSeq.nil (t' := [_, _, _, _, _]) rfl ?_
   obtain rfl := HA0.out
   clear HA0 oe7 oe8
   simp only [pz, Act.put, List.setIfInBounds_toArray, List.set_cons_zero, List.set_cons_succ]
   clear Hx12
   go_upto_region 7 with (fail)
   refine wp_region_U 157 [36, 37, 8] [0, 1, 2] (fun a0 HA0 => ?_)
   have oe8 := ev HA0 8 rfl
   refine QSeq.pure rfl _ (fun E => ex_move rfl (E.y 2 oe8)) ?_
   refine QSeq.pure rfl (.int .i64 ((i + 1 : Nat) : Int)) (fun E => ex_binE rfl (E.d 0 0) rfl (guard_ints _ _ _ _ _ _) (run_add_i _ _ Try.underlying3) (congrArg (Value.int .i64) (i64_eq (b := ((i + 1 : Nat) : Int)) (by omega) (by omega) (by omega)))) ?_
   refine QSeq.pure rfl _ (fun E => ex_assign rfl (E.d 1 0)) ?_
   refine QSeq.nil (t' := [_, _, _]) rfl ?_
   obtain rfl := HA0.out
   clear HA0 oe8
   simp only [pz, Act.put, List.setIfInBounds_toArray, List.set_cons_zero, List.set_cons_succ]
   go_wp2
   go_roundw
   case rel => exact ⟨i + 1, L ++ [i], _, (fun k => (P1 k) ∨ (New u8_7 u8_8 k)), (fun k => (P2 k) ∨ (New u10_2 u10_3 k)), rfl, rfl, by omega, by omega, by rw [List.length_append, hLl]; rfl, (fun q hq => by rcases List.mem_append.1 hq with hq | hq; (have := hLq q hq; omega); (rw [List.mem_singleton] at hq; omega)), by omega, (HQN.out.mod Cx11.out (by intro k h1 h2; rcases h1 with h1 | h1 <;> first | omega | (have hb := Kwlb1.out k h1; omega) | (have hb := Kwlb2.out k h2; omega) | exact Kwld.out k h1 h2 | exact Kwld.out k h2 h1 | (have hb := Kwlb1.out k h1; have hb2 := Kwlb2.out k h2; omega))), Hx10.out, (by intro k h1 h2; rcases h1 with h1 | h1 <;> rcases h2 with h2 | h2 <;> first | omega | (have hb := Kwlb1.out k h1; omega) | (have hb := Kwlb2.out k h2; omega) | exact Kwld.out k h1 h2 | exact Kwld.out k h2 h1 | (have hb := Kwlb1.out k h1; have hb2 := Kwlb2.out k h2; omega)), (by intro k h1; rcases h1 with h1 | h1 <;> first | omega | (have hb := Kwlb1.out k h1; omega)), (by intro k h1; rcases h1 with h1 | h1 <;> first | omega | (have hb := Kwlb2.out k h1; omega)), ((Kwlk.out.mod Cx6.out (by intro k h1 h2; have hb := Kwlb1.out k h2; omega)).mod Cx11.out (by intro k h1 h2; have hb := Kwlb2.out k h2; omega)), ((Kwlt.out.mod Cx6.out (by intro k h1 h2; have hb := Kwlb1.out k h2; omega)).mod Cx11.out (by intro k h1 h2; have hb := Kwlb2.out k h2; omega)), ((Kwlm.out.trans Cx6.out (by intro k h1 h2; first | exact h2 | omega | (have hb := Kwlb1.out k h2; omega))).trans Cx11.out (by intro k h1 h2; first | exact h2 | omega | (have hb := Kwlb2.out k h2; omega)))⟩
   case measure => simp [intOf]; omega
  ·obtain rfl : pb7 = false := HB7.out.trans (by rw [Bool.eq_false_iff]; intro h; simp only [Bool.and_eq_true, decide_eq_true_eq] at h; omega)
   have HN := hid (show i = min ks.length 40 by omega)
   obtain ⟨n, hn⟩ : ∃ n, n = i := ⟨_, rfl⟩
   rw [← hn] at hi40 hik HN hLq
   have HQN := hid (show NtR (fun k => (P1 k)) wl x 100 (L.map (ordM ks)) ((n : Nat) : Int) 0 from (by rw [hn]; exact Kwln.out))
   clear Kwln
   have hL40 : L.length ≤ 40 := by omega
   clear hLl hc
   go_upto_region 11 with (fail)
   refine wp_region_U 157 [9] [0] (fun a0 HA0 => ?_)
   refine QSeq.pure rfl (.int .i64 0) (fun E => ex_assign rfl rfl) ?_
   refine QSeq.nil (t' := [_]) rfl ?_
   obtain rfl := HA0.out
   clear HA0
   simp only [pz, Act.put, List.setIfInBounds_toArray, List.set_cons_zero, List.set_cons_succ]
   go_wp2
   go_loopw [7, 9] (fun tl tj wr => ∃ (j : Nat) (L : List Nat) (v : Value) (P1 P2 : Nat → Prop), tl = v ∧ tj = .int .i64 ((j : Nat) : Int) ∧ j ≤ 20 ∧ L.length ≤ 40 ∧ (∀ q ∈ L, q < n) ∧ wl.heap.size ≤ wr.heap.size ∧ NtR P1 wr x 100 (L.map (ordM ks)) ((n : Nat) : Int) 0 ∧ OwS NaR 3 P2 (fun _ => False) wr v L ∧ (∀ k, P1 k → P2 k → False) ∧ (∀ k, P1 k → w.heap.size ≤ k ∧ k < wr.heap.size) ∧ (∀ k, P2 k → w.heap.size ≤ k ∧ k < wr.heap.size) ∧ RdS InR (fun k => k < w.heap.size) wr (.slice ak ks.length capk) ks ∧ RdS InR (fun k => k < w.heap.size) wr (.slice at_ ts.length capt) ts ∧ Mod (fun _ => False) w wr) (fun _ tj _ => 20 - (intOf tj).toNat)
   case atStart => exact ⟨0, L, _, (fun k => (P1 k)), (fun k => (P2 k)), rfl, rfl, by omega, hL40, hLq, Nat.le_refl _, HQN.out, Kwlo.out, (by intro k h1 h2; first | omega | (have hb := Kwlb1.out k h1; omega) | (have hb := Kwlb2.out k h2; omega) | exact Kwld.out k h1 h2 | exact Kwld.out k h2 h1 | (have hb := Kwlb1.out k h1; have hb2 := Kwlb2.out k h2; omega)), (by intro k h1; first | omega | (have hb := Kwlb1.out k h1; omega)), (by intro k h1; first | omega | (have hb := Kwlb2.out k h1; omega)), Kwlk.out, Kwlt.out, Kwlm.out⟩
   case round =>
    clear HQN Kwlo Kwlk Kwlt Kwlm hL40 hLq Kwlb1 Kwlb2 Kwld
    obtain ⟨j, L1, v1, P3, P4, rfl, rfl, hj20, hL40, hLq, hz2, hn2, ho, hd, hb1, hb2, hk, ht, hm⟩ := hrel
    have Kwmn := Lib.hid hn2
    clear hn2
    obtain ⟨wm, rfl⟩ : ∃ x, x = wr := ⟨_, rfl⟩
    obtain ⟨aolwm, caplwm, rfl⟩ := ho.shape
    have hcapwm := (OwS.capBd2 ho).2
    have Kwmo := Lib.hid ho
    have Kwmd := Lib.hid hd
    have Kwmb1 := Lib.hid hb1
    have Kwmb2 := Lib.hid hb2
    have Kwmk := Lib.hid hk
    have Kwmt := Lib.hid ht
    have Kwmm := Lib.hid hm
    clear ho hd hb1 hb2 hk ht hm
    go_upto_region 12 with (fail)
    refine wp_region_U 157 [52, 53, 54, 55, 56, 57, 58, 59, 60, 61, 62, 63, 64] [0, 1, 2, 3, 4, 5, 6, 7, 8, 9, 10, 11, 12] (fun a0 HA0 => ?_)
    have oe1 := ev HA0 1 rfl
    have oe7 := ev HA0 7 rfl
    have oe9 := ev HA0 9 rfl
    refine QSeq.pure rfl _ (fun E => ex_move rfl (E.v oe9)) ?_
    refine QSeq.pure rfl _ (fun E => ex_move rfl (E.v oe1)) ?_
    refine QSeq.pure rfl (.int .i64 ts.length) (fun E => ex_lenS rfl (E.d 1 0) Try.underlying22) ?_
    refine QSeq.pure rfl (.bool (decide (((j : Nat) : Int) < ((ts.length : Nat) : Int)))) (fun E => ex_bin rfl (E.d 0 2) (E.d 2 0) (guard_ints _ _ _ _ _ _) (run_lss_i _ _ _ Try.underlying3)) ?_
    refine QSeq.pure rfl _ (fun E => ex_move rfl (E.d 3 0)) ?_
    refine QSeq.may (b := (decide (((j : Nat) : Int) < ((ts.length : Nat) : Int)))) rfl (.int .i64 ((j : Nat) : Int)) (fun E => ((wanted_of rfl rfl (E.sz 56 (by decide)) (E.d 4 0)).trans (beq_t _))) (fun E hb => ex_move rfl (E.v oe9)) ?_
    intro v12_5 hw
    have hv12_5 := hid hw
    clear hw
    refine QSeq.may (b := (decide (((j : Nat) : Int) < ((ts.length : Nat) : Int)))) rfl (.bool (decide (((j : Nat) : Int) < 20))) (fun E => ((wanted_of rfl rfl (E.sz 56 (by decide)) (E.d 4 1)).trans (beq_t _))) (fun E hb => ex_bin rfl ((E.q 5 0 hv12_5.out).1 hb) rfl (guard_ints _ _ _ _ _ _) (run_lss_i _ _ _ Try.underlying3)) ?_
    intro v12_6 hw
    have hv12_6 := hid hw
    clear hw
    obtain ⟨pb7, hb7⟩ : ∃ b : Bool, b = ((decide (((j : Nat) : Int) < ((ts.length : Nat) : Int))) && (decide (((j : Nat) : Int) < 20))) := ⟨_, rfl⟩
    have HB7 := hid hb7
    clear hb7
    refine QSeq.pure rfl (.bool pb7) (fun E => ex_pickE rfl (E.d 4 2) rfl rfl ((and_val fun hb => (E.q 6 0 hv12_6.out).1 hb).trans (congrArg Value.bool HB7.out.symm))) ?_
    refine QSeq.pure rfl _ (fun E => ex_move rfl (E.d 7 0)) ?_
    refine QSeq.may (b := pb7) rfl (.slice aolwm L1.length caplwm) (fun E => ((wanted_of rfl rfl (E.sz 60 (by decide)) (E.d 8 0)).trans (beq_t _))) (fun E hb => ex_move rfl (E.v oe7)) ?_
    intro v12_9 hw
    have hv12_9 := hid hw
    clear hw
    refine QSeq.may (b := pb7) rfl (.int .i64 L1.length) (fun E => ((wanted_of rfl rfl (E.sz 60 (by decide)) (E.d 8 1)).trans (beq_t _))) (fun E hb => ex_lenS rfl ((E.q 9 0 hv12_9.out).1 hb) Try.underlying22) ?_
    intro v12_10 hw
    have hv12_10 := hid hw
    clear hw
    refine QSeq.may (b := pb7) rfl (.bool (decide (0 < ((L1.length : Nat) : Int)))) (fun E => ((wanted_of rfl rfl (E.sz 60 (by decide)) (E.d 8 2)).trans (beq_t _))) (fun E hb => ex_bin rfl ((E.q 10 0 hv12_10.out).1 hb) rfl (guard_ints _ _ _ _ _ _) (run_gtr_i _ _ _ Try.underlying3)) ?_
    intro v12_11 hw
    have hv12_11 := hid hw
    clear hw
    obtain ⟨pb12, hb12⟩ : ∃ b : Bool, b = (pb7 && (decide (0 < ((L1.length : Nat) : Int)))) := ⟨_, rfl⟩
    have HB12 := hid hb12
    clear hb12
    refine QSeq.pure rfl (.bool pb12) (fun E => ex_pickE rfl (E.d 8 3) rfl rfl ((and_val fun hb => (E.q 11 0 hv12_11.out).1 hb).trans (congrArg Value.bool HB12.out.symm))) ?_
    clear hv12_5 hv12_6 hv12_9 hv12_10 hv12_11
    refine QSeq.nil (t' := [_, _, _, _, _, _, _, _, _, _, _, _, _]) rfl ?_
    obtain rfl := HA0.out
    clear HA0 oe1 oe7 oe9
    simp only [pz, Act.put, List.setIfInBounds_toArray, List.set_cons_zero, List.set_cons_succ]
    by_cases hc : j < ts.length ∧ j < 20 ∧ 0 < L1.length
    ·obtain ⟨hc1, hc2, hc3⟩ := hc
     obtain rfl : pb12 = true := HB12.out.trans (by rw [HB7.out]; simp only [Bool.and_eq_true, decide_eq_true_eq]; omega)
     obtain ⟨g1, o1, cs1, ea1, hrg, hrd, hcs⟩ := Kwmt.out.at hc1
     obtain ⟨rfl, hdd⟩ := hrd
     generalize ts[j] = d at hcs hdd
     subst ea1
     have HAT1 := hid (show CellsAt (fun k => k < w.heap.size) wm g1 (o1 + j * 1) [.int .i64 d] from ⟨hrg, hcs⟩)
     clear hrg hcs
     obtain ⟨k, hk, hkl⟩ := within_nat d ((L1.length : Nat) : Int) (by omega)
     have HW := hid (Within_any d ((L1.length : Nat) : Int) (by omega) (by omega) hdd)
     rw [hk] at HW
     clear hk
     have hkL : k < L1.length := by omega
     have hkm2 : k < (L1.map (ordM ks)).length := by rw [List.length_map]; exact hkL
     go_upto_region 14 with (fail)
     refine wp_region_U 157 [67, 68, 69, 70, 71, 72, 73, 10] [0, 1, 2, 3, 4, 5, 6, 7] (fun a0 HA0 => ?_)
     have oe1 := ev HA0 1 rfl
     have oe7 := ev HA0 7 rfl
     have oe9 := ev HA0 9 rfl
     refine QSeq.pure rfl _ (fun E => ex_move rfl (E.v oe1)) ?_
     refine QSeq.pure rfl _ (fun E => ex_move rfl (E.v oe9)) ?_
     refine QSeq.pure rfl (.pointer (some ⟨g1, o1 + j * 1, none⟩)) (fun E => ex_idxS (i := j) (s := 1) rfl Try.underlying22 (by kernel_rfl) (E.d 0 1) (E.d 1 0) (by omega)) ?_
     refine QSeq.pure rfl (.int .i64 d) (fun E => ex_load1 rfl Try.underlying3 rfl (E.d 2 0) ((HAT1.out).2 0 _ rfl)) ?_
     refine QSeq.pure rfl _ (fun E => ex_move rfl (E.v oe7)) ?_
     refine QSeq.pure rfl (.int .i64 L1.length) (fun E => ex_lenS rfl (E.d 4 0) Try.underlying22) ?_
     refine QSeq.go fun act E => ?_
     refine qc_callF (args := #[.int .i64 d, .int .i64 ((L1.length : Nat) : Int)]) rfl (wanted_none rfl) rfl Try.func9 (args2 (E.d 3 2) (E.d 5 0)) (HW.out _) ?_
     rintro e w2 ⟨rfl, hw2⟩
     obtain rfl : wm = w2 := by first | exact hw2 | exact hw2.symm
     refine ⟨_, rfl, ?_⟩
     clear act E
     refine QSeq.pure rfl _ (fun E => ex_assign rfl (E.d 6 0)) ?_
     refine QSeq.nil (t' := [_, _, _, _, _, _, _, _]) rfl ?_
     obtain rfl := HA0.out
     clear HA0 oe1 oe7 oe9
     simp only [pz, Act.put, List.setIfInBounds_toArray, List.set_cons_zero, List.set_cons_succ]
     clear HAT1
     obtain ⟨q, hq⟩ : ∃ q, q = L1[k] := ⟨_, rfl⟩
     have hqn : q < n := by rw [hq]; exact hLq _ (List.getElem_mem _)
     have hqk : q < ks.length := by omega
     obtain ⟨d2, hd2⟩ : ∃ d2, d2 = ks[q] := ⟨_, rfl⟩
     have HE := hid (show (L1.map (ordM ks))[k] = mgk d2 ((q : Nat) : Int) by rw [List.getElem_map, ← hq, ordM, hd2]; simp [hqk])
     go_upto_region 15 with (fail)
     refine wp_region_U 157 [75, 76, 77, 74, 78, 79, 11, 164, 12] [0, 1, 2, 3, 4, 5, 6, 7, 8] (fun a0 HA0 => ?_)
     have oe5 := ev HA0 5 rfl
     have oe10 := ev HA0 10 rfl
     refine QSeq.pure rfl _ (fun E => ex_move rfl (E.v oe5)) ?_
     refine QSeq.pure rfl _ (fun E => ex_move rfl (E.v oe10)) ?_
     refine QSeq.call rfl rfl Try.func10 (TakeB (k := k) (l := (L1.map (ordM ks))) Kwmn.out hkm2 ord_cp) (fun E => args2 (E.d 0 1) (E.d 1 0)) ?_
     rintro e u15_2 ⟨cc, rfl, qnt, qc, hm⟩
     rw [HE.out] at qc
     have HLc := hid (MgR.len qc)
     have HOc := hid (MgR.one qc)
     have HKc := hid (mg_kd qc)
     have HXc := hid (mg_ix qc)
     refine ⟨_, rfl, ?_⟩
     have Hx13 := hid (qnt.widen (R' := (fun k => (P3 k) ∨ (New wm u15_2 k))) (fun _ h => h))
     have Hx14 := hid qc
     have zu15_2 := hm.size
     have Cx15 := hid (show Mod (fun k => (P3 k)) wm u15_2 from hm)
     clear hm
     clear qnt qc Kwmn
     refine QSeq.pure rfl _ (fun E => ex_move rfl (E.d 2 0)) ?_
     refine QSeq.pure rfl (.agg cc.toArray) (fun E => ex_extract rfl (E.d 3 0) rfl) ?_
     refine QSeq.pure rfl (.bool true) (fun E => ex_extract rfl (E.d 3 1) rfl) ?_
     refine QSeq.go fun act E => ?_
     refine qc_alloc rfl (wanted_none rfl) rfl (z := (mg0C 0 0 0)) (by kernel_rfl) ?_
     intro u15_6 qb11 hm
     have zl15_6 := qb11.lt
     have Hx16 := hid qb11
     have zu15_6 := hm.size
     have HMu15_6 := hid hm
     have Cx17 := hid (Cx15.out.goE hm)
     clear hm Cx15
     clear act E qb11
     refine QSeq.go fun act E => ?_
     have hlz : (cc).length = List.length ((mg0C 0 0 0) : List Value) := (by rw [HLc.out]; kernel_rfl)
     refine qc_store rfl (wanted_none rfl) rfl Hx16.out (off := 0) (vs := cc) (by rw [hlz]; kernel_rfl) HOc.out (by rw [hlz]; exact Nat.le_of_eq (Nat.zero_add _)) (E.d 6 0) (ec (E.d 4 2)) ?_
     intro u15_7 qc0 hm
     have qb11 := qc0.eqv (b := (cc : List Value).toArray) (lay_whole (((mg0C 0 0 0) : List Value).toArray) _ (by rw [hlz]; rfl))
     clear qc0 hlz
     have Hx18 := hid qb11
     have zu15_7 := hm.size
     have HMu15_7 := hid hm
     have Cx19 := hid (Mod.goS (S' := (fun k => (P3 k))) Cx17.out hm (fun _ h => h) (by intro k h0 h2; omega))
     clear hm Cx17
     clear act E qb11 Hx16
     refine QSeq.pure rfl _ (fun E => ex_assign rfl (E.d 5 2)) ?_
     have Hx20 := hid ((Hx13.out.mod HMu15_6.out (fun _ _ h => h)).mod HMu15_7.out (by intro k h1 h2; rcases h1 with h1 | h1 <;> first | omega | (have hb := Kwmb1.out k h1; omega)))
     have Hx21 := hid ((Hx14.out.mod HMu15_6.out (fun _ _ h => h)).mod HMu15_7.out (by intro k h1 h2; omega))
     clear Hx13 Hx14 HMu15_6 HMu15_7
     refine QSeq.nil (t' := [_, _, _, _, _, _, _, _, _]) rfl ?_
     obtain rfl := HA0.out
     clear HA0 oe5 oe10
     simp only [pz, Act.put, List.setIfInBounds_toArray, List.set_cons_zero, List.set_cons_succ, List.set_nil]
     have HQN2 := hid (show NtR (fun k => (P3 k) ∨ (New wm u15_2 k)) u15_7 x 100 ((L1.take k ++ L1.drop (k + 1)).map (ordM ks)) ((n : Nat) : Int) 0 from (by have h := Hx20.out; rw [ord_erase] at h; exact h))
     clear Hx20
     obtain ⟨g2, cs2, ea2, hrg, hrd, hcs⟩ := (Kwmo.out.mod Cx19.out (by intro k h1 h2; first | omega | (have hb := Kwmb2.out k h1; omega) | (have hb := Kwmb1.out k h2; omega) | exact Kwmd.out k h1 h2 | exact Kwmd.out k h2 h1 | (have hb := Kwmb2.out k h1; have hb2 := Kwmb1.out k h2; omega)) (by intro k h1 h2; have hb := Kwmb1.out k h2; omega)).at3 hkL
     obtain ⟨rfl, -⟩ := hrd
     rw [← hq] at hcs
     subst ea2
     have HAT2 := hid (show CellsAt P4 u15_7 g2 (0 + k * 1) [.int .i64 ((q : Nat) : Int)] from ⟨hrg, hcs⟩)
     clear hrg hcs
     obtain ⟨g3, o3, cs3, ea3, hrg, hrd, hcs⟩ := (Kwmk.out.mod Cx19.out (by intro k h1 h2; have hb := Kwmb1.out k h2; omega)).at hqk
     obtain ⟨rfl, -⟩ := hrd
     rw [← hd2] at hcs
     subst ea3
     have HAT3 := hid (show CellsAt (fun k => k < w.heap.size) u15_7 g3 (o3 + q * 1) [.int .i64 d2] from ⟨hrg, hcs⟩)
     clear hrg hcs
     go_upto_region 16 with (fail)
     generalize ha0 : Act.mk _ _ = a0
     have oe0 : a0.eval (.tmp 0) = .slice (some ⟨g3, o3, none⟩) ks.length capk := by rw [← ha0]; rfl
     have oe7 : a0.eval (.tmp 7) = .slice (some ⟨g2, 0, none⟩) L1.length caplwm := by rw [← ha0]; rfl
     have oe10 : a0.eval (.tmp 10) = .int .i64 ((k : Nat) : Int) := by rw [← ha0]; rfl
     have oe11 : a0.eval (.tmp 11) = .pointer (some ⟨u15_2.heap.size, 0, none⟩) := by rw [← ha0]; rfl
     have oe12 : a0.eval (.tmp 12) = .bool true := by rw [← ha0]; rfl
     have hsz0 : a0.tmps.size = 157 := by rw [← ha0]; rfl
     have HA0 := hid ha0
     clear ha0
     refine wp_region_Q0 157 hsz0 [80, 81, 82, 83, 84, 85, 86, 87, 88, 89, 90, 91, 92, 93, 94, 95, 96, 97, 98, 99, 100, 101, 102] [qi (.bool true), qi (.bool false), qi (.bool false), qi (.pointer (some ⟨u15_2.heap.size, 212, none⟩)), qi (.int .i64 ((q : Nat) : Int)), qi (.slice (some ⟨g2, 0, none⟩) L1.length caplwm), qi (.int .i64 ((k : Nat) : Int)), qi (.pointer (some ⟨g2, 0 + k * 1, none⟩)), qi (.int .i64 ((q : Nat) : Int)), qi (.bool false), qi (.bool false), qi (.bool false), qi (.pointer (some ⟨u15_2.heap.size, 0, none⟩)), qi (.int .i64 d2), qi (.slice (some ⟨g3, o3, none⟩) ks.length capk), qi (.slice (some ⟨g2, 0, none⟩) L1.length caplwm), qi (.int .i64 ((k : Nat) : Int)), qi (.pointer (some ⟨g2, 0 + k * 1, none⟩)), qi (.int .i64 ((q : Nat) : Int)), qi (.pointer (some ⟨g3, o3 + q * 1, none⟩)), qi (.int .i64 d2), qi (.bool false), qi (.bool false)] ⟨qi_stable, qi_stable, qi_stable, qi_stable, qi_stable, qi_stable, qi_stable, qi_stable, qi_stable, qi_stable, qi_stable, qi_stable, qi_stable, qi_stable, qi_stable, qi_stable, qi_stable, qi_stable, qi_stable, qi_stable, qi_stable, qi_stable, qi_stable, trivial⟩ [] ⟨?_, ?_, ?_, ?_, ?_, ?_, ?_, ?_, ?_, ?_, ?_, ?_, ?_, ?_, ?_, ?_, ?_, ?_, ?_, ?_, ?_, ?_, ?_, trivial⟩ ?_
     ·exact stq (fun E => ex_move rfl (E.v oe12))
     ·exact stq (fun E => ex_not rfl (E.d 0))
     ·exact stq (fun E => ex_move rfl (E.d 1))
     ·refine stepq_env rfl rfl rfl fun _ _ _ _ _ _ _ hout hsz hd _ _ => ?_
      have h2 := hd ⟨2, .guard⟩ (by simp) rfl _ rfl
      refine qe_run rfl ((wanted_of rfl rfl (hsz 82 (by decide)) h2).trans rfl) (ex_field rfl Try.underlying67 rfl (by kernel_rfl) ((hout 11 (by decide)).trans oe11)) QE.refl ?_
      rfl
     ·refine stepq_env rfl rfl rfl fun _ _ _ _ _ hm _ _ hsz hd _ _ => ?_
      have h2 := hd ⟨2, .guard⟩ (by simp) rfl _ rfl
      have h3 := hd ⟨3, .data⟩ (by simp) rfl _ rfl
      refine qe_run rfl ((wanted_of rfl rfl (hsz 82 (by decide)) h2).trans rfl) (ex_load1 rfl Try.underlying3 rfl h3 (Cs.lit1 (Hx18.out.mod hm.old (by intro h2; omega)) HXc.out)) QE.refl ?_
      rfl
     ·refine stepq_env rfl rfl rfl fun _ _ _ _ _ _ _ hout hsz hd _ _ => ?_
      have h2 := hd ⟨2, .guard⟩ (by simp) rfl _ rfl
      refine qe_run rfl ((wanted_of rfl rfl (hsz 82 (by decide)) h2).trans rfl) (ex_move rfl ((hout 7 (by decide)).trans oe7)) QE.refl ?_
      rfl
     ·refine stepq_env rfl rfl rfl fun _ _ _ _ _ _ _ hout hsz hd _ _ => ?_
      have h2 := hd ⟨2, .guard⟩ (by simp) rfl _ rfl
      refine qe_run rfl ((wanted_of rfl rfl (hsz 82 (by decide)) h2).trans rfl) (ex_move rfl ((hout 10 (by decide)).trans oe10)) QE.refl ?_
      rfl
     ·refine stepq_env rfl rfl rfl fun _ _ _ _ _ _ _ _ hsz hd _ _ => ?_
      have h2 := hd ⟨2, .guard⟩ (by simp) rfl _ rfl
      have h5 := hd ⟨5, .data⟩ (by simp) rfl _ rfl
      have h6 := hd ⟨6, .data⟩ (by simp) rfl _ rfl
      refine qe_run rfl ((wanted_of rfl rfl (hsz 82 (by decide)) h2).trans rfl) (ex_idxS (i := k) (s := 1) rfl Try.underlying22 (by kernel_rfl) h5 h6 (by omega)) QE.refl ?_
      rfl
     ·refine stepq_env rfl rfl rfl fun _ _ _ _ _ hm _ _ hsz hd _ _ => ?_
      have h2 := hd ⟨2, .guard⟩ (by simp) rfl _ rfl
      have h7 := hd ⟨7, .data⟩ (by simp) rfl _ rfl
      refine qe_run rfl ((wanted_of rfl rfl (hsz 82 (by decide)) h2).trans rfl) (ex_load1 rfl Try.underlying3 rfl h7 (((HAT2.out.mod hm.old (by intro k h1 h2; have hb := Kwmb2.out k h1; omega))).2 0 _ rfl)) QE.refl ?_
      rfl
     ·refine stepq_env rfl rfl rfl fun _ _ _ _ _ _ _ _ hsz hd _ _ => ?_
      have h2 := hd ⟨2, .guard⟩ (by simp) rfl _ rfl
      have h4 := hd ⟨4, .data⟩ (by simp) rfl _ rfl
      have h8 := hd ⟨8, .data⟩ (by simp) rfl _ rfl
      refine qe_run rfl ((wanted_of rfl rfl (hsz 82 (by decide)) h2).trans rfl) (ex_binE rfl h4 h8 (guard_ints _ _ _ _ _ _) (run_neq_i _ _ _ Try.underlying3) (congrArg Value.bool (ne_ff rfl))) QE.refl ?_
      rfl
     ·exact stq (fun E => ex_pick rfl (E.d 2) rfl (E.d 9))
     ·exact stq (fun E => ex_move rfl (E.d 10))
     ·refine stepq_env rfl rfl rfl fun _ _ _ _ _ _ _ hout hsz hd _ _ => ?_
      have h11 := hd ⟨11, .guard⟩ (by simp) rfl _ rfl
      refine qe_run rfl ((wanted_of rfl rfl (hsz 91 (by decide)) h11).trans rfl) (ex_field rfl Try.underlying67 rfl (by kernel_rfl) ((hout 11 (by decide)).trans oe11)) QE.refl ?_
      rfl
     ·refine stepq_env rfl rfl rfl fun _ _ _ _ _ hm _ _ hsz hd _ _ => ?_
      have h11 := hd ⟨11, .guard⟩ (by simp) rfl _ rfl
      have h12 := hd ⟨12, .data⟩ (by simp) rfl _ rfl
      refine qe_run rfl ((wanted_of rfl rfl (hsz 91 (by decide)) h11).trans rfl) (ex_load1 rfl Try.underlying3 rfl h12 (Cs.lit1 (Hx18.out.mod hm.old (by intro h2; omega)) HKc.out)) QE.refl ?_
      rfl
     ·refine stepq_env rfl rfl rfl fun _ _ _ _ _ _ _ hout hsz hd _ _ => ?_
      have h11 := hd ⟨11, .guard⟩ (by simp) rfl _ rfl
      refine qe_run rfl ((wanted_of rfl rfl (hsz 91 (by decide)) h11).trans rfl) (ex_move rfl ((hout 0 (by decide)).trans oe0)) QE.refl ?_
      rfl
     ·refine stepq_env rfl rfl rfl fun _ _ _ _ _ _ _ hout hsz hd _ _ => ?_
      have h11 := hd ⟨11, .guard⟩ (by simp) rfl _ rfl
      refine qe_run rfl ((wanted_of rfl rfl (hsz 91 (by decide)) h11).trans rfl) (ex_move rfl ((hout 7 (by decide)).trans oe7)) QE.refl ?_
      rfl
     ·refine stepq_env rfl rfl rfl fun _ _ _ _ _ _ _ hout hsz hd _ _ => ?_
      have h11 := hd ⟨11, .guard⟩ (by simp) rfl _ rfl
      refine qe_run rfl ((wanted_of rfl rfl (hsz 91 (by decide)) h11).trans rfl) (ex_move rfl ((hout 10 (by decide)).trans oe10)) QE.refl ?_
      rfl
     ·refine stepq_env rfl rfl rfl fun _ _ _ _ _ _ _ _ hsz hd _ _ => ?_
      have h11 := hd ⟨11, .guard⟩ (by simp) rfl _ rfl
      have h15 := hd ⟨15, .data⟩ (by simp) rfl _ rfl
      have h16 := hd ⟨16, .data⟩ (by simp) rfl _ rfl
      refine qe_run rfl ((wanted_of rfl rfl (hsz 91 (by decide)) h11).trans rfl) (ex_idxS (i := k) (s := 1) rfl Try.underlying22 (by kernel_rfl) h15 h16 (by omega)) QE.refl ?_
      rfl
     ·refine stepq_env rfl rfl rfl fun _ _ _ _ _ hm _ _ hsz hd _ _ => ?_
      have h11 := hd ⟨11, .guard⟩ (by simp) rfl _ rfl
      have h17 := hd ⟨17, .data⟩ (by simp) rfl _ rfl
      refine qe_run rfl ((wanted_of rfl rfl (hsz 91 (by decide)) h11).trans rfl) (ex_load1 rfl Try.underlying3 rfl h17 (((HAT2.out.mod hm.old (by intro k h1 h2; have hb := Kwmb2.out k h1; omega))).2 0 _ rfl)) QE.refl ?_
      rfl
     ·refine stepq_env rfl rfl rfl fun _ _ _ _ _ _ _ _ hsz hd _ _ => ?_
      have h11 := hd ⟨11, .guard⟩ (by simp) rfl _ rfl
      have h14 := hd ⟨14, .data⟩ (by simp) rfl _ rfl
      have h18 := hd ⟨18, .data⟩ (by simp) rfl _ rfl
      refine qe_run rfl ((wanted_of rfl rfl (hsz 91 (by decide)) h11).trans rfl) (ex_idxS (i := q) (s := 1) rfl Try.underlying22 (by kernel_rfl) h14 h18 (by omega)) QE.refl ?_
      rfl
     ·refine stepq_env rfl rfl rfl fun _ _ _ _ _ hm _ _ hsz hd _ _ => ?_
      have h11 := hd ⟨11, .guard⟩ (by simp) rfl _ rfl
      have h19 := hd ⟨19, .data⟩ (by simp) rfl _ rfl
      refine qe_run rfl ((wanted_of rfl rfl (hsz 91 (by decide)) h11).trans rfl) (ex_load1 rfl Try.underlying3 rfl h19 (((HAT3.out.mod hm.old (by intro k h1 h2; omega))).2 0 _ rfl)) QE.refl ?_
      rfl
     ·refine stepq_env rfl rfl rfl fun _ _ _ _ _ _ _ _ hsz hd _ _ => ?_
      have h11 := hd ⟨11, .guard⟩ (by simp) rfl _ rfl
      have h13 := hd ⟨13, .data⟩ (by simp) rfl _ rfl
      have h20 := hd ⟨20, .data⟩ (by simp) rfl _ rfl
      refine qe_run rfl ((wanted_of rfl rfl (hsz 91 (by decide)) h11).trans rfl) (ex_binE rfl h13 h20 (guard_ints _ _ _ _ _ _) (run_neq_i _ _ _ Try.underlying3) (congrArg Value.bool (ne_ff rfl))) QE.refl ?_
      rfl
     ·exact stq (fun E => ex_pick rfl (E.d 11) rfl (E.d 21))
     intro u16_0 hr
     have zu16_0 := hr.size
     have Cx22 := hid (hr.new (S := (fun _ => False)))
     clear hr
     refine QChain.nil fun vs hl hzz hrows hne => ?_
     obtain ⟨Z, hYZ, hZb, hV⟩ := hzz
     have f0 := fvi hV hl 0
     have f2 := fvi hV hl 2
     have f5 := fvi hV hl 5
     have f6 := fvi hV hl 6
     have f11 := fvi hV hl 11
     have f14 := fvi hV hl 14
     have f15 := fvi hV hl 15
     have f16 := fvi hV hl 16
     have f22 := fvi hV hl 22
     rw [show vs = [gw vs 0, gw vs 1, gw vs 2, gw vs 3, gw vs 4, gw vs 5, gw vs 6, gw vs 7, gw vs 8, gw vs 9, gw vs 10, gw vs 11, gw vs 12, gw vs 13, gw vs 14, gw vs 15, gw vs 16, gw vs 17, gw vs 18, gw vs 19, gw vs 20, gw vs 21, gw vs 22] from (gw_eta hl).trans rfl]
     have ha0 := HA0.out
     subst ha0
     clear HA0 hV hYZ hZb hsz0 hrows hne oe0 oe7 oe10 oe11 oe12
     simp only [putAll, Act.put, List.setIfInBounds_toArray, List.set_cons_zero, List.set_cons_succ, f0, f2, f5, f6, f11, f14, f15, f16, f22]
     clear hl f0 f2 f5 f6 f11 f14 f15 f16 f22
     clear HAT2
     clear HAT3
     clear Hx18
     clear Hx21
     go_upto_region 18 with (fail)
     generalize ha0 : Act.mk _ _ = a0
     have oe7 : a0.eval (.tmp 7) = .slice (some ⟨g2, 0, none⟩) L1.length caplwm := by rw [← ha0]; rfl
     have oe10 : a0.eval (.tmp 10) = .int .i64 ((k : Nat) : Int) := by rw [← ha0]; rfl
     have hsz0 : a0.tmps.size = 157 := by rw [← ha0]; rfl
     have HA0 := hid ha0
     clear ha0
     refine wp_region_Q1 157 hsz0 [103, 104, 105, 106, 107, 108, 109, 110, 111, 7] (fun k => (P4 k)) (fun k j => (k = 0 ∧ ((P4 j)))) (fun _ _ h => h.2) [qi (.slice (some ⟨g2, 0, none⟩) L1.length caplwm), qi (.int .i64 ((k : Nat) : Int)), qi (.int .i64 ((k : Nat) : Int)), qi (.slice (some ⟨g2, 0, none⟩) k k), qi (.slice (some ⟨g2, 0, none⟩) L1.length caplwm), qi (.int .i64 ((k : Nat) : Int)), qi (.int .i64 ((k + 1 : Nat) : Int)), qi (slV 1 (some ⟨g2, 0, none⟩) (k + 1) L1.length caplwm), qv 0, qv 0] ⟨qi_stable, qi_stable, qi_stable, qi_stable, qi_stable, qi_stable, qi_stable, qi_stable, qv_stable, qv_stable, trivial⟩ [8] ⟨?_, ?_, ?_, ?_, ?_, ?_, ?_, ?_, ?_, ?_, trivial⟩ ?_
     ·exact stq (fun E => ex_move rfl ((E.pre 9 7 rfl (by kernel_rfl)).trans oe7))
     ·exact stq (fun E => ex_move rfl (E.v oe10))
     ·exact stq (fun E => ex_move rfl (E.v oe10))
     ·exact stq (fun E => ex_sliceTo3 (i := k) (m := k) (s := 1) rfl Try.underlying22 (by kernel_rfl) (E.d 0) (E.d 1) (E.d 2) (by omega) (by omega))
     ·exact stq (fun E => ex_move rfl ((E.pre 9 7 rfl (by kernel_rfl)).trans oe7))
     ·exact stq (fun E => ex_move rfl (E.v oe10))
     ·exact stq (fun E => ex_binE rfl (E.d 5) rfl (guard_ints _ _ _ _ _ _) (run_add_i _ _ Try.underlying3) (congrArg (Value.int .i64) (i64_eq (b := ((k + 1 : Nat) : Int)) (by omega) (by omega) (by omega))))
     ·exact stq (fun E => ex_slice1 (lo := k + 1) (s := 1) rfl Try.underlying22 (by kernel_rfl) (E.d 4) (E.d 6) (by omega) (by omega))
     ·exact stepq_chain rfl
     ·refine stepq_env rfl rfl rfl fun _ _ _ _ _ _ _ _ _ hd _ _ => ?_
      have h8 := hd ⟨8, .data⟩ (by simp) rfl _ rfl
      exact qe_run rfl (wanted_none rfl) (ex_assign rfl rfl) QE.refl h8
     intro u18_0 hr
     have zu18_0 := hr.size
     have Cx23 := hid (hr.new (S := (fun k => (P4 k))))
     have Hx24 := hid (((Kwmo.out.mod Cx19.out (by intro k h1 h2; first | omega | (have hb := Kwmb2.out k h1; omega) | (have hb := Kwmb1.out k h2; omega) | exact Kwmd.out k h1 h2 | exact Kwmd.out k h2 h1 | (have hb := Kwmb2.out k h1; have hb2 := Kwmb1.out k h2; omega)) (by intro k h1 h2; have hb := Kwmb1.out k h2; omega)).mod Cx22.out (fun _ _ h => h) (fun _ _ h => h)).mod hr (by intro k h1 h2; have hb := Kwmb2.out k h1; omega) (by intro k h1 h2; omega))
     clear Kwmo
     clear hr
     refine QChain.go fun Z act E => ?_
     refine qc_appF (A := NaR) NaR_flat (e := 3) (E := fun _ => False) rfl (wanted_none rfl) rfl (.int .i64 0) 8 Try.underlying22 (by kernel_rfl) rfl (by intro u hu; simp [Value.cells] at hu; subst hu; rfl) (E.d 3) (E.d 7) (Hx24.out.upto k k (by omega) (Or.inr rfl)) (Hx24.out.rd.piece (k + 1) (by omega)) (by simp only [List.length_take, List.length_drop]; omega) (by rw [maxLen_val]; simp only [List.length_take, List.length_drop]; omega) ?_
     intro ao8 cap8 u18_1a qleft hm
     have zu18_1a := hm.size
     refine ⟨hm.mono (by intro k hk h; first | omega | exact Or.inl ⟨(by have hb := Kwmb2.out k h; omega), ⟨rfl, h⟩⟩), (fun _ => rfl), ?_⟩
     intro u18_1 hr
     have zu18_1 := hr.size
     have Hx25 := hid ((qleft.widen (R' := (fun k => (P4 k) ∨ (New u18_0 u18_1a k))) (E' := fun _ => False) (fun _ h => h) (fun _ h => h)).mod hr (by intro k h1 h2; rcases h1 with h1 | h1 <;> first | omega | (have hb := Kwmb2.out k h1; omega)) (by intro k h1 h2; omega))
     have Cx26 := hid (Cx23.out.goM hm hr (fun _ _ h => h))
     clear Cx23 hm hr Z act E qleft Hx24
     refine QChain.nil fun vs hl hzz hrows hne => ?_
     obtain ⟨Z, hYZ, hZb, hV⟩ := hzz
     have f0 := fvi hV hl 0
     have f1 := fvi hV hl 1
     have f2 := fvi hV hl 2
     have f4 := fvi hV hl 4
     have f5 := fvi hV hl 5
     have f8 := fvc hV hl 8
     have f9 := fvc hV hl 9
     rw [show vs = [gw vs 0, gw vs 1, gw vs 2, gw vs 3, gw vs 4, gw vs 5, gw vs 6, gw vs 7, gw vs 8, gw vs 9] from (gw_eta hl).trans rfl]
     have ha0 := HA0.out
     subst ha0
     clear HA0 hV hYZ hZb hsz0 hrows hne oe7 oe10
     simp only [putAll, Act.put, List.setIfInBounds_toArray, List.set_cons_zero, List.set_cons_succ, f0, f1, f2, f4, f5, f8, f9]
     clear hl f0 f1 f2 f4 f5 f8 f9
     go_upto_region 13 with (fail)
     refine wp_region_U 157 [65, 66, 9] [0, 1, 2] (fun a0 HA0 => ?_)
     have oe9 := ev HA0 9 rfl
     refine QSeq.pure rfl _ (fun E => ex_move rfl (E.y 2 oe9)) ?_
     refine QSeq.pure rfl (.int .i64 ((j + 1 : Nat) : Int)) (fun E => ex_binE rfl (E.d 0 0) rfl (guard_ints _ _ _ _ _ _) (run_add_i _ _ Try.underlying3) (congrArg (Value.int .i64) (i64_eq (b := ((j + 1 : Nat) : Int)) (by omega) (by omega) (by omega)))) ?_
     refine QSeq.pure rfl _ (fun E => ex_assign rfl (E.d 1 0)) ?_
     refine QSeq.nil (t' := [_, _, _]) rfl ?_
     obtain rfl := HA0.out
     clear HA0 oe9
     simp only [pz, Act.put, List.setIfInBounds_toArray, List.set_cons_zero, List.set_cons_succ]
     go_wp2
     go_roundw
     case rel => exact ⟨j + 1, L1.take k ++ L1.drop (k + 1), _, (fun k => (P3 k) ∨ (New wm u15_2 k)), (fun k => (P4 k) ∨ (New u18_0 u18_1a k)), rfl, rfl, by omega, by rw [List.length_append, List.length_take, List.length_drop]; omega, (fun q hq => by rcases List.mem_append.1 hq with hq | hq; exact hLq q (List.mem_of_mem_take hq); exact hLq q (List.mem_of_mem_drop hq)), by omega, ((HQN2.out.mod Cx22.out (fun _ _ h => h)).mod Cx26.out (by intro k h1 h2; rcases h1 with h1 | h1 <;> first | omega | (have hb := Kwmb1.out k h1; omega) | (have hb := Kwmb2.out k h2; omega) | exact Kwmd.out k h1 h2 | exact Kwmd.out k h2 h1 | (have hb := Kwmb1.out k h1; have hb2 := Kwmb2.out k h2; omega))), Hx25.out, (by intro k h1 h2; rcases h1 with h1 | h1 <;> rcases h2 with h2 | h2 <;> first | omega | (have hb := Kwmb1.out k h1; omega) | (have hb := Kwmb2.out k h2; omega) | exact Kwmd.out k h1 h2 | exact Kwmd.out k h2 h1 | (have hb := Kwmb1.out k h1; have hb2 := Kwmb2.out k h2; omega)), (by intro k h1; rcases h1 with h1 | h1 <;> first | omega | (have hb := Kwmb1.out k h1; omega)), (by intro k h1; rcases h1 with h1 | h1 <;> first | omega | (have hb := Kwmb2.out k h1; omega)), (((Kwmk.out.mod Cx19.out (by intro k h1 h2; have hb := Kwmb1.out k h2; omega)).mod Cx22.out (fun _ _ h => h)).mod Cx26.out (by intro k h1 h2; have hb := Kwmb2.out k h2; omega)), (((Kwmt.out.mod Cx19.out (by intro k h1 h2; have hb := Kwmb1.out k h2; omega)).mod Cx22.out (fun _ _ h => h)).mod Cx26.out (by intro k h1 h2; have hb := Kwmb2.out k h2; omega)), (((Kwmm.out.trans Cx19.out (by intro k h1 h2; first | exact h2 | omega | (have hb := Kwmb1.out k h2; omega))).trans Cx22.out (fun _ _ h => h.elim)).trans Cx26.out (by intro k h1 h2; first | exact h2 | omega | (have hb := Kwmb2.out k h2; omega)))⟩
     case measure => simp [intOf]; omega
    ·obtain rfl : pb12 = false := HB12.out.trans (by rw [HB7.out]; rw [Bool.eq_false_iff]; intro h; simp only [Bool.and_eq_true, decide_eq_true_eq] at h; omega)
     clear hc
     go_upto_region 19 with (fail)
     refine wp_region_U 157 [112, 113, 114] [0, 1, 2] (fun a0 HA0 => ?_)
     have oe7 := ev HA0 7 rfl
     refine QSeq.pure rfl _ (fun E => ex_move rfl (E.v oe7)) ?_
     refine QSeq.pure rfl (.int .i64 L1.length) (fun E => ex_lenS rfl (E.d 0 0) Try.underlying22) ?_
     refine QSeq.pure rfl (.int .i64 0) (fun E => ex_move rfl rfl) ?_
     refine QSeq.nil (t' := [_, _, _]) rfl ?_
     obtain rfl := HA0.out
     clear HA0 oe7
     simp only [pz, Act.put, List.setIfInBounds_toArray, List.set_cons_zero, List.set_cons_succ]
     go_wp2
     go_loopw [114] (fun tj wr => ∃ (j : Nat) (P1 : Nat → Prop), tj = .int .i64 ((j : Nat) : Int) ∧ j ≤ L1.length ∧ wm.heap.size ≤ wr.heap.size ∧ NtR P1 wr x 100 ((L1.drop j).map (ordM ks)) ((n : Nat) : Int) 0 ∧ OwS NaR 3 P4 (fun _ => False) wr (.slice aolwm L1.length caplwm) L1 ∧ (∀ k, P1 k → P4 k → False) ∧ (∀ k, P1 k → w.heap.size ≤ k ∧ k < wr.heap.size) ∧ RdS InR (fun k => k < w.heap.size) wr (.slice ak ks.length capk) ks ∧ Mod (fun _ => False) w wr) (fun tj _ => L1.length - (intOf tj).toNat)
     case atStart => exact ⟨0, (fun k => (P3 k)), rfl, Nat.zero_le _, Nat.le_refl _, Kwmn.out, Kwmo.out, (by intro k h1 h2; first | omega | (have hb := Kwmb1.out k h1; omega) | (have hb := Kwmb2.out k h2; omega) | exact Kwmd.out k h1 h2 | exact Kwmd.out k h2 h1 | (have hb := Kwmb1.out k h1; have hb2 := Kwmb2.out k h2; omega)), (by intro k h1; first | omega | (have hb := Kwmb1.out k h1; omega)), Kwmk.out, Kwmm.out⟩
     case round =>
      clear Kwmn Kwmo Kwmk Kwmt Kwmm Kwmb1 Kwmd
      obtain ⟨j3, P5, rfl, hj3, hz3, hn5, ho, hd, hb1, hk, hm⟩ := hrel
      obtain ⟨wn, rfl⟩ : ∃ x, x = wr := ⟨_, rfl⟩
      have Kwnn := Lib.hid hn5
      have Kwno := Lib.hid ho
      have Kwnd := Lib.hid hd
      have Kwnb1 := Lib.hid hb1
      have Kwnk := Lib.hid hk
      have Kwnm := Lib.hid hm
      clear hn5 ho hd hb1 hk hm
      by_cases hlt : j3 < L1.length
      ·skip
       go_upto_region 20 with (fail)
       refine wp_region_U 157 [115] [0] (fun a0 HA0 => ?_)
       have oe113 := ev HA0 113 rfl
       have oe114 := ev HA0 114 rfl
       refine QSeq.pure rfl (.bool true) (fun E => ex_binE rfl (E.v oe114) (E.v oe113) (guard_ints _ _ _ _ _ _) (run_lss_i _ _ _ Try.underlying3) (congrArg Value.bool (decide_eq_true (by omega)))) ?_
       refine QSeq.nil (t' := [_]) rfl ?_
       obtain rfl := HA0.out
       clear HA0 oe113 oe114
       simp only [pz, Act.put, List.setIfInBounds_toArray, List.set_cons_zero, List.set_cons_succ]
       go_upto_region 21 with (fail)
       refine wp_region_U 157 [116, 13] [0, 1] (fun a0 HA0 => ?_)
       have oe114 := ev HA0 114 rfl
       refine QSeq.pure rfl _ (fun E => ex_move rfl (E.v oe114)) ?_
       refine QSeq.pure rfl _ (fun E => ex_assign rfl (E.d 0 0)) ?_
       refine QSeq.nil (t' := [_, _]) rfl ?_
       obtain rfl := HA0.out
       clear HA0 oe114
       simp only [pz, Act.put, List.setIfInBounds_toArray, List.set_cons_zero, List.set_cons_succ]
       have hdl : 0 < ((L1.drop j3).map (ordM ks)).length := by rw [List.length_map, List.length_drop]; omega
       obtain ⟨q, hq⟩ : ∃ q, q = L1[j3] := ⟨_, rfl⟩
       have HE := hid (show ((L1.drop j3).map (ordM ks))[0] = mgk (ks.getD q 0) ((q : Nat) : Int) by rw [ord_head ks L1 j3 hlt hdl, ← hq]; rfl)
       go_upto_region 22 with (fail)
       refine wp_region_U 157 [118, 119, 117, 120, 121, 14, 163, 15] [0, 1, 2, 3, 4, 5, 6, 7] (fun a0 HA0 => ?_)
       have oe5 := ev HA0 5 rfl
       refine QSeq.pure rfl _ (fun E => ex_move rfl (E.v oe5)) ?_
       refine QSeq.call rfl rfl Try.func10 (TakeB (k := 0) (l := ((L1.drop j3).map (ordM ks))) Kwnn.out hdl ord_cp) (fun E => args2 (E.d 0 0) rfl) ?_
       rintro e u22_1 ⟨cc, rfl, qnt, qc, hm⟩
       rw [HE.out] at qc
       have HLc := hid (MgR.len qc)
       have HOc := hid (MgR.one qc)
       have HKc := hid (mg_kd qc)
       have HXc := hid (mg_ix qc)
       refine ⟨_, rfl, ?_⟩
       have Hx27 := hid (qnt.widen (R' := (fun k => (P5 k) ∨ (New wn u22_1 k))) (fun _ h => h))
       have Hx28 := hid qc
       have zu22_1 := hm.size
       have Cx29 := hid (show Mod (fun k => (P5 k)) wn u22_1 from hm)
       clear hm
       clear qnt qc Kwnn
       refine QSeq.pure rfl _ (fun E => ex_move rfl (E.d 1 0)) ?_
       refine QSeq.pure rfl (.agg cc.toArray) (fun E => ex_extract rfl (E.d 2 0) rfl) ?_
       refine QSeq.pure rfl (.bool true) (fun E => ex_extract rfl (E.d 2 1) rfl) ?_
       refine QSeq.go fun act E => ?_
       refine qc_alloc rfl (wanted_none rfl) rfl (z := (mg0C 0 0 0)) (by kernel_rfl) ?_
       intro u22_5 qb14 hm
       have zl22_5 := qb14.lt
       have Hx30 := hid qb14
       have zu22_5 := hm.size
       have HMu22_5 := hid hm
       have Cx31 := hid (Cx29.out.goE hm)
       clear hm Cx29
       clear act E qb14
       refine QSeq.go fun act E => ?_
       have hlz : (cc).length = List.length ((mg0C 0 0 0) : List Value) := (by rw [HLc.out]; kernel_rfl)
       refine qc_store rfl (wanted_none rfl) rfl Hx30.out (off := 0) (vs := cc) (by rw [hlz]; kernel_rfl) HOc.out (by rw [hlz]; exact Nat.le_of_eq (Nat.zero_add _)) (E.d 5 0) (ec (E.d 3 2)) ?_
       intro u22_6 qc0 hm
       have qb14 := qc0.eqv (b := (cc : List Value).toArray) (lay_whole (((mg0C 0 0 0) : List Value).toArray) _ (by rw [hlz]; rfl))
       clear qc0 hlz
       have Hx32 := hid qb14
       have zu22_6 := hm.size
       have HMu22_6 := hid hm
       have Cx33 := hid (Mod.goS (S' := (fun k => (P5 k))) Cx31.out hm (fun _ h => h) (by intro k h0 h2; omega))
       clear hm Cx31
       clear act E qb14 Hx30
       refine QSeq.pure rfl _ (fun E => ex_assign rfl (E.d 4 2)) ?_
       have Hx34 := hid ((Hx27.out.mod HMu22_5.out (fun _ _ h => h)).mod HMu22_6.out (by intro k h1 h2; rcases h1 with h1 | h1 <;> first | omega | (have hb := Kwnb1.out k h1; omega)))
       have Hx35 := hid ((Hx28.out.mod HMu22_5.out (fun _ _ h => h)).mod HMu22_6.out (by intro k h1 h2; omega))
       clear Hx27 Hx28 HMu22_5 HMu22_6
       refine QSeq.nil (t' := [_, _, _, _, _, _, _, _]) rfl ?_
       obtain rfl := HA0.out
       clear HA0 oe5
       simp only [pz, Act.put, List.setIfInBounds_toArray, List.set_cons_zero, List.set_cons_succ, List.set_nil]
       have HQN2 := hid (show NtR (fun k => (P5 k) ∨ (New wn u22_1 k)) u22_6 x 100 ((L1.drop (j3 + 1)).map (ordM ks)) ((n : Nat) : Int) 0 from (by have h := Hx34.out; rw [ord_tail] at h; exact h))
       clear Hx34
       obtain ⟨g2, cs2, ea2, hrg, hrd, hcs⟩ := (Kwno.out.mod Cx33.out (by intro k h1 h2; first | omega | (have hb := Kwmb2.out k h1; omega) | (have hb := Kwnb1.out k h2; omega) | exact Kwnd.out k h1 h2 | exact Kwnd.out k h2 h1 | (have hb := Kwmb2.out k h1; have hb2 := Kwnb1.out k h2; omega)) (by intro k h1 h2; have hb := Kwnb1.out k h2; omega)).at3 hlt
       obtain ⟨rfl, -⟩ := hrd
       rw [← hq] at hcs
       have ea3 := ea2
       have HAT2 := hid (show CellsAt P4 u22_6 g2 (0 + j3 * 1) [.int .i64 ((q : Nat) : Int)] from ⟨hrg, hcs⟩)
       have HEA := Lib.hid ea2
       clear hrg hcs ea2 ea3
       have ea2 := HEA.out
       subst ea2
       clear HEA
       go_upto_region 23 with (fail)
       generalize ha0 : Act.mk _ _ = a0
       have oe7 : a0.eval (.tmp 7) = .slice (some ⟨g2, 0, none⟩) L1.length caplwm := by rw [← ha0]; rfl
       have oe13 : a0.eval (.tmp 13) = .int .i64 ((j3 : Nat) : Int) := by rw [← ha0]; rfl
       have oe14 : a0.eval (.tmp 14) = .pointer (some ⟨u22_1.heap.size, 0, none⟩) := by rw [← ha0]; rfl
       have oe15 : a0.eval (.tmp 15) = .bool true := by rw [← ha0]; rfl
       have hsz0 : a0.tmps.size = 157 := by rw [← ha0]; rfl
       have HA0 := hid ha0
       clear ha0
       refine wp_region_Q0 157 hsz0 [122, 123, 124, 125, 126, 127, 128, 129, 130, 131, 132] [qi (.bool true), qi (.bool false), qi (.bool false), qi (.pointer (some ⟨u22_1.heap.size, 212, none⟩)), qi (.int .i64 ((q : Nat) : Int)), qi (.slice (some ⟨g2, 0, none⟩) L1.length caplwm), qi (.int .i64 ((j3 : Nat) : Int)), qi (.pointer (some ⟨g2, 0 + j3 * 1, none⟩)), qi (.int .i64 ((q : Nat) : Int)), qi (.bool false), qi (.bool false)] ⟨qi_stable, qi_stable, qi_stable, qi_stable, qi_stable, qi_stable, qi_stable, qi_stable, qi_stable, qi_stable, qi_stable, trivial⟩ [] ⟨?_, ?_, ?_, ?_, ?_, ?_, ?_, ?_, ?_, ?_, ?_, trivial⟩ ?_
       ·exact stq (fun E => ex_move rfl (E.v oe15))
       ·exact stq (fun E => ex_not rfl (E.d 0))
       ·exact stq (fun E => ex_move rfl (E.d 1))
       ·refine stepq_env rfl rfl rfl fun _ _ _ _ _ _ _ hout hsz hd _ _ => ?_
        have h2 := hd ⟨2, .guard⟩ (by simp) rfl _ rfl
        refine qe_run rfl ((wanted_of rfl rfl (hsz 124 (by decide)) h2).trans rfl) (ex_field rfl Try.underlying67 rfl (by kernel_rfl) ((hout 14 (by decide)).trans oe14)) QE.refl ?_
        rfl
       ·refine stepq_env rfl rfl rfl fun _ _ _ _ _ hm _ _ hsz hd _ _ => ?_
        have h2 := hd ⟨2, .guard⟩ (by simp) rfl _ rfl
        have h3 := hd ⟨3, .data⟩ (by simp) rfl _ rfl
        refine qe_run rfl ((wanted_of rfl rfl (hsz 124 (by decide)) h2).trans rfl) (ex_load1 rfl Try.underlying3 rfl h3 (Cs.lit1 (Hx32.out.mod hm.old (by intro h2; omega)) HXc.out)) QE.refl ?_
        rfl
       ·refine stepq_env rfl rfl rfl fun _ _ _ _ _ _ _ hout hsz hd _ _ => ?_
        have h2 := hd ⟨2, .guard⟩ (by simp) rfl _ rfl
        refine qe_run rfl ((wanted_of rfl rfl (hsz 124 (by decide)) h2).trans rfl) (ex_move rfl ((hout 7 (by decide)).trans oe7)) QE.refl ?_
        rfl
       ·refine stepq_env rfl rfl rfl fun _ _ _ _ _ _ _ hout hsz hd _ _ => ?_
        have h2 := hd ⟨2, .guard⟩ (by simp) rfl _ rfl
        refine qe_run rfl ((wanted_of rfl rfl (hsz 124 (by decide)) h2).trans rfl) (ex_move rfl ((hout 13 (by decide)).trans oe13)) QE.refl ?_
        rfl
       ·refine stepq_env rfl rfl rfl fun _ _ _ _ _ _ _ _ hsz hd _ _ => ?_
        have h2 := hd ⟨2, .guard⟩ (by simp) rfl _ rfl
        have h5 := hd ⟨5, .data⟩ (by simp) rfl _ rfl
        have h6 := hd ⟨6, .data⟩ (by simp) rfl _ rfl
        refine qe_run rfl ((wanted_of rfl rfl (hsz 124 (by decide)) h2).trans rfl) (ex_idxS (i := j3) (s := 1) rfl Try.underlying22 (by kernel_rfl) h5 h6 (by omega)) QE.refl ?_
        rfl
       ·refine stepq_env rfl rfl rfl fun _ _ _ _ _ hm _ _ hsz hd _ _ => ?_
        have h2 := hd ⟨2, .guard⟩ (by simp) rfl _ rfl
        have h7 := hd ⟨7, .data⟩ (by simp) rfl _ rfl
        refine qe_run rfl ((wanted_of rfl rfl (hsz 124 (by decide)) h2).trans rfl) (ex_load1 rfl Try.underlying3 rfl h7 (((HAT2.out.mod hm.old (by intro k h1 h2; have hb := Kwmb2.out k h1; omega))).2 0 _ rfl)) QE.refl ?_
        rfl
       ·refine stepq_env rfl rfl rfl fun _ _ _ _ _ _ _ _ hsz hd _ _ => ?_
        have h2 := hd ⟨2, .guard⟩ (by simp) rfl _ rfl
        have h4 := hd ⟨4, .data⟩ (by simp) rfl _ rfl
        have h8 := hd ⟨8, .data⟩ (by simp) rfl _ rfl
        refine qe_run rfl ((wanted_of rfl rfl (hsz 124 (by decide)) h2).trans rfl) (ex_binE rfl h4 h8 (guard_ints _ _ _ _ _ _) (run_neq_i _ _ _ Try.underlying3) (congrArg Value.bool (ne_ff rfl))) QE.refl ?_
        rfl
       ·exact stq (fun E => ex_pick rfl (E.d 2) rfl (E.d 9))
       intro u23_0 hr
       have zu23_0 := hr.size
       have Cx36 := hid (hr.new (S := (fun _ => False)))
       clear hr
       refine QChain.nil fun vs hl hzz hrows hne => ?_
       obtain ⟨Z, hYZ, hZb, hV⟩ := hzz
       have f0 := fvi hV hl 0
       have f2 := fvi hV hl 2
       have f5 := fvi hV hl 5
       have f6 := fvi hV hl 6
       have f10 := fvi hV hl 10
       rw [show vs = [gw vs 0, gw vs 1, gw vs 2, gw vs 3, gw vs 4, gw vs 5, gw vs 6, gw vs 7, gw vs 8, gw vs 9, gw vs 10] from (gw_eta hl).trans rfl]
       have ha0 := HA0.out
       subst ha0
       clear HA0 hV hYZ hZb hsz0 hrows hne oe7 oe13 oe14 oe15
       simp only [putAll, Act.put, List.setIfInBounds_toArray, List.set_cons_zero, List.set_cons_succ, f0, f2, f5, f6, f10]
       clear hl f0 f2 f5 f6 f10
       clear HAT2
       clear Hx32
       clear Hx35
       go_upto_region 25 with (fail)
       refine wp_region_U 157 [133, 114] [0, 1] (fun a0 HA0 => ?_)
       have oe114 := ev HA0 114 rfl
       refine QSeq.pure rfl (.int .i64 ((j3 + 1 : Nat) : Int)) (fun E => ex_binE rfl (E.y 1 oe114) rfl (guard_ints _ _ _ _ _ _) (run_add_i _ _ Try.underlying3) (congrArg (Value.int .i64) (i64_eq (b := ((j3 + 1 : Nat) : Int)) (by omega) (by omega) (by omega)))) ?_
       refine QSeq.pure rfl _ (fun E => ex_move rfl (E.d 0 0)) ?_
       refine QSeq.nil (t' := [_, _]) rfl ?_
       obtain rfl := HA0.out
       clear HA0 oe114
       simp only [pz, Act.put, List.setIfInBounds_toArray, List.set_cons_zero, List.set_cons_succ]
       go_wp2
       go_roundw
       case rel => exact ⟨j3 + 1, (fun k => (P5 k) ∨ (New wn u22_1 k)), by go_num, by omega, by omega, (HQN2.out.mod Cx36.out (fun _ _ h => h)), ((Kwno.out.mod Cx33.out (by intro k h1 h2; first | omega | (have hb := Kwmb2.out k h1; omega) | (have hb := Kwnb1.out k h2; omega) | exact Kwnd.out k h1 h2 | exact Kwnd.out k h2 h1 | (have hb := Kwmb2.out k h1; have hb2 := Kwnb1.out k h2; omega)) (by intro k h1 h2; have hb := Kwnb1.out k h2; omega)).mod Cx36.out (fun _ _ h => h) (fun _ _ h => h)), (by intro k h1 h2; rcases h1 with h1 | h1 <;> first | omega | (have hb := Kwnb1.out k h1; omega) | (have hb := Kwmb2.out k h2; omega) | exact Kwnd.out k h1 h2 | exact Kwnd.out k h2 h1 | (have hb := Kwnb1.out k h1; have hb2 := Kwmb2.out k h2; omega)), (by intro k h1; rcases h1 with h1 | h1 <;> first | omega | (have hb := Kwnb1.out k h1; omega)), ((Kwnk.out.mod Cx33.out (by intro k h1 h2; have hb := Kwnb1.out k h2; omega)).mod Cx36.out (fun _ _ h => h)), ((Kwnm.out.trans Cx33.out (by intro k h1 h2; first | exact h2 | omega | (have hb := Kwnb1.out k h2; omega))).trans Cx36.out (fun _ _ h => h.elim))⟩
       case measure => simp [intOf]; omega
      ·obtain rfl : L1.length = j3 := by omega
       go_upto_region 20 with (fail)
       refine wp_region_U 157 [115] [0] (fun a0 HA0 => ?_)
       have oe113 := ev HA0 113 rfl
       have oe114 := ev HA0 114 rfl
       refine QSeq.pure rfl (.bool false) (fun E => ex_binE rfl (E.v oe114) (E.v oe113) (guard_ints _ _ _ _ _ _) (run_lss_i _ _ _ Try.underlying3) (congrArg Value.bool (decide_eq_false (by omega)))) ?_
       refine QSeq.nil (t' := [_]) rfl ?_
       obtain rfl := HA0.out
       clear HA0 oe113 oe114
       simp only [pz, Act.put, List.setIfInBounds_toArray, List.set_cons_zero, List.set_cons_succ]
       have HQN3 := hid (show NtR (fun k => (P5 k)) wn x 100 [] ((n : Nat) : Int) 0 from (by have h := Kwnn.out; rw [List.drop_of_length_le (Nat.le_refl _)] at h; exact h))
       clear Kwnn
       go_upto_region 26 with (fail)
       refine wp_region_U 157 [135, 136, 134, 137, 138, 16, 163, 17] [0, 1, 2, 3, 4, 5, 6, 7] (fun a0 HA0 => ?_)
       have oe5 := ev HA0 5 rfl
       refine QSeq.pure rfl _ (fun E => ex_move rfl (E.v oe5)) ?_
       refine QSeq.call rfl rfl Try.func10 (TakeN (k := 0) HQN3.out (by simp)) (fun E => args2 (E.d 0 0) rfl) ?_
       rintro e u26_1 ⟨cc, rfl, qc, hm⟩
       have HLc := hid (MgR.len qc)
       have HOc := hid (MgR.one qc)
       refine ⟨_, rfl, ?_⟩
       have Hx37 := hid qc
       have zu26_1 := hm.size
       have Cx38 := hid (show Mod (fun _ => False) wn u26_1 from hm)
       clear hm
       clear qc
       refine QSeq.pure rfl _ (fun E => ex_move rfl (E.d 1 0)) ?_
       refine QSeq.pure rfl (.agg cc.toArray) (fun E => ex_extract rfl (E.d 2 0) rfl) ?_
       refine QSeq.pure rfl (.bool false) (fun E => ex_extract rfl (E.d 2 1) rfl) ?_
       refine QSeq.go fun act E => ?_
       refine qc_alloc rfl (wanted_none rfl) rfl (z := (mg0C 0 0 0)) (by kernel_rfl) ?_
       intro u26_5 qb16 hm
       have zl26_5 := qb16.lt
       have Hx39 := hid qb16
       have zu26_5 := hm.size
       have HMu26_5 := hid hm
       have Cx40 := hid (Cx38.out.goE hm)
       clear hm Cx38
       clear act E qb16
       refine QSeq.go fun act E => ?_
       have hlz : (cc).length = List.length ((mg0C 0 0 0) : List Value) := (by rw [HLc.out]; kernel_rfl)
       refine qc_store rfl (wanted_none rfl) rfl Hx39.out (off := 0) (vs := cc) (by rw [hlz]; kernel_rfl) HOc.out (by rw [hlz]; exact Nat.le_of_eq (Nat.zero_add _)) (E.d 5 0) (ec (E.d 3 2)) ?_
       intro u26_6 qc0 hm
       have qb16 := qc0.eqv (b := (cc : List Value).toArray) (lay_whole (((mg0C 0 0 0) : List Value).toArray) _ (by rw [hlz]; rfl))
       clear qc0 hlz
       have Hx41 := hid qb16
       have zu26_6 := hm.size
       have HMu26_6 := hid hm
       have Cx42 := hid (Mod.goS (S' := (fun _ => False)) Cx40.out hm (fun _ h => h) (by intro k h0 h2; omega))
       clear hm Cx40
       clear act E qb16 Hx39
       refine QSeq.pure rfl _ (fun E => ex_assign rfl (E.d 4 2)) ?_
       have Hx43 := hid ((Hx37.out.mod HMu26_5.out (fun _ _ h => h)).mod HMu26_6.out (by intro k h1 h2; omega))
       clear Hx37 HMu26_5 HMu26_6
       refine QSeq.nil (t' := [_, _, _, _, _, _, _, _]) rfl ?_
       obtain rfl := HA0.out
       clear HA0 oe5
       simp only [pz, Act.put, List.setIfInBounds_toArray, List.set_cons_zero, List.set_cons_succ, List.set_nil]
       clear Hx41
       clear Hx43
       go_upto_region 27 with (fail)
       refine wp_region_U 157 [139, 140, 141, 142, 143, 144, 145, 146, 147, 148, 149, 150, 151, 152, 153, 154, 155, 156, 4] [0, 1, 2, 3, 4, 5, 6, 7, 8, 9, 10, 11, 12, 13, 14, 15, 16, 17, 18] (fun a0 HA0 => ?_)
       have oe0 := ev HA0 0 rfl
       have oe5 := ev HA0 5 rfl
       have oe17 := ev HA0 17 rfl
       refine QSeq.pure rfl _ (fun E => ex_move rfl (E.v oe17)) ?_
       refine QSeq.pure rfl (.bool true) (fun E => ex_not rfl (E.d 0 0)) ?_
       refine QSeq.pure rfl _ (fun E => ex_move rfl (E.d 1 0)) ?_
       refine QSeq.pureG rfl (.pointer (some ⟨x, 0, none⟩)) (fun E => ((wanted_of rfl rfl (E.sz 141 (by decide)) (E.d 2 0)).trans rfl)) (fun E => ex_move rfl (E.v oe5)) ?_
       refine QSeq.go fun act E => ?_
       refine qc_callF (args := #[.pointer (some ⟨x, 0, none⟩)]) rfl ((wanted_of rfl rfl (E.sz 141 (by decide)) (E.d 2 1)).trans rfl) rfl Try.func11 (args1 (E.d 3 0)) (LenB (HQN3.out.mod Cx42.out (fun _ _ h => h))) ?_
       rintro e w2 ⟨rfl, hw2⟩
       obtain rfl : u26_6 = w2 := by first | exact hw2 | exact hw2.symm
       refine ⟨_, rfl, ?_⟩
       clear act E
       refine QSeq.pureG rfl (.bool true) (fun E => ((wanted_of rfl rfl (E.sz 141 (by decide)) (E.d 2 2)).trans rfl)) (fun E => ex_binE rfl (E.d 4 0) rfl (guard_ints _ _ _ _ _ _) (run_eql_i _ _ _ Try.underlying3) (congrArg Value.bool (eq_tt rfl))) ?_
       refine QSeq.pure rfl (.bool true) (fun E => ex_pick rfl (E.d 2 3) (E.d 5 0) rfl) ?_
       refine QSeq.pure rfl _ (fun E => ex_move rfl (E.d 6 0)) ?_
       refine QSeq.pureG rfl (.pointer (some ⟨x, 0, none⟩)) (fun E => ((wanted_of rfl rfl (E.sz 146 (by decide)) (E.d 7 0)).trans rfl)) (fun E => ex_move rfl (E.v oe5)) ?_
       refine QSeq.go fun act E => ?_
       refine qc_callF (args := #[.pointer (some ⟨x, 0, none⟩)]) rfl ((wanted_of rfl rfl (E.sz 146 (by decide)) (E.d 7 1)).trans rfl) rfl Try.func12 (args1 (E.d 8 0)) (SentB (HQN3.out.mod Cx42.out (fun _ _ h => h))) ?_
       rintro e w2 ⟨rfl, hw2⟩
       obtain rfl : u26_6 = w2 := by first | exact hw2 | exact hw2.symm
       refine ⟨_, rfl, ?_⟩
       clear act E
       refine QSeq.pureG rfl (.slice ak ks.length capk) (fun E => ((wanted_of rfl rfl (E.sz 146 (by decide)) (E.d 7 2)).trans rfl)) (fun E => ex_move rfl (E.v oe0)) ?_
       refine QSeq.pureG rfl (.int .i64 ks.length) (fun E => ((wanted_of rfl rfl (E.sz 146 (by decide)) (E.d 7 3)).trans rfl)) (fun E => ex_lenS rfl (E.d 10 0) Try.underlying22) ?_
       refine QSeq.pureG rfl (.int .i64 ((n : Nat) : Int)) (fun E => ((wanted_of rfl rfl (E.sz 146 (by decide)) (E.d 7 4)).trans rfl)) (fun E => ex_min (r := ((n : Nat) : Int)) rfl (E.d 11 0) rfl (by have h := HN.out; split <;> omega)) ?_
       refine QSeq.pureG rfl (.bool true) (fun E => ((wanted_of rfl rfl (E.sz 146 (by decide)) (E.d 7 5)).trans rfl)) (fun E => ex_binE rfl (E.d 9 3) (E.d 12 0) (guard_ints _ _ _ _ _ _) (run_eql_i _ _ _ Try.underlying3) (congrArg Value.bool (eq_tt rfl))) ?_
       refine QSeq.pure rfl (.bool true) (fun E => ex_pick rfl (E.d 7 6) (E.d 13 0) rfl) ?_
       refine QSeq.pure rfl _ (fun E => ex_move rfl (E.d 14 0)) ?_
       refine QSeq.go fun act E => ?_
       refine qc_callF (args := #[]) rfl ((wanted_of rfl rfl (E.sz 154 (by decide)) (E.d 15 0)).trans rfl) rfl Try.func13 args0 (wakes23 _) ?_
       rintro e u27_16 ⟨rfl, hm⟩
       refine ⟨_, rfl, ?_⟩
       have zu27_16 := hm.size
       have Cx44 := hid (show Mod (fun _ => False) u26_6 u27_16 from hm)
       clear hm
       clear act E
       refine QSeq.pure rfl (.bool true) (fun E => ex_pick rfl (E.d 15 1) (E.d 16 0) rfl) ?_
       refine QSeq.pure rfl _ (fun E => ex_assign rfl (E.d 17 0)) ?_
       refine QSeq.nil (t' := [_, _, _, _, _, _, _, _, _, _, _, _, _, _, _, _, _, _, _]) rfl ?_
       obtain rfl := HA0.out
       clear HA0 oe0 oe5 oe17
       simp only [pz, Act.put, List.setIfInBounds_toArray, List.set_cons_zero, List.set_cons_succ]
       go_wp2
       go_ret
       exact ⟨rfl, ((Kwnm.out.trans Cx42.out (fun _ _ h => h.elim)).trans Cx44.out (fun _ _ h => h.elim))⟩
end Go.Proofs.Ytekbmpjdombedaa

namespace Go.Proofs.Ytekbmpjdombedaa.netOrder
open Go Go.RowKit Go.Gv Go.ChangeShapes Go.WideShapes Go.ChangeAt
open Go.ChangeMaps (open_string shut_string)

theorem own : ownKnob Try.prog.godebug = none := by kernel_rfl
theorem laidOut : laidOutB Try.prog = true := by kernel_rfl

theorem lifted (os : Os) (started : os.Started) (H : Type) (enc : TypeId × Value → H) :
    ReturnsInHanded {} Try.checked os 3 .any (Rows.netOrderSpec.pre6 enc Try.prog Try.f3 Rows.netOrderRow.domain false) (Rows.netOrderSpec.post enc Try.prog Try.f3 false true false false) := by
  refine returnsInHanded_of_change (C := Try.checked) own started (by kernel_rfl) Try.func3
    (ChangeSpec.witness6 (enc := enc) (C := Try.checked) false ⟨#[], #[.slice none 0 0, .slice none 0 0], []⟩ 8 (by kernel_rfl) (by kernel_rfl) (by kernel_rfl) (by kernel_rfl)) ?_
  intro W base args ds gs before hval0 hW hcnd _
  have hval : ∀ (j : Nat) t v, Try.f3.params[j]? = some t → args[j]? = some v → Value.okWide Try.prog W .any base t v := hval0
  have hW' := hW
  obtain ⟨p, q, hA0, hV, rfl, hfz, hnd⟩ := hW
  have hA : DataW.TrodAll enc Try.prog W 0 (fun _ => true) true Try.f3.params.toList args.toList ds p := hA0
  rw [Try.params3] at hA hval
  obtain ⟨v0, vs0, d0, ds0, p0, q0, hargs, rfl, rfl, h0, r0⟩ := trodAll_cons hA
  obtain ⟨v1, vs1, d1, ds1, p1, q1, rfl, rfl, rfl, h1, r1⟩ := trodAll_cons r0
  obtain ⟨rfl, rfl, rfl⟩ := trodAll_nil r1
  obtain rfl : args = #[v0, v1] := by cases args; simp_all
  obtain ⟨rfl, rfl⟩ := trodVars_none hV
  have k0 := h0
  have lt0 : ∀ x ∈ p0, x.block < W.heap.size := by obtain ⟨m, hm⟩ := k0; exact DataW.trod_lt m _ _ _ hm
  have k1 := h1
  have lt1 : ∀ x ∈ p1, x.block < W.heap.size := by obtain ⟨m, hm⟩ := k1; exact DataW.trod_lt m _ _ _ hm
  obtain ⟨l0, e0⟩ := slice_arg reads_int Try.underlying22 (by kernel_rfl) k0 (hval 0 22 v0 rfl rfl)
  obtain ⟨l1, e1⟩ := slice_arg reads_int Try.underlying22 (by kernel_rfl) k1 (hval 1 22 v1 rfl rfl)
  clear hA0 hval0
  refine (NetOrder_walk l0 l1 v0 v1 W e0 e1).mono fun e W' ⟨he, hmod⟩ => ?_
  subst he
  have bel : Below W.heap.size W W' := hmod.below (Nat.le_refl _) (fun _ _ => id)
  exact ⟨_, rfl, _, _, _, [], _, [], hW', trodAll_mk1 (shut_bool Try.underlying4 _), (trodAll_cons_mk (Below.trod laidOut (by kernel_rfl) (of_decide_eq_true (by kernel_rfl)) k0 bel lt0) (trodAll_cons_mk (Below.trod laidOut (by kernel_rfl) (of_decide_eq_true (by kernel_rfl)) k1 bel lt1) trodAll_mk0)), rfl, bel.frame _, fun h => by cases h⟩

theorem over : Rows.netOrderRow.holds Try.pinned (OpenSpec.ofChange Rows.netOrderSpec) :=
  OpenClaim.holds_of_wide 3 Try.f3 rfl rfl rfl rfl rfl rfl rfl ⟨rfl, rfl, rfl, rfl, rfl⟩ rfl rfl rfl rfl rfl (by kernel_rfl) Try.func3 (by kernel_rfl)
    (of_decide_eq_true (by kernel_rfl)) (by unfold Func.isWrapper; first | (rw [if_pos (by decide +kernel)]; kernel_rfl) | (rw [if_neg (by decide +kernel)]; exact ⟨rfl, rfl⟩))
    (fun os started H enc _ => lifted os started H enc)

theorem proved : Rows.NetOrderSaid := over
end Go.Proofs.Ytekbmpjdombedaa.netOrder
