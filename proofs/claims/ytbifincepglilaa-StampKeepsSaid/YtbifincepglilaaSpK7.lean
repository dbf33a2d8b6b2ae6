/- StampKeeps: clock and floor never fall; what a name was stamped with stays, whatever else comes in its name: for every list of calls the law returns true. No condition. -/
import Derived.Test.YtbifincepglilaaSpK6
import Derived.ProofKit
import Derived.OpenShut
import Derived.ChangeOld
set_option maxRecDepth 100000
set_option linter.unusedVariables false
/- gavellaw09.StampKeeps. -/
namespace Go.Proofs.Ytbifincepglilaa
open Go Go.RowKit Go.Gv

theorem laid_kept (X : List Int) (t : Nat) (hX : X.length = 32) : laid [(0, 32), (32, 1)] [.int .u8 0, .int .u8 0, .int .u8 0, .int .u8 0, .int .u8 0, .int .u8 0, .int .u8 0, .int .u8 0, .int .u8 0, .int .u8 0, .int .u8 0, .int .u8 0, .int .u8 0, .int .u8 0, .int .u8 0, .int .u8 0, .int .u8 0, .int .u8 0, .int .u8 0, .int .u8 0, .int .u8 0, .int .u8 0, .int .u8 0, .int .u8 0, .int .u8 0, .int .u8 0, .int .u8 0, .int .u8 0, .int .u8 0, .int .u8 0, .int .u8 0, .int .u8 0, .int .u64 0] [(0, hv X), (1, .int .u64 (t : Nat))] = some (X.map bv ++ [.int .u64 (t : Nat)]) := by
 have h1 : (hv X).cells.toList = X.map bv := by simp [hv, Value.cells]
 have h2 : (hv X).cells.size = 32 := by simp [hv, Value.cells, hX]
 unfold laid
 simp only [List.getElem?_cons_zero]
 rw [if_neg (by rw [h2]; simp), h1]
 unfold laid
 simp only [List.getElem?_cons_succ, List.getElem?_cons_zero]
 rw [if_neg (by simp [Value.cells, hX])]
 unfold laid
 congr 1
 have e : ∀ (A : List Value) (u v : Value), A.length = 32 → (A ++ [u]).take 32 ++ [v] ++ (A ++ [u]).drop 33 = A ++ [v] := by
  intro A u v hA
  rw [List.take_append_of_le_length (by omega), List.take_of_length_le (by omega), List.drop_eq_nil_of_le (by simp; omega)]
  simp
 have := e (X.map bv) (.int .u64 0) (.int .u64 (t : Nat)) (by simp [hX])
 simpa [Value.cells] using this
set_option maxHeartbeats 3000000 in
theorem StampKeeps_walk (l : List Sa) (vi : Value) (w : World) (hl : RdS SaR (fun k => k < w.heap.size) w vi l) : Calls Try.prog 6 #[vi] w fun e w' => e = .returned (.bool true) ∧ Mod (fun _ => False) w w' := by
 have hU : U64 = 18446744073709551616 := rfl
 obtain ⟨ai, cap, rfl⟩ := hl.shape
 have HL := Lib.hid hl
 clear hl
 go_enter Try.func6, Try.ntmps6
 go_upto_region 1 with (fail)
 have HM0 := hid (Mod.refl (fun _ => False) w)
 go_upto_region 1 with (fail)
 refine wp_region_U 173 [23, 3, 175] [0, 1, 2] (fun a0 HA0 => ?_)
 refine QSeq.pure rfl (.agg #[.int .i64 1, .int .i64 3]) (fun E => ex_build rfl (z := [.int .i64 0, .int .i64 0]) (places := [(0, 1), (1, 1)]) (by kernel_rfl) (parts := [(0, .int .i64 1), (1, .int .i64 3)]) (by simp only [List.map_toArray, List.map_cons, List.map_nil]; try rfl) (r := [.int .i64 1, .int .i64 3]) (by rfl)) ?_
 refine QSeq.go fun act E => ?_
 refine qc_alloc rfl (wanted_none rfl) rfl (z := [.int .i64 0, .int .i64 0]) (by kernel_rfl) ?_
 intro u1_1 qb3 hm
 have zl1_1 := qb3.lt
 have Hx1 := hid qb3
 have zu1_1 := hm.size
 have Cx2 := hid (show Mod (fun _ => False) w u1_1 from hm)
 clear hm
 clear act E qb3
 refine QSeq.go fun act E => ?_
 have hlz : (([.int .i64 1, .int .i64 3] : List Value)).length = List.length ([.int .i64 0, .int .i64 0] : List Value) := rfl
 refine qc_store rfl (wanted_none rfl) rfl Hx1.out (off := 0) (vs := ([.int .i64 1, .int .i64 3] : List Value)) (by rw [hlz]; kernel_rfl) (by intro u hu; simp only [List.mem_cons, List.not_mem_nil, or_false] at hu; rcases hu with rfl | rfl <;> rfl) (by rw [hlz]; exact Nat.le_of_eq (Nat.zero_add _)) (E.d 1 0) (ec (E.d 0 1)) ?_
 intro u1_2 qc0 hm
 have qb3 := qc0.eqv (b := (([.int .i64 1, .int .i64 3] : List Value) : List Value).toArray) (lay_whole (#[.int .i64 0, .int .i64 0]) _ (by rw [hlz]; rfl))
 clear qc0 hlz
 have Hx3 := hid qb3
 have zu1_2 := hm.size
 have HMu1_2 := hid hm
 have Cx4 := hid (Mod.goS (S' := (fun _ => False)) Cx2.out hm (fun _ h => h) (by intro k h0 h2; omega))
 clear hm Cx2
 clear act E qb3 Hx1
 clear HMu1_2
 refine QSeq.nil (t' := [_, _, _]) rfl ?_
 obtain rfl := HA0.out
 clear HA0
 simp only [pz, Act.put, List.setIfInBounds_toArray, List.set_cons_zero, List.set_cons_succ, List.set_nil]
 go_upto_region 2 with (fail)
 refine wp_region_U 173 [24, 4] [0, 1] (fun a0 HA0 => ?_)
 refine QSeq.call rfl rfl Try.func9 (Book_new_Q _) (fun E => args0) ?_
 rintro e u2_0 ⟨g, rfl, qbk, hm⟩
 refine ⟨_, rfl, ?_⟩
 have Hx5 := hid qbk
 have zu2_0 := hm.size
 have Cx6 := hid (show Mod (fun _ => False) u1_2 u2_0 from hm)
 clear hm
 clear qbk
 refine QSeq.pure rfl _ (fun E => ex_assign rfl (E.d 0 0)) ?_
 refine QSeq.nil (t' := [_, _]) rfl ?_
 obtain rfl := HA0.out
 clear HA0
 simp only [pz, Act.put, List.setIfInBounds_toArray, List.set_cons_zero, List.set_cons_succ]
 go_upto_region 3 with (fail)
 refine wp_region_U 173 [26, 27, 25, 28, 29, 5, 6] [0, 1, 2, 3, 4, 5, 6] (fun a0 HA0 => ?_)
 have oe3 := ev HA0 3 rfl
 refine QSeq.pure rfl _ (fun E => ex_loadA rfl Try.underlying26 rfl (off := 0) (cs := [.int .i64 1, .int .i64 3]) (by kernel_rfl) (E.v oe3) (Cs.litA (Hx3.out.mod Cx6.out (fun h => h)) rfl)) ?_
 refine QSeq.call rfl rfl Try.func11 (New_Q (F := 1) (C := 3) (r := 1) (by decide) (by decide) (by decide) _) (fun E => args2 (E.d 0 0) rfl) ?_
 rintro e u3_1 ⟨p, rfl, qsp, hm⟩
 refine ⟨_, rfl, ?_⟩
 have Hx7 := hid qsp
 have zu3_1 := hm.size
 have Cx8 := hid (show Mod (fun _ => False) u2_0 u3_1 from hm)
 clear hm
 clear qsp
 refine QSeq.pure rfl _ (fun E => ex_move rfl (E.d 1 0)) ?_
 refine QSeq.pure rfl (.pointer (some ⟨p, 0, none⟩)) (fun E => ex_extract rfl (E.d 2 0) rfl) ?_
 refine QSeq.pure rfl (.int .i64 0) (fun E => ex_extract rfl (E.d 2 1) rfl) ?_
 refine QSeq.pure rfl _ (fun E => ex_assign rfl (E.d 3 1)) ?_
 refine QSeq.pure rfl _ (fun E => ex_assign rfl (E.d 4 1)) ?_
 refine QSeq.nil (t' := [_, _, _, _, _, _, _]) rfl ?_
 obtain rfl := HA0.out
 clear HA0 oe3
 simp only [pz, Act.put, List.setIfInBounds_toArray, List.set_cons_zero, List.set_cons_succ]
 go_upto_region 4 with (fail)
 refine wp_region_U 173 [30, 31, 32, 33, 34, 35, 36, 37, 38, 39] [0, 1, 2, 3, 4, 5, 6, 7, 8, 9] (fun a0 HA0 => ?_)
 have oe4 := ev HA0 4 rfl
 have oe5 := ev HA0 5 rfl
 have oe6 := ev HA0 6 rfl
 refine QSeq.pure rfl _ (fun E => ex_move rfl (E.v oe4)) ?_
 refine QSeq.pure rfl (.bool false) (fun E => ex_bin rfl (E.d 0 0) rfl (guard_ptr _ _ _ _ _ _ _) (run_eql_nil _ Try.underlying27 (by kernel_rfl) _)) ?_
 refine QSeq.pure rfl _ (fun E => ex_move rfl (E.d 1 0)) ?_
 refine QSeq.pureG rfl (.int .i64 0) (fun E => ((wanted_of rfl rfl (E.sz 32 (by decide)) (E.d 2 0)).trans rfl)) (fun E => ex_move rfl (E.v oe6)) ?_
 refine QSeq.pureG rfl (.bool false) (fun E => ((wanted_of rfl rfl (E.sz 32 (by decide)) (E.d 2 1)).trans rfl)) (fun E => ex_binE rfl (E.d 3 0) rfl (guard_ints _ _ _ _ _ _) (run_neq_i _ _ _ Try.underlying40) (congrArg Value.bool (show _ = false from rfl))) ?_
 refine QSeq.pure rfl (.bool false) (fun E => ex_pick rfl (E.d 2 2) rfl (E.d 4 0)) ?_
 refine QSeq.pure rfl _ (fun E => ex_move rfl (E.d 5 0)) ?_
 refine QSeq.pureG rfl (.pointer (some ⟨p, 0, none⟩)) (fun E => ((wanted_of rfl rfl (E.sz 36 (by decide)) (E.d 6 0)).trans rfl)) (fun E => ex_move rfl (E.v oe5)) ?_
 refine QSeq.pureG rfl (.bool false) (fun E => ((wanted_of rfl rfl (E.sz 36 (by decide)) (E.d 6 1)).trans rfl)) (fun E => ex_bin rfl (E.d 7 0) rfl (guard_ptr _ _ _ _ _ _ _) (run_eql_nil _ Try.underlying39 (by kernel_rfl) _)) ?_
 refine QSeq.pure rfl (.bool false) (fun E => ex_pick rfl (E.d 6 2) rfl (E.d 8 0)) ?_
 refine QSeq.nil (t' := [_, _, _, _, _, _, _, _, _, _]) rfl ?_
 obtain rfl := HA0.out
 clear HA0 oe4 oe5 oe6
 simp only [pz, Act.put, List.setIfInBounds_toArray, List.set_cons_zero, List.set_cons_succ]
 clear Hx3
 go_upto_region 6 with (fail)
 refine wp_region_U 173 [40, 7] [0, 1] (fun a0 HA0 => ?_)
 refine QSeq.go fun act E => ?_
 refine qc_mapK rfl (wanted_none rfl) rfl ?_
 intro u6_0 qkm hm
 have zl6_0 := qkm.lt
 have Hx9 := hid qkm
 have zu6_0 := hm.size
 have Cx10 := hid (show Mod (fun _ => False) u3_1 u6_0 from hm)
 clear hm
 clear act E qkm
 refine QSeq.pure rfl _ (fun E => ex_assign rfl (E.d 0 0)) ?_
 refine QSeq.nil (t' := [_, _]) rfl ?_
 obtain rfl := HA0.out
 clear HA0
 simp only [pz, Act.put, List.setIfInBounds_toArray, List.set_cons_zero, List.set_cons_succ]
 go_upto_region 7 with (fail)
 refine wp_region_U 173 [8] [0] (fun a0 HA0 => ?_)
 refine QSeq.pure rfl (.int .i64 0) (fun E => ex_assign rfl rfl) ?_
 refine QSeq.nil (t' := [_]) rfl ?_
 obtain rfl := HA0.out
 clear HA0
 simp only [pz, Act.put, List.setIfInBounds_toArray, List.set_cons_zero, List.set_cons_succ]
 go_wp2
 go_loopw [8] (fun ti wr => ∃ (i : Nat) (s : SS) (L : List (Int × List Int)), ti = .int .i64 (i : Nat) ∧ i ≤ 25 ∧ L.length ≤ 2 * i ∧ u6_0.heap.size ≤ wr.heap.size ∧ SpR (fun k => (New u2_0 u3_1 k)) wr p 1 3 1 s ∧ BkR (fun k => (New u1_2 u2_0 k)) wr g L ∧ HmB wr (u3_1.heap.size) s.m ∧ RdS SaR (fun k => k < w.heap.size) wr (.slice ai l.length cap) l ∧ Mod (fun _ => False) w wr) (fun ti _ => 26 - (intOf ti).toNat)
 case atStart => exact ⟨0, ss0, [], rfl, by omega, by simp, Nat.le_refl _, (Hx7.out.mod Cx10.out (fun _ _ h => h)), ((Hx5.out.mod Cx8.out (fun _ _ h => h)).mod Cx10.out (fun _ _ h => h)), Hx9.out, ((((HL.out.mod Cx4.out (fun _ _ h => h)).mod Cx6.out (fun _ _ h => h)).mod Cx8.out (fun _ _ h => h)).mod Cx10.out (fun _ _ h => h)), ((((HM0.out.trans Cx4.out (fun _ _ h => h.elim)).trans Cx6.out (fun _ _ h => h.elim)).trans Cx8.out (fun _ _ h => h.elim)).trans Cx10.out (fun _ _ h => h.elim))⟩
 case round =>
  obtain ⟨i, s, L, rfl, hi25, hLl, hz, k1, k2, k3, k4, k5⟩ := hrel
  obtain ⟨wl, rfl⟩ : ∃ x, x = wr := ⟨_, rfl⟩
  have hbd := k1.bd
  have HOKS := hid k1.oks
  have HPW := hid k1.pw
  have K1 := Lib.hid k1
  have K2 := Lib.hid k2
  have K3 := Lib.hid k3
  have K4 := Lib.hid k4
  have K5 := Lib.hid k5
  clear k1 k2 k3 k4 k5 HL HM0 Hx5 Hx7 Hx9
  go_upto_region 8 with (fail)
  refine wp_region_U 173 [41, 42, 43, 44, 45, 46, 47, 48] [0, 1, 2, 3, 4, 5, 6, 7] (fun a0 HA0 => ?_)
  have oe0 := ev HA0 0 rfl
  have oe8 := ev HA0 8 rfl
  refine QSeq.pure rfl _ (fun E => ex_move rfl (E.v oe8)) ?_
  refine QSeq.pure rfl _ (fun E => ex_move rfl (E.v oe0)) ?_
  refine QSeq.pure rfl (.int .i64 l.length) (fun E => ex_lenS rfl (E.d 1 0) Try.underlying56) ?_
  refine QSeq.pure rfl (.bool (decide (((i : Nat) : Int) < ((l.length : Nat) : Int)))) (fun E => ex_bin rfl (E.d 0 2) (E.d 2 0) (guard_ints _ _ _ _ _ _) (run_lss_i _ _ _ Try.underlying3)) ?_
  refine QSeq.pure rfl _ (fun E => ex_move rfl (E.d 3 0)) ?_
  refine QSeq.may (b := (decide (((i : Nat) : Int) < ((l.length : Nat) : Int)))) rfl (.int .i64 ((i : Nat) : Int)) (fun E => ((wanted_of rfl rfl (E.sz 45 (by decide)) (E.d 4 0)).trans (beq_t _))) (fun E hb => ex_move rfl (E.v oe8)) ?_
  intro v8_5 hw
  have hv8_5 := hid hw
  clear hw
  refine QSeq.may (b := (decide (((i : Nat) : Int) < ((l.length : Nat) : Int)))) rfl (.bool (decide (((i : Nat) : Int) < 25))) (fun E => ((wanted_of rfl rfl (E.sz 45 (by decide)) (E.d 4 1)).trans (beq_t _))) (fun E hb => ex_bin rfl ((E.q 5 0 hv8_5.out).1 hb) rfl (guard_ints _ _ _ _ _ _) (run_lss_i _ _ _ Try.underlying3)) ?_
  intro v8_6 hw
  have hv8_6 := hid hw
  clear hw
  obtain ⟨pb7, hb7⟩ : ∃ b : Bool, b = ((decide (((i : Nat) : Int) < ((l.length : Nat) : Int))) && (decide (((i : Nat) : Int) < 25))) := ⟨_, rfl⟩
  have HB7 := hid hb7
  clear hb7
  refine QSeq.pure rfl (.bool pb7) (fun E => ex_pickE rfl (E.d 4 2) rfl rfl ((and_val fun hb => (E.q 6 0 hv8_6.out).1 hb).trans (congrArg Value.bool HB7.out.symm))) ?_
  clear hv8_5 hv8_6
  refine QSeq.nil (t' := [_, _, _, _, _, _, _, _]) rfl ?_
  obtain rfl := HA0.out
  clear HA0 oe0 oe8
  simp only [pz, Act.put, List.setIfInBounds_toArray, List.set_cons_zero, List.set_cons_succ]
  by_cases hc : i < l.length ∧ i < 25
  ·obtain ⟨hc1, hc2⟩ := hc
   obtain rfl : pb7 = true := HB7.out.trans (by simp only [Bool.and_eq_true, decide_eq_true_eq]; omega)
   obtain ⟨g0, o0, cs, eao, hrg, hrd, hcs⟩ := K4.out.at hc1
   obtain ⟨va, rfl, hoka, hva⟩ := hrd
   generalize l[i] = a at hva hoka hcs
   obtain ⟨aa, cpa, rfl⟩ := hva.shape
   subst eao
   have HAT := hid (show CellsAt (fun k => k < w.heap.size) wl g0 (o0 + i * 6) (a.cells (.slice aa a.b.length cpa)) from ⟨hrg, hcs⟩)
   have HEL := Lib.hid hva
   have HOK := Lib.hid hoka
   clear hrg hcs hva hoka
   go_upto_region 10 with (fail)
   refine wp_region_U 173 [51, 52, 53, 54, 9, 178] [0, 1, 2, 3, 4, 5] (fun a0 HA0 => ?_)
   have oe0 := ev HA0 0 rfl
   have oe8 := ev HA0 8 rfl
   refine QSeq.pure rfl _ (fun E => ex_move rfl (E.v oe0)) ?_
   refine QSeq.pure rfl _ (fun E => ex_move rfl (E.v oe8)) ?_
   refine QSeq.pure rfl (.pointer (some ⟨g0, o0 + i * 6, none⟩)) (fun E => ex_idxS (i := i) (s := 6) rfl Try.underlying56 (by kernel_rfl) (E.d 0 1) (E.d 1 0) (by omega)) ?_
   refine QSeq.pure rfl _ (fun E => ex_loadA rfl Try.underlying59 rfl (off := o0 + i * 6) (cs := [.int .i64 a.d, .int .i64 a.x, .int .u64 (a.t : Nat), .int .i64 a.cl, .int .i64 a.sq, .slice aa a.b.length cpa]) (by kernel_rfl) (E.d 2 0) (fun j u hu => (HAT.out).2 j u hu)) ?_
   refine QSeq.go fun act E => ?_
   refine qc_alloc rfl (wanted_none rfl) rfl (z := [.int .i64 0, .int .i64 0, .int .u64 0, .int .i64 0, .int .i64 0, .slice none 0 0]) (by kernel_rfl) ?_
   intro u10_4 qac hm
   have zl10_4 := qac.lt
   have Hx11 := hid qac
   have zu10_4 := hm.size
   have Cx12 := hid (show Mod (fun _ => False) wl u10_4 from hm)
   clear hm
   clear act E qac
   refine QSeq.go fun act E => ?_
   have hlz : (([.int .i64 a.d, .int .i64 a.x, .int .u64 (a.t : Nat), .int .i64 a.cl, .int .i64 a.sq, .slice aa a.b.length cpa] : List Value)).length = List.length ([.int .i64 0, .int .i64 0, .int .u64 0, .int .i64 0, .int .i64 0, .slice none 0 0] : List Value) := rfl
   refine qc_store rfl (wanted_none rfl) rfl Hx11.out (off := 0) (vs := ([.int .i64 a.d, .int .i64 a.x, .int .u64 (a.t : Nat), .int .i64 a.cl, .int .i64 a.sq, .slice aa a.b.length cpa] : List Value)) (by rw [hlz]; kernel_rfl) (by intro u hu; simp only [List.mem_cons, List.not_mem_nil, or_false] at hu; rcases hu with rfl | rfl | rfl | rfl | rfl | rfl <;> rfl) (by rw [hlz]; exact Nat.le_of_eq (Nat.zero_add _)) (E.d 4 0) (ec (E.d 3 1)) ?_
   intro u10_5 qc0 hm
   have qac := qc0.eqv (b := (([.int .i64 a.d, .int .i64 a.x, .int .u64 (a.t : Nat), .int .i64 a.cl, .int .i64 a.sq, .slice aa a.b.length cpa] : List Value) : List Value).toArray) (lay_whole (#[.int .i64 0, .int .i64 0, .int .u64 0, .int .i64 0, .int .i64 0, .slice none 0 0]) _ (by rw [hlz]; rfl))
   clear qc0 hlz
   have Hx13 := hid qac
   have zu10_5 := hm.size
   have HMu10_5 := hid hm
   have Cx14 := hid (Mod.goS (S' := (fun _ => False)) Cx12.out hm (fun _ h => h) (by intro k h0 h2; omega))
   clear hm Cx12
   clear act E qac Hx11
   clear HMu10_5
   refine QSeq.nil (t' := [_, _, _, _, _, _]) rfl ?_
   obtain rfl := HA0.out
   clear HA0 oe0 oe8
   simp only [pz, Act.put, List.setIfInBounds_toArray, List.set_cons_zero, List.set_cons_succ, List.set_nil]
   clear HAT
   have hat : a.t < U64 := HOK.out.2.2.1
   obtain ⟨m, hm⟩ : ∃ m : Nat, within a.d 6 = m := ⟨(within a.d 6).toNat, by have := within_range a.d 6 (by decide); omega⟩
   have HW := hid (Within_any a.d 6 (by decide) (by decide) HOK.out.1)
   rw [hm] at HW
   clear hm
   go_upto_region 11 with (fail)
   refine wp_region_U 173 [55, 56, 57, 58, 10, 11] [0, 1, 2, 3, 4, 5] (fun a0 HA0 => ?_)
   have oe5 := ev HA0 5 rfl
   refine QSeq.pure rfl _ (fun E => ex_move rfl (E.v oe5)) ?_
   refine QSeq.go fun act E => ?_
   refine qc_callF (args := #[.pointer (some ⟨p, 0, none⟩)]) rfl (wanted_none rfl) rfl Try.func19 (args1 (E.d 0 0)) (Now_Q (K1.out.mod Cx14.out (fun _ _ h => h))) ?_
   rintro e w2 ⟨rfl, hw2⟩
   obtain rfl : u10_5 = w2 := by first | exact hw2 | exact hw2.symm
   refine ⟨_, rfl, ?_⟩
   clear act E
   refine QSeq.pure rfl _ (fun E => ex_move rfl (E.v oe5)) ?_
   refine QSeq.go fun act E => ?_
   refine qc_callF (args := #[.pointer (some ⟨p, 0, none⟩)]) rfl (wanted_none rfl) rfl Try.func16 (args1 (E.d 2 0)) (Floor_Q (K1.out.mod Cx14.out (fun _ _ h => h))) ?_
   rintro e w2 ⟨rfl, hw2⟩
   obtain rfl : u10_5 = w2 := by first | exact hw2 | exact hw2.symm
   refine ⟨_, rfl, ?_⟩
   clear act E
   refine QSeq.pure rfl _ (fun E => ex_assign rfl (E.d 1 2)) ?_
   refine QSeq.pure rfl _ (fun E => ex_assign rfl (E.d 3 1)) ?_
   refine QSeq.nil (t' := [_, _, _, _, _, _]) rfl ?_
   obtain rfl := HA0.out
   clear HA0 oe5
   simp only [pz, Act.put, List.setIfInBounds_toArray, List.set_cons_zero, List.set_cons_succ]
   obtain ⟨kc, hkc⟩ : ∃ m : Nat, within a.cl 3 = m := ⟨(within a.cl 3).toNat, by have := within_range a.cl 3 (by decide); omega⟩
   have rkc := within_range a.cl 3 (by decide)
   have HWkc := hid (Within_any a.cl 3 (by decide) (by decide) HOK.out.2.2.2.1)
   rw [hkc] at HWkc rkc
   clear hkc
   obtain ⟨ks, hks⟩ : ∃ m : Nat, within a.sq 4 = m := ⟨(within a.sq 4).toNat, by have := within_range a.sq 4 (by decide); omega⟩
   have rks := within_range a.sq 4 (by decide)
   have HWks := hid (Within_any a.sq 4 (by decide) (by decide) HOK.out.2.2.2.2)
   rw [hks] at HWks rks
   clear hks
   obtain ⟨k1, hk1⟩ : ∃ x, x = 1 + ks := ⟨_, rfl⟩
   have HNK := hid (show NmK (((kc : Nat) : Int), ((k1 : Nat) : Int)) from ⟨by unfold I64; (try dsimp only); omega, by unfold I64; (try dsimp only); omega⟩)
   go_upto_region 12 with (fail)
   generalize ha0 : Act.mk _ _ = a0
   have oe9 : a0.eval (.tmp 9) = .pointer (some ⟨wl.heap.size, 0, none⟩) := by rw [← ha0]; rfl
   have hsz0 : a0.tmps.size = 173 := by rw [← ha0]; rfl
   have HA0 := hid ha0
   clear ha0
   refine wp_region_Q 173 hsz0 (by kernel_rfl) (by kernel_rfl) [59, 60, 61, 62, 63, 64, 65, 66, 67, 68, 12, 184] (by kernel_rfl) (by decide) (fun _ => False) (fun _ _ => False) (fun _ _ h => h) [qi (.pointer (some ⟨wl.heap.size, 3, none⟩)), qi (.pointer (some ⟨wl.heap.size, 3, none⟩)), qi (.int .i64 a.cl), qi (.int .i64 ((kc : Nat) : Int)), qi (.pointer (some ⟨wl.heap.size, 3, none⟩)), qi (.pointer (some ⟨wl.heap.size, 4, none⟩)), qi (.int .i64 a.sq), qi (.int .i64 ((ks : Nat) : Int)), qi (.int .i64 ((k1 : Nat) : Int)), qi (.agg #[.int .i64 ((kc : Nat) : Int), .int .i64 ((k1 : Nat) : Int)]), qa, qa] ⟨qi_stable, qi_stable, qi_stable, qi_stable, qi_stable, qi_stable, qi_stable, qi_stable, qi_stable, qi_stable, qa_stable, qa_stable, trivial⟩ [] (by kernel_rfl) (by decide) (by kernel_rfl) [⟨10, 11, 30, [.int .i64 0, .int .i64 0], 0, (fun t => [.int .i64 ((kc : Nat) : Int), .int .i64 ((k1 : Nat) : Int)])⟩] (by kernel_rfl) (by intro r hr; simp only [List.mem_cons, List.not_mem_nil, or_false] at hr; rcases hr with rfl <;> exact ⟨by kernel_rfl, by kernel_rfl⟩) (by intro r hr; simp only [List.mem_cons, List.not_mem_nil, or_false] at hr; rcases hr with rfl <;> exact ⟨of_decide_eq_true (by kernel_rfl), of_decide_eq_true (by kernel_rfl)⟩) (by intro r hr; simp only [List.mem_cons, List.not_mem_nil, or_false] at hr; rcases hr with rfl <;> exact fun _ _ _ _ => ⟨trivial, trivial⟩) ⟨?_, ?_, ?_, ?_, ?_, ?_, ?_, ?_, ?_, ?_, ?_, ?_, trivial⟩ ?_
   ·exact stq (fun E => ex_field rfl Try.underlying59 rfl (by kernel_rfl) (E.v oe9))
   ·exact stq (fun E => ex_field rfl Try.underlying30 rfl (by kernel_rfl) (E.d 0))
   ·exact stq (fun E => ex_load1 rfl Try.underlying3 rfl (E.d 1) (Cs.lit1 (Hx13.out.mod E.m.old (by intro h2; omega)) rfl))
   ·refine stepq_env rfl rfl rfl fun _ _ _ _ _ _ _ _ _ hd _ _ => ?_
    have h2 := hd ⟨2, .data⟩ (by simp) rfl _ rfl
    refine qe_callF (args := #[.int .i64 a.cl, .int .i64 3]) rfl (wanted_none rfl) rfl Try.func8 (args2 h2 rfl) (HWkc.out _) ?_
    rintro e w2 ⟨rfl, rfl⟩
    exact ⟨_, rfl, QE.refl, rfl⟩
   ·exact stq (fun E => ex_field rfl Try.underlying59 rfl (by kernel_rfl) (E.v oe9))
   ·exact stq (fun E => ex_field rfl Try.underlying30 rfl (by kernel_rfl) (E.d 4))
   ·exact stq (fun E => ex_load1 rfl Try.underlying3 rfl (E.d 5) (Cs.lit1 (Hx13.out.mod E.m.old (by intro h2; omega)) rfl))
   ·refine stepq_env rfl rfl rfl fun _ _ _ _ _ _ _ _ _ hd _ _ => ?_
    have h6 := hd ⟨6, .data⟩ (by simp) rfl _ rfl
    refine qe_callF (args := #[.int .i64 a.sq, .int .i64 4]) rfl (wanted_none rfl) rfl Try.func8 (args2 h6 rfl) (HWks.out _) ?_
    rintro e w2 ⟨rfl, rfl⟩
    exact ⟨_, rfl, QE.refl, rfl⟩
   ·exact stq (fun E => ex_binE rfl rfl (E.d 7) (guard_ints _ _ _ _ _ _) (run_add_i _ _ Try.underlying3) (congrArg (Value.int .i64) (i64_eq (b := ((k1 : Nat) : Int)) (by omega) (by omega) (by omega))))
   ·refine stepq_env rfl rfl rfl fun _ _ act _ _ _ _ _ _ hd _ _ => ?_
    have h3 := hd ⟨3, .data⟩ (by simp) rfl _ rfl
    have h8 := hd ⟨8, .data⟩ (by simp) rfl _ rfl
    refine qe_run rfl (wanted_none rfl) (ex_build rfl (z := [.int .i64 0, .int .i64 0]) (places := [(0, 1), (1, 1)]) (by kernel_rfl) (parts := [(0, .int .i64 ((kc : Nat) : Int)), (1, .int .i64 ((k1 : Nat) : Int))]) (by simp only [List.map_toArray, List.map_cons, List.map_nil, show act.eval (.tmp 62) = _ from h3, show act.eval (.tmp 67) = _ from h8]; try rfl) (r := [.int .i64 ((kc : Nat) : Int), .int .i64 ((k1 : Nat) : Int)]) (by rfl)) QE.refl ?_
    rfl
   ·exact stepq_make rfl rfl ⟨rfl, rfl, by kernel_rfl, by kernel_rfl⟩
   ·refine stepq_write rfl rfl rfl ⟨rfl, 12, (.tmp 68), rfl, by decide, rfl, by kernel_rfl, fun Z tr act w' hm hout hsz hd hpre => ?_⟩
    have h9 := hd ⟨9, .data⟩ (by simp) rfl _ rfl
    exact ⟨Nat.zero_le _, (by rw [show act.eval ((.tmp 68)) = _ from h9]; rfl), rfl, (by intro u hu; simp only [List.mem_cons, List.not_mem_nil, or_false] at hu; rcases hu with rfl | rfl <;> rfl)⟩
   intro u12_0 hr
   have zu12_0 := hr.size
   have Cx15 := hid (hr.new (S := (fun _ => False)))
   clear hr
   refine QChain.nil fun vs hl hzz hrows hne => ?_
   obtain ⟨Z, hYZ, hZb, hV⟩ := hzz
   obtain ⟨b12, g10, hBb12, hYb12, hCb12⟩ := hrows _ (by simp only [List.mem_cons, List.not_mem_nil, or_false]; trivial)
   have f10 : gw vs 10 = _ := getv g10
   (try dsimp only at hBb12 hYb12); (try simp only [false_or] at hBb12 hYb12)
   have zqb12 := hCb12.lt
   have Hx16 := hid (show Cs u12_0 b12 #[.int .i64 ((kc : Nat) : Int), .int .i64 ((k1 : Nat) : Int)] 30 from hCb12)
   have f3 := fvi hV hl 3
   have f7 := fvi hV hl 7
   rw [show vs = [gw vs 0, gw vs 1, gw vs 2, gw vs 3, gw vs 4, gw vs 5, gw vs 6, gw vs 7, gw vs 8, gw vs 9, gw vs 10, gw vs 11] from (gw_eta hl).trans rfl]
   have ha0 := HA0.out
   subst ha0
   clear HA0 hV hYZ hZb hsz0 hrows hne oe9 hCb12 g10
   simp only [putAll, Act.put, List.setIfInBounds_toArray, List.set_cons_zero, List.set_cons_succ, List.set_nil, f10, f3, f7]
   clear hl f10 f3 f7
   go_upto_region 13 with (fail)
   refine wp_region_U 173 [69, 70, 71] [0, 1, 2] (fun a0 HA0 => ?_)
   have oe9 := ev HA0 9 rfl
   refine QSeq.pure rfl (.pointer (some ⟨wl.heap.size, 0, none⟩)) (fun E => ex_field rfl Try.underlying59 rfl (by kernel_rfl) (E.v oe9)) ?_
   refine QSeq.pure rfl _ (fun E => ex_load1 rfl Try.underlying3 rfl (E.d 0 0) (Cs.lit1 (Hx13.out.mod Cx15.out (fun h => h)) rfl)) ?_
   refine QSeq.go fun act E => ?_
   refine qc_callF (args := #[.int .i64 a.d, .int .i64 6]) rfl (wanted_none rfl) rfl Try.func8 (args2 (E.d 1 0) rfl) (HW.out _) ?_
   rintro e w2 ⟨rfl, hw2⟩
   obtain rfl : u12_0 = w2 := by first | exact hw2 | exact hw2.symm
   refine ⟨_, rfl, ?_⟩
   clear act E
   refine QSeq.nil (t' := [_, _, _]) rfl ?_
   obtain rfl := HA0.out
   clear HA0 oe9
   simp only [pz, Act.put, List.setIfInBounds_toArray, List.set_cons_zero, List.set_cons_succ]
   by_cases h3 : m = 3
   ·skip
    go_upto_region 21 with (fail)
    refine wp_region_U 173 [115, 114] [0, 1] (fun a0 HA0 => ?_)
    have oe71 := ev HA0 71 rfl
    refine QSeq.pure rfl (.bool true) (fun E => ex_binE rfl (E.v oe71) rfl (guard_ints _ _ _ _ _ _) (run_eql_i _ _ _ Try.underlying3) (congrArg Value.bool (eq_tt (by omega)))) ?_
    refine QSeq.pure rfl _ (fun E => ex_assign rfl (E.d 0 0)) ?_
    refine QSeq.nil (t' := [_, _]) rfl ?_
    obtain rfl := HA0.out
    clear HA0 oe71
    simp only [pz, Act.put, List.setIfInBounds_toArray, List.set_cons_zero, List.set_cons_succ]
    clear HEL
    go_upto_region 23 with (fail)
    refine wp_region_U 173 [117, 118, 119, 120] [0, 1, 2, 3] (fun a0 HA0 => ?_)
    have oe5 := ev HA0 5 rfl
    have oe9 := ev HA0 9 rfl
    refine QSeq.pure rfl _ (fun E => ex_move rfl (E.v oe5)) ?_
    refine QSeq.pure rfl (.pointer (some ⟨wl.heap.size, 2, none⟩)) (fun E => ex_field rfl Try.underlying59 rfl (by kernel_rfl) (E.v oe9)) ?_
    refine QSeq.pure rfl _ (fun E => ex_load1 rfl Try.underlying45 rfl (E.d 1 0) (Cs.lit1 (Hx13.out.mod Cx15.out (fun h => h)) rfl)) ?_
    refine QSeq.call rfl rfl Try.func13 (Tick_Q (n := a.t) ((K1.out.mod Cx14.out (fun _ _ h => h)).mod Cx15.out (fun _ _ h => h)) (by intro k h1; omega) hat) (fun E => args2 (E.d 0 2) (E.d 2 0)) ?_
    rintro e u23_3 ⟨rfl, qsp, hm⟩
    refine ⟨_, rfl, ?_⟩
    have Hx17 := hid qsp
    have zu23_3 := hm.size
    have Cx18 := hid (show Mod (fun k => (New u2_0 u3_1 k)) u12_0 u23_3 from hm)
    clear hm
    clear qsp K1
    refine QSeq.nil (t' := [_, _, _, _]) rfl ?_
    obtain rfl := HA0.out
    clear HA0 oe5 oe9
    simp only [pz, Act.put, List.setIfInBounds_toArray, List.set_cons_zero, List.set_cons_succ]
    clear Hx13
    clear Hx16
    go_upto_region 26 with (fail)
    refine wp_region_U 173 [127, 128, 129, 130, 131, 132, 133, 134, 135, 136, 137, 138, 139, 140, 141, 142, 143] [0, 1, 2, 3, 4, 5, 6, 7, 8, 9, 10, 11, 12, 13, 14, 15, 16] (fun a0 HA0 => ?_)
    have oe5 := ev HA0 5 rfl
    have oe7 := ev HA0 7 rfl
    have oe10 := ev HA0 10 rfl
    have oe11 := ev HA0 11 rfl
    refine QSeq.pure rfl _ (fun E => ex_move rfl (E.v oe5)) ?_
    refine QSeq.go fun act E => ?_
    refine qc_callF (args := #[.pointer (some ⟨p, 0, none⟩)]) rfl (wanted_none rfl) rfl Try.func19 (args1 (E.d 0 0)) (Now_Q Hx17.out) ?_
    rintro e w2 ⟨rfl, hw2⟩
    obtain rfl : u23_3 = w2 := by first | exact hw2 | exact hw2.symm
    refine ⟨_, rfl, ?_⟩
    clear act E
    refine QSeq.pure rfl _ (fun E => ex_move rfl (E.v oe10)) ?_
    refine QSeq.pure rfl (.bool false) (fun E => ex_binE rfl (E.d 1 1) (E.d 2 0) (guard_ints _ _ _ _ _ _) (run_lss_i _ _ _ Try.underlying45) (congrArg Value.bool (decide_eq_false (show ¬ (((s.now + min a.t (U64 - 1 - s.now)) : Nat) : Int) < ((s.now : Nat) : Int) by omega)))) ?_
    refine QSeq.pure rfl _ (fun E => ex_move rfl (E.d 3 0)) ?_
    refine QSeq.pureG rfl (.pointer (some ⟨p, 0, none⟩)) (fun E => ((wanted_of rfl rfl (E.sz 131 (by decide)) (E.d 4 0)).trans rfl)) (fun E => ex_move rfl (E.v oe5)) ?_
    refine QSeq.go fun act E => ?_
    refine qc_callF (args := #[.pointer (some ⟨p, 0, none⟩)]) rfl ((wanted_of rfl rfl (E.sz 131 (by decide)) (E.d 4 1)).trans rfl) rfl Try.func16 (args1 (E.d 5 0)) (Floor_Q Hx17.out) ?_
    rintro e w2 ⟨rfl, hw2⟩
    obtain rfl : u23_3 = w2 := by first | exact hw2 | exact hw2.symm
    refine ⟨_, rfl, ?_⟩
    clear act E
    refine QSeq.pureG rfl (.int .u64 ((s.floor : Nat) : Int)) (fun E => ((wanted_of rfl rfl (E.sz 131 (by decide)) (E.d 4 2)).trans rfl)) (fun E => ex_move rfl (E.v oe11)) ?_
    refine QSeq.pureG rfl (.bool false) (fun E => ((wanted_of rfl rfl (E.sz 131 (by decide)) (E.d 4 3)).trans rfl)) (fun E => ex_binE rfl (E.d 6 1) (E.d 7 0) (guard_ints _ _ _ _ _ _) (run_lss_i _ _ _ Try.underlying45) (congrArg Value.bool (decide_eq_false (show ¬ ((s.floor : Nat) : Int) < ((s.floor : Nat) : Int) by omega)))) ?_
    refine QSeq.pure rfl (.bool false) (fun E => ex_pick rfl (E.d 4 4) rfl (E.d 8 0)) ?_
    refine QSeq.pure rfl _ (fun E => ex_move rfl (E.d 9 0)) ?_
    refine QSeq.pureG rfl (.pointer (some ⟨p, 0, none⟩)) (fun E => ((wanted_of rfl rfl (E.sz 137 (by decide)) (E.d 10 0)).trans rfl)) (fun E => ex_move rfl (E.v oe5)) ?_
    refine QSeq.go fun act E => ?_
    refine qc_callF (args := #[.pointer (some ⟨p, 0, none⟩)]) rfl ((wanted_of rfl rfl (E.sz 137 (by decide)) (E.d 10 1)).trans rfl) rfl Try.func17 (args1 (E.d 11 0)) (SLen_Q Hx17.out) ?_
    rintro e w2 ⟨rfl, hw2⟩
    obtain rfl : u23_3 = w2 := by first | exact hw2 | exact hw2.symm
    refine ⟨_, rfl, ?_⟩
    clear act E
    refine QSeq.pureG rfl (.map (some u3_1.heap.size)) (fun E => ((wanted_of rfl rfl (E.sz 137 (by decide)) (E.d 10 2)).trans rfl)) (fun E => ex_move rfl (E.v oe7)) ?_
    refine QSeq.pureG rfl (.int .i64 ((s.m.length : Nat) : Int)) (fun E => ((wanted_of rfl rfl (E.sz 137 (by decide)) (E.d 10 3)).trans rfl)) (fun E => ex_lenK rfl (E.d 13 0) (((K3.out.mod Cx14.out (fun h => h)).mod Cx15.out (fun h => h)).mod Cx18.out (by intro h2; omega))) ?_
    refine QSeq.pureG rfl (.bool false) (fun E => ((wanted_of rfl rfl (E.sz 137 (by decide)) (E.d 10 4)).trans rfl)) (fun E => ex_binE rfl (E.d 12 2) (E.d 14 0) (guard_ints _ _ _ _ _ _) (run_neq_i _ _ _ Try.underlying3) (congrArg Value.bool (ne_ff rfl))) ?_
    refine QSeq.pure rfl (.bool false) (fun E => ex_pick rfl (E.d 10 5) rfl (E.d 15 0)) ?_
    refine QSeq.nil (t' := [_, _, _, _, _, _, _, _, _, _, _, _, _, _, _, _, _]) rfl ?_
    obtain rfl := HA0.out
    clear HA0 oe5 oe7 oe10 oe11
    simp only [pz, Act.put, List.setIfInBounds_toArray, List.set_cons_zero, List.set_cons_succ]
    go_upto_region 9 with (fail)
    refine wp_region_U 173 [49, 50, 8] [0, 1, 2] (fun a0 HA0 => ?_)
    have oe8 := ev HA0 8 rfl
    refine QSeq.pure rfl _ (fun E => ex_move rfl (E.y 2 oe8)) ?_
    refine QSeq.pure rfl (.int .i64 (((i + 1) : Nat) : Int)) (fun E => ex_binE rfl (E.d 0 0) rfl (guard_ints _ _ _ _ _ _) (run_add_i _ _ Try.underlying3) (congrArg (Value.int .i64) (i64_eq (b := (((i + 1) : Nat) : Int)) (by omega) (by omega) (by omega)))) ?_
    refine QSeq.pure rfl _ (fun E => ex_assign rfl (E.d 1 0)) ?_
    refine QSeq.nil (t' := [_, _, _]) rfl ?_
    obtain rfl := HA0.out
    clear HA0 oe8
    simp only [pz, Act.put, List.setIfInBounds_toArray, List.set_cons_zero, List.set_cons_succ]
    go_wp2
    go_roundw
    case rel => exact ⟨i + 1, tickS s a.t, L, rfl, by omega, by omega, by omega, Hx17.out, (((K2.out.mod Cx14.out (fun _ _ h => h)).mod Cx15.out (fun _ _ h => h)).mod Cx18.out (by intro k h1 h2; omega)), (((K3.out.mod Cx14.out (fun h => h)).mod Cx15.out (fun h => h)).mod Cx18.out (by intro h2; omega)), (((K4.out.mod Cx14.out (fun _ _ h => h)).mod Cx15.out (fun _ _ h => h)).mod Cx18.out (by intro k h1 h2; omega)), (((K5.out.trans Cx14.out (fun _ _ h => h.elim)).trans Cx15.out (fun _ _ h => h.elim)).trans Cx18.out (by intro k h1 h2; omega))⟩
    case measure => simp [intOf]; omega
   ·skip
    go_upto_region 21 with (fail)
    refine wp_region_U 173 [115, 114] [0, 1] (fun a0 HA0 => ?_)
    have oe71 := ev HA0 71 rfl
    refine QSeq.pure rfl (.bool false) (fun E => ex_binE rfl (E.v oe71) rfl (guard_ints _ _ _ _ _ _) (run_eql_i _ _ _ Try.underlying3) (congrArg Value.bool (eq_ff (by omega)))) ?_
    refine QSeq.pure rfl _ (fun E => ex_assign rfl (E.d 0 0)) ?_
    refine QSeq.nil (t' := [_, _]) rfl ?_
    obtain rfl := HA0.out
    clear HA0 oe71
    simp only [pz, Act.put, List.setIfInBounds_toArray, List.set_cons_zero, List.set_cons_succ]
    by_cases h4 : m = 4
    ·skip
     go_upto_region 22 with (fail)
     refine wp_region_U 173 [116, 114] [0, 1] (fun a0 HA0 => ?_)
     have oe71 := ev HA0 71 rfl
     refine QSeq.pure rfl (.bool true) (fun E => ex_binE rfl (E.v oe71) rfl (guard_ints _ _ _ _ _ _) (run_eql_i _ _ _ Try.underlying3) (congrArg Value.bool (eq_tt (by omega)))) ?_
     refine QSeq.pure rfl _ (fun E => ex_assign rfl (E.d 0 0)) ?_
     refine QSeq.nil (t' := [_, _]) rfl ?_
     obtain rfl := HA0.out
     clear HA0 oe71
     simp only [pz, Act.put, List.setIfInBounds_toArray, List.set_cons_zero, List.set_cons_succ]
     go_upto_region 23 with (fail)
     refine wp_region_U 173 [117, 118, 119, 120] [0, 1, 2, 3] (fun a0 HA0 => ?_)
     have oe5 := ev HA0 5 rfl
     have oe9 := ev HA0 9 rfl
     refine QSeq.pure rfl _ (fun E => ex_move rfl (E.v oe5)) ?_
     refine QSeq.pure rfl (.pointer (some ⟨wl.heap.size, 2, none⟩)) (fun E => ex_field rfl Try.underlying59 rfl (by kernel_rfl) (E.v oe9)) ?_
     refine QSeq.pure rfl _ (fun E => ex_load1 rfl Try.underlying45 rfl (E.d 1 0) (Cs.lit1 (Hx13.out.mod Cx15.out (fun h => h)) rfl)) ?_
     refine QSeq.call rfl rfl Try.func13 (Tick_Q (n := a.t) ((K1.out.mod Cx14.out (fun _ _ h => h)).mod Cx15.out (fun _ _ h => h)) (by intro k h1; omega) hat) (fun E => args2 (E.d 0 2) (E.d 2 0)) ?_
     rintro e u23_3 ⟨rfl, qsp, hm⟩
     refine ⟨_, rfl, ?_⟩
     have Hx19 := hid qsp
     have zu23_3 := hm.size
     have Cx20 := hid (show Mod (fun k => (New u2_0 u3_1 k)) u12_0 u23_3 from hm)
     clear hm
     clear qsp K1
     refine QSeq.nil (t' := [_, _, _, _]) rfl ?_
     obtain rfl := HA0.out
     clear HA0 oe5 oe9
     simp only [pz, Act.put, List.setIfInBounds_toArray, List.set_cons_zero, List.set_cons_succ]
     clear Hx13
     clear HEL
     clear Hx16
     go_upto_region 26 with (fail)
     refine wp_region_U 173 [127, 128, 129, 130, 131, 132, 133, 134, 135, 136, 137, 138, 139, 140, 141, 142, 143] [0, 1, 2, 3, 4, 5, 6, 7, 8, 9, 10, 11, 12, 13, 14, 15, 16] (fun a0 HA0 => ?_)
     have oe5 := ev HA0 5 rfl
     have oe7 := ev HA0 7 rfl
     have oe10 := ev HA0 10 rfl
     have oe11 := ev HA0 11 rfl
     refine QSeq.pure rfl _ (fun E => ex_move rfl (E.v oe5)) ?_
     refine QSeq.go fun act E => ?_
     refine qc_callF (args := #[.pointer (some ⟨p, 0, none⟩)]) rfl (wanted_none rfl) rfl Try.func19 (args1 (E.d 0 0)) (Now_Q Hx19.out) ?_
     rintro e w2 ⟨rfl, hw2⟩
     obtain rfl : u23_3 = w2 := by first | exact hw2 | exact hw2.symm
     refine ⟨_, rfl, ?_⟩
     clear act E
     refine QSeq.pure rfl _ (fun E => ex_move rfl (E.v oe10)) ?_
     refine QSeq.pure rfl (.bool false) (fun E => ex_binE rfl (E.d 1 1) (E.d 2 0) (guard_ints _ _ _ _ _ _) (run_lss_i _ _ _ Try.underlying45) (congrArg Value.bool (decide_eq_false (show ¬ (((s.now + min a.t (U64 - 1 - s.now)) : Nat) : Int) < ((s.now : Nat) : Int) by omega)))) ?_
     refine QSeq.pure rfl _ (fun E => ex_move rfl (E.d 3 0)) ?_
     refine QSeq.pureG rfl (.pointer (some ⟨p, 0, none⟩)) (fun E => ((wanted_of rfl rfl (E.sz 131 (by decide)) (E.d 4 0)).trans rfl)) (fun E => ex_move rfl (E.v oe5)) ?_
     refine QSeq.go fun act E => ?_
     refine qc_callF (args := #[.pointer (some ⟨p, 0, none⟩)]) rfl ((wanted_of rfl rfl (E.sz 131 (by decide)) (E.d 4 1)).trans rfl) rfl Try.func16 (args1 (E.d 5 0)) (Floor_Q Hx19.out) ?_
     rintro e w2 ⟨rfl, hw2⟩
     obtain rfl : u23_3 = w2 := by first | exact hw2 | exact hw2.symm
     refine ⟨_, rfl, ?_⟩
     clear act E
     refine QSeq.pureG rfl (.int .u64 ((s.floor : Nat) : Int)) (fun E => ((wanted_of rfl rfl (E.sz 131 (by decide)) (E.d 4 2)).trans rfl)) (fun E => ex_move rfl (E.v oe11)) ?_
     refine QSeq.pureG rfl (.bool false) (fun E => ((wanted_of rfl rfl (E.sz 131 (by decide)) (E.d 4 3)).trans rfl)) (fun E => ex_binE rfl (E.d 6 1) (E.d 7 0) (guard_ints _ _ _ _ _ _) (run_lss_i _ _ _ Try.underlying45) (congrArg Value.bool (decide_eq_false (show ¬ ((s.floor : Nat) : Int) < ((s.floor : Nat) : Int) by omega)))) ?_
     refine QSeq.pure rfl (.bool false) (fun E => ex_pick rfl (E.d 4 4) rfl (E.d 8 0)) ?_
     refine QSeq.pure rfl _ (fun E => ex_move rfl (E.d 9 0)) ?_
     refine QSeq.pureG rfl (.pointer (some ⟨p, 0, none⟩)) (fun E => ((wanted_of rfl rfl (E.sz 137 (by decide)) (E.d 10 0)).trans rfl)) (fun E => ex_move rfl (E.v oe5)) ?_
     refine QSeq.go fun act E => ?_
     refine qc_callF (args := #[.pointer (some ⟨p, 0, none⟩)]) rfl ((wanted_of rfl rfl (E.sz 137 (by decide)) (E.d 10 1)).trans rfl) rfl Try.func17 (args1 (E.d 11 0)) (SLen_Q Hx19.out) ?_
     rintro e w2 ⟨rfl, hw2⟩
     obtain rfl : u23_3 = w2 := by first | exact hw2 | exact hw2.symm
     refine ⟨_, rfl, ?_⟩
     clear act E
     refine QSeq.pureG rfl (.map (some u3_1.heap.size)) (fun E => ((wanted_of rfl rfl (E.sz 137 (by decide)) (E.d 10 2)).trans rfl)) (fun E => ex_move rfl (E.v oe7)) ?_
     refine QSeq.pureG rfl (.int .i64 ((s.m.length : Nat) : Int)) (fun E => ((wanted_of rfl rfl (E.sz 137 (by decide)) (E.d 10 3)).trans rfl)) (fun E => ex_lenK rfl (E.d 13 0) (((K3.out.mod Cx14.out (fun h => h)).mod Cx15.out (fun h => h)).mod Cx20.out (by intro h2; omega))) ?_
     refine QSeq.pureG rfl (.bool false) (fun E => ((wanted_of rfl rfl (E.sz 137 (by decide)) (E.d 10 4)).trans rfl)) (fun E => ex_binE rfl (E.d 12 2) (E.d 14 0) (guard_ints _ _ _ _ _ _) (run_neq_i _ _ _ Try.underlying3) (congrArg Value.bool (ne_ff rfl))) ?_
     refine QSeq.pure rfl (.bool false) (fun E => ex_pick rfl (E.d 10 5) rfl (E.d 15 0)) ?_
     refine QSeq.nil (t' := [_, _, _, _, _, _, _, _, _, _, _, _, _, _, _, _, _]) rfl ?_
     obtain rfl := HA0.out
     clear HA0 oe5 oe7 oe10 oe11
     simp only [pz, Act.put, List.setIfInBounds_toArray, List.set_cons_zero, List.set_cons_succ]
     go_upto_region 9 with (fail)
     refine wp_region_U 173 [49, 50, 8] [0, 1, 2] (fun a0 HA0 => ?_)
     have oe8 := ev HA0 8 rfl
     refine QSeq.pure rfl _ (fun E => ex_move rfl (E.y 2 oe8)) ?_
     refine QSeq.pure rfl (.int .i64 (((i + 1) : Nat) : Int)) (fun E => ex_binE rfl (E.d 0 0) rfl (guard_ints _ _ _ _ _ _) (run_add_i _ _ Try.underlying3) (congrArg (Value.int .i64) (i64_eq (b := (((i + 1) : Nat) : Int)) (by omega) (by omega) (by omega)))) ?_
     refine QSeq.pure rfl _ (fun E => ex_assign rfl (E.d 1 0)) ?_
     refine QSeq.nil (t' := [_, _, _]) rfl ?_
     obtain rfl := HA0.out
     clear HA0 oe8
     simp only [pz, Act.put, List.setIfInBounds_toArray, List.set_cons_zero, List.set_cons_succ]
     go_wp2
     go_roundw
     case rel => exact ⟨i + 1, tickS s a.t, L, rfl, by omega, by omega, by omega, Hx19.out, (((K2.out.mod Cx14.out (fun _ _ h => h)).mod Cx15.out (fun _ _ h => h)).mod Cx20.out (by intro k h1 h2; omega)), (((K3.out.mod Cx14.out (fun h => h)).mod Cx15.out (fun h => h)).mod Cx20.out (by intro h2; omega)), (((K4.out.mod Cx14.out (fun _ _ h => h)).mod Cx15.out (fun _ _ h => h)).mod Cx20.out (by intro k h1 h2; omega)), (((K5.out.trans Cx14.out (fun _ _ h => h.elim)).trans Cx15.out (fun _ _ h => h.elim)).trans Cx20.out (by intro k h1 h2; omega))⟩
     case measure => simp [intOf]; omega
    ·skip
     go_upto_region 22 with (fail)
     refine wp_region_U 173 [116, 114] [0, 1] (fun a0 HA0 => ?_)
     have oe71 := ev HA0 71 rfl
     refine QSeq.pure rfl (.bool false) (fun E => ex_binE rfl (E.v oe71) rfl (guard_ints _ _ _ _ _ _) (run_eql_i _ _ _ Try.underlying3) (congrArg Value.bool (eq_ff (by omega)))) ?_
     refine QSeq.pure rfl _ (fun E => ex_assign rfl (E.d 0 0)) ?_
     refine QSeq.nil (t' := [_, _]) rfl ?_
     obtain rfl := HA0.out
     clear HA0 oe71
     simp only [pz, Act.put, List.setIfInBounds_toArray, List.set_cons_zero, List.set_cons_succ]
     by_cases h5 : m = 5
     ·skip
      go_upto_region 24 with (fail)
      refine wp_region_U 173 [122, 121] [0, 1] (fun a0 HA0 => ?_)
      have oe71 := ev HA0 71 rfl
      refine QSeq.pure rfl (.bool true) (fun E => ex_binE rfl (E.v oe71) rfl (guard_ints _ _ _ _ _ _) (run_eql_i _ _ _ Try.underlying3) (congrArg Value.bool (eq_tt (by omega)))) ?_
      refine QSeq.pure rfl _ (fun E => ex_assign rfl (E.d 0 0)) ?_
      refine QSeq.nil (t' := [_, _]) rfl ?_
      obtain rfl := HA0.out
      clear HA0 oe71
      simp only [pz, Act.put, List.setIfInBounds_toArray, List.set_cons_zero, List.set_cons_succ]
      clear HEL
      clear Hx16
      by_cases h6 : a.t + 1 = U64
      ·skip
       go_upto_region 25 with (fail)
       refine wp_region_U 173 [123, 124, 125, 126] [0, 1, 2, 3] (fun a0 HA0 => ?_)
       have oe5 := ev HA0 5 rfl
       have oe9 := ev HA0 9 rfl
       refine QSeq.pure rfl _ (fun E => ex_move rfl (E.v oe5)) ?_
       refine QSeq.pure rfl (.pointer (some ⟨wl.heap.size, 2, none⟩)) (fun E => ex_field rfl Try.underlying59 rfl (by kernel_rfl) (E.v oe9)) ?_
       refine QSeq.pure rfl _ (fun E => ex_load1 rfl Try.underlying45 rfl (E.d 1 0) (Cs.lit1 (Hx13.out.mod Cx15.out (fun h => h)) rfl)) ?_
       refine QSeq.call rfl rfl Try.func15 (Raise_N (n := a.t) ((K1.out.mod Cx14.out (fun _ _ h => h)).mod Cx15.out (fun _ _ h => h)) (by intro k h1; omega) h6) (fun E => args2 (E.d 0 2) (E.d 2 0)) ?_
       rintro e u25_3 ⟨rfl, qsp, hm⟩
       refine ⟨_, rfl, ?_⟩
       have Hx21 := hid qsp
       have zu25_3 := hm.size
       have Cx22 := hid (show Mod (fun k => (New u2_0 u3_1 k)) u12_0 u25_3 from hm)
       clear hm
       clear qsp K1
       refine QSeq.nil (t' := [_, _, _, _]) rfl ?_
       obtain rfl := HA0.out
       clear HA0 oe5 oe9
       simp only [pz, Act.put, List.setIfInBounds_toArray, List.set_cons_zero, List.set_cons_succ]
       clear Hx13
       go_upto_region 26 with (fail)
       refine wp_region_U 173 [127, 128, 129, 130, 131, 132, 133, 134, 135, 136, 137, 138, 139, 140, 141, 142, 143] [0, 1, 2, 3, 4, 5, 6, 7, 8, 9, 10, 11, 12, 13, 14, 15, 16] (fun a0 HA0 => ?_)
       have oe5 := ev HA0 5 rfl
       have oe7 := ev HA0 7 rfl
       have oe10 := ev HA0 10 rfl
       have oe11 := ev HA0 11 rfl
       refine QSeq.pure rfl _ (fun E => ex_move rfl (E.v oe5)) ?_
       refine QSeq.go fun act E => ?_
       refine qc_callF (args := #[.pointer (some ⟨p, 0, none⟩)]) rfl (wanted_none rfl) rfl Try.func19 (args1 (E.d 0 0)) (Now_Q Hx21.out) ?_
       rintro e w2 ⟨rfl, hw2⟩
       obtain rfl : u25_3 = w2 := by first | exact hw2 | exact hw2.symm
       refine ⟨_, rfl, ?_⟩
       clear act E
       refine QSeq.pure rfl _ (fun E => ex_move rfl (E.v oe10)) ?_
       refine QSeq.pure rfl (.bool false) (fun E => ex_binE rfl (E.d 1 1) (E.d 2 0) (guard_ints _ _ _ _ _ _) (run_lss_i _ _ _ Try.underlying45) (congrArg Value.bool (decide_eq_false (show ¬ ((s.now : Nat) : Int) < ((s.now : Nat) : Int) by omega)))) ?_
       refine QSeq.pure rfl _ (fun E => ex_move rfl (E.d 3 0)) ?_
       refine QSeq.pureG rfl (.pointer (some ⟨p, 0, none⟩)) (fun E => ((wanted_of rfl rfl (E.sz 131 (by decide)) (E.d 4 0)).trans rfl)) (fun E => ex_move rfl (E.v oe5)) ?_
       refine QSeq.go fun act E => ?_
       refine qc_callF (args := #[.pointer (some ⟨p, 0, none⟩)]) rfl ((wanted_of rfl rfl (E.sz 131 (by decide)) (E.d 4 1)).trans rfl) rfl Try.func16 (args1 (E.d 5 0)) (Floor_Q Hx21.out) ?_
       rintro e w2 ⟨rfl, hw2⟩
       obtain rfl : u25_3 = w2 := by first | exact hw2 | exact hw2.symm
       refine ⟨_, rfl, ?_⟩
       clear act E
       refine QSeq.pureG rfl (.int .u64 ((s.floor : Nat) : Int)) (fun E => ((wanted_of rfl rfl (E.sz 131 (by decide)) (E.d 4 2)).trans rfl)) (fun E => ex_move rfl (E.v oe11)) ?_
       refine QSeq.pureG rfl (.bool false) (fun E => ((wanted_of rfl rfl (E.sz 131 (by decide)) (E.d 4 3)).trans rfl)) (fun E => ex_binE rfl (E.d 6 1) (E.d 7 0) (guard_ints _ _ _ _ _ _) (run_lss_i _ _ _ Try.underlying45) (congrArg Value.bool (decide_eq_false (show ¬ ((s.floor : Nat) : Int) < ((s.floor : Nat) : Int) by omega)))) ?_
       refine QSeq.pure rfl (.bool false) (fun E => ex_pick rfl (E.d 4 4) rfl (E.d 8 0)) ?_
       refine QSeq.pure rfl _ (fun E => ex_move rfl (E.d 9 0)) ?_
       refine QSeq.pureG rfl (.pointer (some ⟨p, 0, none⟩)) (fun E => ((wanted_of rfl rfl (E.sz 137 (by decide)) (E.d 10 0)).trans rfl)) (fun E => ex_move rfl (E.v oe5)) ?_
       refine QSeq.go fun act E => ?_
       refine qc_callF (args := #[.pointer (some ⟨p, 0, none⟩)]) rfl ((wanted_of rfl rfl (E.sz 137 (by decide)) (E.d 10 1)).trans rfl) rfl Try.func17 (args1 (E.d 11 0)) (SLen_Q Hx21.out) ?_
       rintro e w2 ⟨rfl, hw2⟩
       obtain rfl : u25_3 = w2 := by first | exact hw2 | exact hw2.symm
       refine ⟨_, rfl, ?_⟩
       clear act E
       refine QSeq.pureG rfl (.map (some u3_1.heap.size)) (fun E => ((wanted_of rfl rfl (E.sz 137 (by decide)) (E.d 10 2)).trans rfl)) (fun E => ex_move rfl (E.v oe7)) ?_
       refine QSeq.pureG rfl (.int .i64 ((s.m.length : Nat) : Int)) (fun E => ((wanted_of rfl rfl (E.sz 137 (by decide)) (E.d 10 3)).trans rfl)) (fun E => ex_lenK rfl (E.d 13 0) (((K3.out.mod Cx14.out (fun h => h)).mod Cx15.out (fun h => h)).mod Cx22.out (by intro h2; omega))) ?_
       refine QSeq.pureG rfl (.bool false) (fun E => ((wanted_of rfl rfl (E.sz 137 (by decide)) (E.d 10 4)).trans rfl)) (fun E => ex_binE rfl (E.d 12 2) (E.d 14 0) (guard_ints _ _ _ _ _ _) (run_neq_i _ _ _ Try.underlying3) (congrArg Value.bool (ne_ff rfl))) ?_
       refine QSeq.pure rfl (.bool false) (fun E => ex_pick rfl (E.d 10 5) rfl (E.d 15 0)) ?_
       refine QSeq.nil (t' := [_, _, _, _, _, _, _, _, _, _, _, _, _, _, _, _, _]) rfl ?_
       obtain rfl := HA0.out
       clear HA0 oe5 oe7 oe10 oe11
       simp only [pz, Act.put, List.setIfInBounds_toArray, List.set_cons_zero, List.set_cons_succ]
       go_upto_region 9 with (fail)
       refine wp_region_U 173 [49, 50, 8] [0, 1, 2] (fun a0 HA0 => ?_)
       have oe8 := ev HA0 8 rfl
       refine QSeq.pure rfl _ (fun E => ex_move rfl (E.y 2 oe8)) ?_
       refine QSeq.pure rfl (.int .i64 (((i + 1) : Nat) : Int)) (fun E => ex_binE rfl (E.d 0 0) rfl (guard_ints _ _ _ _ _ _) (run_add_i _ _ Try.underlying3) (congrArg (Value.int .i64) (i64_eq (b := (((i + 1) : Nat) : Int)) (by omega) (by omega) (by omega)))) ?_
       refine QSeq.pure rfl _ (fun E => ex_assign rfl (E.d 1 0)) ?_
       refine QSeq.nil (t' := [_, _, _]) rfl ?_
       obtain rfl := HA0.out
       clear HA0 oe8
       simp only [pz, Act.put, List.setIfInBounds_toArray, List.set_cons_zero, List.set_cons_succ]
       go_wp2
       go_roundw
       case rel => exact ⟨i + 1, s, L, rfl, by omega, by omega, by omega, Hx21.out, (((K2.out.mod Cx14.out (fun _ _ h => h)).mod Cx15.out (fun _ _ h => h)).mod Cx22.out (by intro k h1 h2; omega)), (((K3.out.mod Cx14.out (fun h => h)).mod Cx15.out (fun h => h)).mod Cx22.out (by intro h2; omega)), (((K4.out.mod Cx14.out (fun _ _ h => h)).mod Cx15.out (fun _ _ h => h)).mod Cx22.out (by intro k h1 h2; omega)), (((K5.out.trans Cx14.out (fun _ _ h => h.elim)).trans Cx15.out (fun _ _ h => h.elim)).trans Cx22.out (by intro k h1 h2; omega))⟩
       case measure => simp [intOf]; omega
      ·skip
       go_upto_region 25 with (fail)
       refine wp_region_U 173 [123, 124, 125, 126] [0, 1, 2, 3] (fun a0 HA0 => ?_)
       have oe5 := ev HA0 5 rfl
       have oe9 := ev HA0 9 rfl
       refine QSeq.pure rfl _ (fun E => ex_move rfl (E.v oe5)) ?_
       refine QSeq.pure rfl (.pointer (some ⟨wl.heap.size, 2, none⟩)) (fun E => ex_field rfl Try.underlying59 rfl (by kernel_rfl) (E.v oe9)) ?_
       refine QSeq.pure rfl _ (fun E => ex_load1 rfl Try.underlying45 rfl (E.d 1 0) (Cs.lit1 (Hx13.out.mod Cx15.out (fun h => h)) rfl)) ?_
       refine QSeq.call rfl rfl Try.func15 (Raise_Q (n := a.t) ((K1.out.mod Cx14.out (fun _ _ h => h)).mod Cx15.out (fun _ _ h => h)) (by intro k h1; omega) (by omega)) (fun E => args2 (E.d 0 2) (E.d 2 0)) ?_
       rintro e u25_3 ⟨rfl, qsp, hm⟩
       refine ⟨_, rfl, ?_⟩
       have Hx23 := hid qsp
       have zu25_3 := hm.size
       have Cx24 := hid (show Mod (fun k => (New u2_0 u3_1 k)) u12_0 u25_3 from hm)
       clear hm
       clear qsp K1
       refine QSeq.nil (t' := [_, _, _, _]) rfl ?_
       obtain rfl := HA0.out
       clear HA0 oe5 oe9
       simp only [pz, Act.put, List.setIfInBounds_toArray, List.set_cons_zero, List.set_cons_succ]
       clear Hx13
       go_upto_region 26 with (fail)
       refine wp_region_U 173 [127, 128, 129, 130, 131, 132, 133, 134, 135, 136, 137, 138, 139, 140, 141, 142, 143] [0, 1, 2, 3, 4, 5, 6, 7, 8, 9, 10, 11, 12, 13, 14, 15, 16] (fun a0 HA0 => ?_)
       have oe5 := ev HA0 5 rfl
       have oe7 := ev HA0 7 rfl
       have oe10 := ev HA0 10 rfl
       have oe11 := ev HA0 11 rfl
       refine QSeq.pure rfl _ (fun E => ex_move rfl (E.v oe5)) ?_
       refine QSeq.go fun act E => ?_
       refine qc_callF (args := #[.pointer (some ⟨p, 0, none⟩)]) rfl (wanted_none rfl) rfl Try.func19 (args1 (E.d 0 0)) (Now_Q Hx23.out) ?_
       rintro e w2 ⟨rfl, hw2⟩
       obtain rfl : u25_3 = w2 := by first | exact hw2 | exact hw2.symm
       refine ⟨_, rfl, ?_⟩
       clear act E
       refine QSeq.pure rfl _ (fun E => ex_move rfl (E.v oe10)) ?_
       refine QSeq.pure rfl (.bool false) (fun E => ex_binE rfl (E.d 1 1) (E.d 2 0) (guard_ints _ _ _ _ _ _) (run_lss_i _ _ _ Try.underlying45) (congrArg Value.bool (decide_eq_false (show ¬ ((s.now : Nat) : Int) < ((s.now : Nat) : Int) by omega)))) ?_
       refine QSeq.pure rfl _ (fun E => ex_move rfl (E.d 3 0)) ?_
       refine QSeq.pureG rfl (.pointer (some ⟨p, 0, none⟩)) (fun E => ((wanted_of rfl rfl (E.sz 131 (by decide)) (E.d 4 0)).trans rfl)) (fun E => ex_move rfl (E.v oe5)) ?_
       refine QSeq.go fun act E => ?_
       refine qc_callF (args := #[.pointer (some ⟨p, 0, none⟩)]) rfl ((wanted_of rfl rfl (E.sz 131 (by decide)) (E.d 4 1)).trans rfl) rfl Try.func16 (args1 (E.d 5 0)) (Floor_Q Hx23.out) ?_
       rintro e w2 ⟨rfl, hw2⟩
       obtain rfl : u25_3 = w2 := by first | exact hw2 | exact hw2.symm
       refine ⟨_, rfl, ?_⟩
       clear act E
       refine QSeq.pureG rfl (.int .u64 ((s.floor : Nat) : Int)) (fun E => ((wanted_of rfl rfl (E.sz 131 (by decide)) (E.d 4 2)).trans rfl)) (fun E => ex_move rfl (E.v oe11)) ?_
       refine QSeq.pureG rfl (.bool false) (fun E => ((wanted_of rfl rfl (E.sz 131 (by decide)) (E.d 4 3)).trans rfl)) (fun E => ex_binE rfl (E.d 6 1) (E.d 7 0) (guard_ints _ _ _ _ _ _) (run_lss_i _ _ _ Try.underlying45) (congrArg Value.bool (decide_eq_false (show ¬ (((max s.floor a.t) : Nat) : Int) < ((s.floor : Nat) : Int) by omega)))) ?_
       refine QSeq.pure rfl (.bool false) (fun E => ex_pick rfl (E.d 4 4) rfl (E.d 8 0)) ?_
       refine QSeq.pure rfl _ (fun E => ex_move rfl (E.d 9 0)) ?_
       refine QSeq.pureG rfl (.pointer (some ⟨p, 0, none⟩)) (fun E => ((wanted_of rfl rfl (E.sz 137 (by decide)) (E.d 10 0)).trans rfl)) (fun E => ex_move rfl (E.v oe5)) ?_
       refine QSeq.go fun act E => ?_
       refine qc_callF (args := #[.pointer (some ⟨p, 0, none⟩)]) rfl ((wanted_of rfl rfl (E.sz 137 (by decide)) (E.d 10 1)).trans rfl) rfl Try.func17 (args1 (E.d 11 0)) (SLen_Q Hx23.out) ?_
       rintro e w2 ⟨rfl, hw2⟩
       obtain rfl : u25_3 = w2 := by first | exact hw2 | exact hw2.symm
       refine ⟨_, rfl, ?_⟩
       clear act E
       refine QSeq.pureG rfl (.map (some u3_1.heap.size)) (fun E => ((wanted_of rfl rfl (E.sz 137 (by decide)) (E.d 10 2)).trans rfl)) (fun E => ex_move rfl (E.v oe7)) ?_
       refine QSeq.pureG rfl (.int .i64 ((s.m.length : Nat) : Int)) (fun E => ((wanted_of rfl rfl (E.sz 137 (by decide)) (E.d 10 3)).trans rfl)) (fun E => ex_lenK rfl (E.d 13 0) (((K3.out.mod Cx14.out (fun h => h)).mod Cx15.out (fun h => h)).mod Cx24.out (by intro h2; omega))) ?_
       refine QSeq.pureG rfl (.bool false) (fun E => ((wanted_of rfl rfl (E.sz 137 (by decide)) (E.d 10 4)).trans rfl)) (fun E => ex_binE rfl (E.d 12 2) (E.d 14 0) (guard_ints _ _ _ _ _ _) (run_neq_i _ _ _ Try.underlying3) (congrArg Value.bool (ne_ff rfl))) ?_
       refine QSeq.pure rfl (.bool false) (fun E => ex_pick rfl (E.d 10 5) rfl (E.d 15 0)) ?_
       refine QSeq.nil (t' := [_, _, _, _, _, _, _, _, _, _, _, _, _, _, _, _, _]) rfl ?_
       obtain rfl := HA0.out
       clear HA0 oe5 oe7 oe10 oe11
       simp only [pz, Act.put, List.setIfInBounds_toArray, List.set_cons_zero, List.set_cons_succ]
       go_upto_region 9 with (fail)
       refine wp_region_U 173 [49, 50, 8] [0, 1, 2] (fun a0 HA0 => ?_)
       have oe8 := ev HA0 8 rfl
       refine QSeq.pure rfl _ (fun E => ex_move rfl (E.y 2 oe8)) ?_
       refine QSeq.pure rfl (.int .i64 (((i + 1) : Nat) : Int)) (fun E => ex_binE rfl (E.d 0 0) rfl (guard_ints _ _ _ _ _ _) (run_add_i _ _ Try.underlying3) (congrArg (Value.int .i64) (i64_eq (b := (((i + 1) : Nat) : Int)) (by omega) (by omega) (by omega)))) ?_
       refine QSeq.pure rfl _ (fun E => ex_assign rfl (E.d 1 0)) ?_
       refine QSeq.nil (t' := [_, _, _]) rfl ?_
       obtain rfl := HA0.out
       clear HA0 oe8
       simp only [pz, Act.put, List.setIfInBounds_toArray, List.set_cons_zero, List.set_cons_succ]
       go_wp2
       go_roundw
       case rel => exact ⟨i + 1, raiseS s a.t, L, rfl, by omega, by omega, by omega, Hx23.out, (((K2.out.mod Cx14.out (fun _ _ h => h)).mod Cx15.out (fun _ _ h => h)).mod Cx24.out (by intro k h1 h2; omega)), (((K3.out.mod Cx14.out (fun h => h)).mod Cx15.out (fun h => h)).mod Cx24.out (by intro h2; omega)), (((K4.out.mod Cx14.out (fun _ _ h => h)).mod Cx15.out (fun _ _ h => h)).mod Cx24.out (by intro k h1 h2; omega)), (((K5.out.trans Cx14.out (fun _ _ h => h.elim)).trans Cx15.out (fun _ _ h => h.elim)).trans Cx24.out (by intro k h1 h2; omega))⟩
       case measure => simp [intOf]; omega
     ·skip
      go_upto_region 24 with (fail)
      refine wp_region_U 173 [122, 121] [0, 1] (fun a0 HA0 => ?_)
      have oe71 := ev HA0 71 rfl
      refine QSeq.pure rfl (.bool false) (fun E => ex_binE rfl (E.v oe71) rfl (guard_ints _ _ _ _ _ _) (run_eql_i _ _ _ Try.underlying3) (congrArg Value.bool (eq_ff (by omega)))) ?_
      refine QSeq.pure rfl _ (fun E => ex_assign rfl (E.d 0 0)) ?_
      refine QSeq.nil (t' := [_, _]) rfl ?_
      obtain rfl := HA0.out
      clear HA0 oe71
      simp only [pz, Act.put, List.setIfInBounds_toArray, List.set_cons_zero, List.set_cons_succ]
      obtain ⟨X, hX⟩ : ∃ X, X = shaF (ofT ((kc : Nat) : Int) ((k1 : Nat) : Int) z32 (a.b.take 2)) := ⟨_, rfl⟩
      cases hml : mlook s.m (((kc : Nat) : Int), ((k1 : Nat) : Int)) with
      | none =>
       have HML := Lib.hid hml
       clear hml
       obtain ⟨t, ht⟩ : ∃ t, t = max (max s.now (s.floor + 1)) (s.last + 1) := ⟨_, rfl⟩
       by_cases htl : t + 1 < U64
       ·skip
        go_upto_region 14 with (fail)
        generalize ha0 : Act.mk _ _ = a0
        have oe4 : a0.eval (.tmp 4) = .pointer (some ⟨g, 0, none⟩) := by rw [← ha0]; rfl
        have oe5 : a0.eval (.tmp 5) = .pointer (some ⟨p, 0, none⟩) := by rw [← ha0]; rfl
        have oe9 : a0.eval (.tmp 9) = .pointer (some ⟨wl.heap.size, 0, none⟩) := by rw [← ha0]; rfl
        have oe12 : a0.eval (.tmp 12) = .pointer (some ⟨b12, 0, none⟩) := by rw [← ha0]; rfl
        have hsz0 : a0.tmps.size = 173 := by rw [← ha0]; rfl
        have HA0 := hid ha0
        clear ha0
        refine wp_region_Q1 173 hsz0 [72, 73, 74, 75, 76, 77, 78, 79, 80, 81] (fun k => (New u1_2 u2_0 k) ∨ (New u2_0 u3_1 k)) (fun k j => (k = 1 ∧ ((New u1_2 u2_0 j))) ∨ (k = 2 ∧ ((New u2_0 u3_1 j) ∨ (New u1_2 u2_0 j)))) (by intro k j h; (try dsimp only at h ⊢); omega) [qi (.pointer (some ⟨p, 0, none⟩)), qi (.pointer (some ⟨g, 0, none⟩)), qi (.pointer (some ⟨g, 0, none⟩)), qi (.agg #[.int .i64 ((kc : Nat) : Int), .int .i64 ((k1 : Nat) : Int)]), qi (hv z32), qi (.pointer (some ⟨wl.heap.size, 5, none⟩)), qi (.slice aa a.b.length cpa), qv 0, qv 1, qv 2] ⟨qi_stable, qi_stable, qi_stable, qi_stable, qi_stable, qi_stable, qi_stable, qv_stable, qv_stable, qv_stable, trivial⟩ [7, 8, 9] ⟨?_, ?_, ?_, ?_, ?_, ?_, ?_, ?_, ?_, ?_, trivial⟩ ?_
        ·exact stq (fun E => ex_move rfl (E.v oe5))
        ·exact stq (fun E => ex_move rfl (E.v oe4))
        ·exact stq (fun E => ex_move rfl (E.v oe4))
        ·exact stq (fun E => ex_loadA rfl Try.underlying30 rfl (off := 0) (cs := [.int .i64 ((kc : Nat) : Int), .int .i64 ((k1 : Nat) : Int)]) (by kernel_rfl) (E.v oe12) (Cs.litA (Hx16.out.mod E.m (by intro h2; omega)) rfl))
        ·exact stq (fun E => ex_build0 rfl (r := ((z32.map bv) : List Value).toArray) (by kernel_rfl))
        ·exact stq (fun E => ex_field rfl Try.underlying59 rfl (by kernel_rfl) (E.v oe9))
        ·exact stq (fun E => ex_load1 rfl Try.underlying38 rfl (E.d 5) (Cs.lit1 ((Hx13.out.mod Cx15.out (fun h => h)).mod E.m (by intro h2; omega)) rfl))
        ·exact stepq_chain rfl
        ·exact stepq_chain rfl
        ·exact stepq_chain rfl
        intro u14_0 hr
        have zu14_0 := hr.size
        have Cx25 := hid (hr.new (S := (fun k => (New u1_2 u2_0 k) ∨ (New u2_0 u3_1 k))))
        have Hx26 := hid (((K2.out.mod Cx14.out (fun _ _ h => h)).mod Cx15.out (fun _ _ h => h)).mod hr (by intro k h1 h2; omega))
        clear K2
        have Hx27 := hid (((K1.out.mod Cx14.out (fun _ _ h => h)).mod Cx15.out (fun _ _ h => h)).mod hr (by intro k h1 h2; omega))
        clear K1
        clear hr
        refine QChain.go fun Z act E => ?_
        refine qc_callF (args := #[.slice aa a.b.length cpa, .int .i64 2]) rfl (wanted_none rfl) rfl Try.func20 (args2 (E.d 6) rfl) (Cut_R 2 (((HEL.out.mod Cx14.out (fun _ _ h => h)).mod Cx15.out (fun _ _ h => h)).mod Cx25.out (by intro k h1 h2; omega)) (by decide)) ?_
        rintro e u14_1a ⟨v_cut, rfl, qcut, hm⟩
        have zu14_1a := hm.size
        refine ⟨_, rfl, hm.mono (fun _ _ h => h.elim), (fun _ => rfl), ?_⟩
        intro u14_1 hr
        have zu14_1 := hr.size
        have Hx28 := hid ((qcut.widen (R' := (fun k => (New u14_0 u14_1a k))) (fun _ h => h) (Nat.le_refl _)).mod hr (by intro k h1 h2; omega))
        have hmr := Mod.after hm hr
        have Hx29 := hid (Hx26.out.mod hmr (by intro k h1 h2; omega))
        have Hx30 := hid (Hx27.out.mod hmr (by intro k h1 h2; omega))
        clear Hx26 Hx27
        clear hmr
        have Cx31 := hid (Cx25.out.go hm hr)
        clear Cx25 hm hr Z act E qcut
        refine QChain.go fun Z act E => ?_
        refine qc_callF (args := #[.pointer (some ⟨g, 0, none⟩), .agg #[.int .i64 ((kc : Nat) : Int), .int .i64 ((k1 : Nat) : Int)], hv z32, v_cut]) rfl (wanted_none rfl) rfl Try.func10 (args4 (E.d 2) (E.d 3) (E.d 4) (chv (v := v_cut) (E.d 7))) (Make_B Hx29.out (by omega) 3 ((kc : Nat) : Int) ((k1 : Nat) : Int) (a.b.take 2) (by omega) (by decide) (by omega) Hx28.out.rd (by rw [List.length_take]; omega)) ?_
        rintro e u14_2a ⟨ca, La, rfl, qbk, hmd, hm⟩
        have HMDa := Lib.hid hmd
        clear hmd
        have zu14_2a := hm.size
        refine ⟨_, rfl, hm.mono (by intro k hk h; omega), (fun _ => rfl), ?_⟩
        intro u14_2 hr
        have zu14_2 := hr.size
        have Hx32 := hid (qbk.mod hr (by intro k h1 h2; omega))
        have hmr := hm.two hr
        have Hx33 := hid (Hx30.out.mod hmr (by intro k h1 h2; omega))
        have Hx34 := hid (Hx28.out.mod hmr (by intro k h1 h2; omega))
        clear Hx30 Hx28
        clear hmr
        have Cx35 := hid (Cx31.out.goM hm hr (by intro k h0 h2; omega))
        clear Cx31 hm hr Z act E qbk Hx29
        refine QChain.go fun Z act E => ?_
        refine qc_callF (args := #[.pointer (some ⟨p, 0, none⟩), .pointer (some ⟨g, 0, none⟩), .agg ca.cells.toArray]) rfl (wanted_none rfl) rfl Try.func14 (args3 (E.d 0) (E.d 1) (chv (v := .agg ca.cells.toArray) (E.d 8))) (Stamp_B (t := t) Hx33.out Hx32.out (by intro k h1; omega) (by intro k h1; omega) (by intro k h1 h2; omega) HMDa.out.ok HMDa.out.si HMDa.out.rt (by rw [HMDa.out.cl, HMDa.out.sq]; exact HML.out) ht htl (by unfold I64; decide) (by have := HMDa.out.ln; omega)) ?_
        rintro e u14_3a ⟨ya, Ma, rfl, qsp, qbk, hst, hm⟩
        have HYFa := Lib.hid hst
        clear hst
        have zu14_3a := hm.size
        refine ⟨_, rfl, hm.mono (by intro k hk h; omega), (fun _ => rfl), ?_⟩
        intro u14_3 hr
        have zu14_3 := hr.size
        have Hx36 := hid (qsp.mod hr (by intro k h1 h2; omega))
        have Hx37 := hid (qbk.mod hr (by intro k h1 h2; omega))
        have hmr := hm.two hr
        have Hx38 := hid (Hx34.out.mod hmr (by intro k h1 h2; omega))
        clear Hx34
        clear hmr
        have Cx39 := hid (Cx35.out.goM hm hr (by intro k h0 h2; omega))
        clear Cx35 hm hr Z act E qsp qbk Hx33 Hx32
        refine QChain.nil fun vs hl hzz hrows hne => ?_
        obtain ⟨Z, hYZ, hZb, hV⟩ := hzz
        have f0 := fvi hV hl 0
        have f1 := fvi hV hl 1
        have f2 := fvi hV hl 2
        have f7 := fvc hV hl 7
        have f8 := fvc hV hl 8
        have f9 := fvc hV hl 9
        rw [show vs = [gw vs 0, gw vs 1, gw vs 2, gw vs 3, gw vs 4, gw vs 5, gw vs 6, gw vs 7, gw vs 8, gw vs 9] from (gw_eta hl).trans rfl]
        have ha0 := HA0.out
        subst ha0
        clear HA0 hV hYZ hZb hsz0 hrows hne oe4 oe5 oe9 oe12
        simp only [putAll, Act.put, List.setIfInBounds_toArray, List.set_cons_zero, List.set_cons_succ, f0, f1, f2, f7, f8, f9]
        clear hl f0 f1 f2 f7 f8 f9
        clear Hx38
        clear HEL
        clear Hx13
        have hLa := HMDa.out.ln
        have hLb := HYFa.out.ln
        have HYO := hid HYFa.out.ok
        have hq := Hx36.out
        rw [show (⟨s.now, s.floor, t, s.m ++ [((ca.cl, ca.sq), ya)]⟩ : SS) = ⟨s.now, s.floor, t, (s.m ++ [((((kc : Nat) : Int), ((k1 : Nat) : Int)), ya)])⟩ from by rw [HMDa.out.cl, HMDa.out.sq]] at hq
        have HSPn := Lib.hid hq
        clear hq
        clear Hx36
        have hlk : mlook (s.m ++ [((((kc : Nat) : Int), ((k1 : Nat) : Int)), ya)]) (((kc : Nat) : Int), ((k1 : Nat) : Int)) = some ya := by rw [mlook_snoc, HML.out, if_pos rfl]; rfl
        have HLK := Lib.hid hlk
        clear hlk
        go_upto_region 15 with (fail)
        refine wp_region_U 173 [83, 84, 85, 82, 86, 87, 88, 13, 181, 14, 15] [0, 1, 2, 3, 4, 5, 6, 7, 8, 9, 10] (fun a0 HA0 => ?_)
        have oe5 := ev HA0 5 rfl
        have oe12 := ev HA0 12 rfl
        refine QSeq.pure rfl _ (fun E => ex_move rfl (E.v oe5)) ?_
        refine QSeq.pure rfl _ (fun E => ex_loadA rfl Try.underlying30 rfl (off := 0) (cs := [.int .i64 ((kc : Nat) : Int), .int .i64 ((k1 : Nat) : Int)]) (by kernel_rfl) (E.v oe12) (Cs.litA (Hx16.out.mod Cx39.out (by intro h2; omega)) rfl)) ?_
        refine QSeq.call rfl rfl Try.func21 (Of_Q (n := (((kc : Nat) : Int), ((k1 : Nat) : Int))) (y := ya) (bb := true) HSPn.out (by intro k h1; omega) HNK.out (lookV_some HLK.out) HYO.out) (fun E => args2 (E.d 0 1) (E.d 1 0)) ?_
        rintro e u15_2 ⟨rfl, hm⟩
        refine ⟨_, rfl, ?_⟩
        have zu15_2 := hm.size
        have Cx40 := hid (show Mod (fun _ => False) u14_3 u15_2 from hm)
        clear hm
        refine QSeq.pure rfl _ (fun E => ex_move rfl (E.d 2 0)) ?_
        refine QSeq.pure rfl (hv ya.h) (fun E => ex_extract rfl (E.d 3 0) rfl) ?_
        refine QSeq.pure rfl (.int .u64 (ya.tm : Nat)) (fun E => ex_extract rfl (E.d 3 1) rfl) ?_
        refine QSeq.pure rfl (.bool true) (fun E => ex_extract rfl (E.d 3 2) rfl) ?_
        refine QSeq.go fun act E => ?_
        refine qc_alloc rfl (wanted_none rfl) rfl (z := [.int .u8 0, .int .u8 0, .int .u8 0, .int .u8 0, .int .u8 0, .int .u8 0, .int .u8 0, .int .u8 0, .int .u8 0, .int .u8 0, .int .u8 0, .int .u8 0, .int .u8 0, .int .u8 0, .int .u8 0, .int .u8 0, .int .u8 0, .int .u8 0, .int .u8 0, .int .u8 0, .int .u8 0, .int .u8 0, .int .u8 0, .int .u8 0, .int .u8 0, .int .u8 0, .int .u8 0, .int .u8 0, .int .u8 0, .int .u8 0, .int .u8 0, .int .u8 0]) (by kernel_rfl) ?_
        intro u15_7 qb13 hm
        have zl15_7 := qb13.lt
        have Hx41 := hid qb13
        have zu15_7 := hm.size
        have HMu15_7 := hid hm
        have Cx42 := hid (Cx40.out.goE hm)
        clear hm Cx40
        clear act E qb13
        refine QSeq.go fun act E => ?_
        have hlz : ((ya.h.map bv)).length = List.length ([.int .u8 0, .int .u8 0, .int .u8 0, .int .u8 0, .int .u8 0, .int .u8 0, .int .u8 0, .int .u8 0, .int .u8 0, .int .u8 0, .int .u8 0, .int .u8 0, .int .u8 0, .int .u8 0, .int .u8 0, .int .u8 0, .int .u8 0, .int .u8 0, .int .u8 0, .int .u8 0, .int .u8 0, .int .u8 0, .int .u8 0, .int .u8 0, .int .u8 0, .int .u8 0, .int .u8 0, .int .u8 0, .int .u8 0, .int .u8 0, .int .u8 0, .int .u8 0] : List Value) := (by rw [List.length_map, HYO.out.h.1]; rfl)
        refine qc_store rfl (wanted_none rfl) rfl Hx41.out (off := 0) (vs := (ya.h.map bv)) (by rw [hlz]; kernel_rfl) (by intro u hu; obtain ⟨z, -, rfl⟩ := List.mem_map.1 hu; rfl) (by rw [hlz]; exact Nat.le_of_eq (Nat.zero_add _)) (E.d 7 0) (ec (E.d 4 3)) ?_
        intro u15_8 qc0 hm
        have qb13 := qc0.eqv (b := ((ya.h.map bv) : List Value).toArray) (lay_whole (#[.int .u8 0, .int .u8 0, .int .u8 0, .int .u8 0, .int .u8 0, .int .u8 0, .int .u8 0, .int .u8 0, .int .u8 0, .int .u8 0, .int .u8 0, .int .u8 0, .int .u8 0, .int .u8 0, .int .u8 0, .int .u8 0, .int .u8 0, .int .u8 0, .int .u8 0, .int .u8 0, .int .u8 0, .int .u8 0, .int .u8 0, .int .u8 0, .int .u8 0, .int .u8 0, .int .u8 0, .int .u8 0, .int .u8 0, .int .u8 0, .int .u8 0, .int .u8 0]) _ (by rw [hlz]; rfl))
        clear qc0 hlz
        have Hx43 := hid qb13
        have zu15_8 := hm.size
        have HMu15_8 := hid hm
        have Cx44 := hid (Mod.goS (S' := (fun _ => False)) Cx42.out hm (fun _ h => h) (by intro k h0 h2; omega))
        clear hm Cx42
        clear act E qb13 Hx41
        refine QSeq.pure rfl _ (fun E => ex_assign rfl (E.d 5 3)) ?_
        refine QSeq.pure rfl _ (fun E => ex_assign rfl (E.d 6 3)) ?_
        clear HMu15_7 HMu15_8
        refine QSeq.nil (t' := [_, _, _, _, _, _, _, _, _, _, _]) rfl ?_
        obtain rfl := HA0.out
        clear HA0 oe5 oe12
        simp only [pz, Act.put, List.setIfInBounds_toArray, List.set_cons_zero, List.set_cons_succ, List.set_nil]
        go_upto_region 16 with (fail)
        refine wp_region_U 173 [89] [0] (fun a0 HA0 => ?_)
        have oe15 := ev HA0 15 rfl
        refine QSeq.pure rfl _ (fun E => ex_move rfl (E.v oe15)) ?_
        refine QSeq.nil (t' := [_]) rfl ?_
        obtain rfl := HA0.out
        clear HA0 oe15
        simp only [pz, Act.put, List.setIfInBounds_toArray, List.set_cons_zero, List.set_cons_succ]
        go_upto_region 17 with (fail)
        refine wp_region_U 173 [91, 92, 93, 90, 94, 95, 16, 180, 17] [0, 1, 2, 3, 4, 5, 6, 7, 8] (fun a0 HA0 => ?_)
        have oe7 := ev HA0 7 rfl
        have oe12 := ev HA0 12 rfl
        refine QSeq.pure rfl _ (fun E => ex_move rfl (E.v oe7)) ?_
        refine QSeq.pure rfl _ (fun E => ex_loadA rfl Try.underlying30 rfl (off := 0) (cs := [.int .i64 ((kc : Nat) : Int), .int .i64 ((k1 : Nat) : Int)]) (by kernel_rfl) (E.v oe12) (Cs.litA ((Hx16.out.mod Cx39.out (by intro h2; omega)).mod Cx44.out (fun h => h)) rfl)) ?_
        refine QSeq.pure rfl (.tuple #[kpV zSt, .bool false]) (fun E => ex_lookK (k := (((kc : Nat) : Int), ((k1 : Nat) : Int))) rfl (E.d 0 1) (E.d 1 0) HNK.out ((((K3.out.mod Cx14.out (fun h => h)).mod Cx15.out (fun h => h)).mod Cx39.out (by intro h2; omega)).mod Cx44.out (fun h => h)) (lookK_none HML.out)) ?_
        refine QSeq.pure rfl _ (fun E => ex_move rfl (E.d 2 0)) ?_
        refine QSeq.pure rfl (kpV zSt) (fun E => ex_extract rfl (E.d 3 0) rfl) ?_
        refine QSeq.pure rfl (.bool false) (fun E => ex_extract rfl (E.d 3 1) rfl) ?_
        refine QSeq.go fun act E => ?_
        refine qc_alloc rfl (wanted_none rfl) rfl (z := [.int .u8 0, .int .u8 0, .int .u8 0, .int .u8 0, .int .u8 0, .int .u8 0, .int .u8 0, .int .u8 0, .int .u8 0, .int .u8 0, .int .u8 0, .int .u8 0, .int .u8 0, .int .u8 0, .int .u8 0, .int .u8 0, .int .u8 0, .int .u8 0, .int .u8 0, .int .u8 0, .int .u8 0, .int .u8 0, .int .u8 0, .int .u8 0, .int .u8 0, .int .u8 0, .int .u8 0, .int .u8 0, .int .u8 0, .int .u8 0, .int .u8 0, .int .u8 0, .int .u64 0]) (by kernel_rfl) ?_
        intro u17_6 qb16 hm
        have zl17_6 := qb16.lt
        have Hx45 := hid qb16
        have zu17_6 := hm.size
        have Cx46 := hid (show Mod (fun _ => False) u15_8 u17_6 from hm)
        clear hm
        clear act E qb16
        refine QSeq.go fun act E => ?_
        have hlz : ((kpC zSt)).length = List.length ([.int .u8 0, .int .u8 0, .int .u8 0, .int .u8 0, .int .u8 0, .int .u8 0, .int .u8 0, .int .u8 0, .int .u8 0, .int .u8 0, .int .u8 0, .int .u8 0, .int .u8 0, .int .u8 0, .int .u8 0, .int .u8 0, .int .u8 0, .int .u8 0, .int .u8 0, .int .u8 0, .int .u8 0, .int .u8 0, .int .u8 0, .int .u8 0, .int .u8 0, .int .u8 0, .int .u8 0, .int .u8 0, .int .u8 0, .int .u8 0, .int .u8 0, .int .u8 0, .int .u64 0] : List Value) := (by rw [kpC_len zSt_ok]; rfl)
        refine qc_store rfl (wanted_none rfl) rfl Hx45.out (off := 0) (vs := (kpC zSt)) (by rw [hlz]; kernel_rfl) (kpC_one zSt) (by rw [hlz]; exact Nat.le_of_eq (Nat.zero_add _)) (E.d 6 0) (ec (E.d 4 2)) ?_
        intro u17_7 qc0 hm
        have qb16 := qc0.eqv (b := ((kpC zSt) : List Value).toArray) (lay_whole (#[.int .u8 0, .int .u8 0, .int .u8 0, .int .u8 0, .int .u8 0, .int .u8 0, .int .u8 0, .int .u8 0, .int .u8 0, .int .u8 0, .int .u8 0, .int .u8 0, .int .u8 0, .int .u8 0, .int .u8 0, .int .u8 0, .int .u8 0, .int .u8 0, .int .u8 0, .int .u8 0, .int .u8 0, .int .u8 0, .int .u8 0, .int .u8 0, .int .u8 0, .int .u8 0, .int .u8 0, .int .u8 0, .int .u8 0, .int .u8 0, .int .u8 0, .int .u8 0, .int .u64 0]) _ (by rw [hlz]; rfl))
        clear qc0 hlz
        have Hx47 := hid qb16
        have zu17_7 := hm.size
        have HMu17_7 := hid hm
        have Cx48 := hid (Mod.goS (S' := (fun _ => False)) Cx46.out hm (fun _ h => h) (by intro k h0 h2; omega))
        clear hm Cx46
        clear act E qb16 Hx45
        refine QSeq.pure rfl _ (fun E => ex_assign rfl (E.d 5 2)) ?_
        clear HMu17_7
        refine QSeq.nil (t' := [_, _, _, _, _, _, _, _, _]) rfl ?_
        obtain rfl := HA0.out
        clear HA0 oe7 oe12
        simp only [pz, Act.put, List.setIfInBounds_toArray, List.set_cons_zero, List.set_cons_succ, List.set_nil]
        go_upto_region 18 with (fail)
        refine wp_region_U 173 [96, 97, 98, 99, 100, 101, 102, 103, 104, 105, 106, 107, 108] [0, 1, 2, 3, 4, 5, 6, 7, 8, 9, 10, 11, 12] (fun a0 HA0 => ?_)
        have oe17 := ev HA0 17 rfl
        refine QSeq.pure rfl _ (fun E => ex_move rfl (E.v oe17)) ?_
        refine QSeq.pure rfl _ (fun E => ex_move rfl (E.d 0 0)) ?_
        refine QSeq.skip rfl (fun E => ((wanted_of rfl rfl (E.sz 97 (by decide)) (E.d 1 0)).trans rfl)) ?_
        refine QSeq.skip rfl (fun E => ((wanted_of rfl rfl (E.sz 97 (by decide)) (E.d 1 1)).trans rfl)) ?_
        refine QSeq.skip rfl (fun E => ((wanted_of rfl rfl (E.sz 97 (by decide)) (E.d 1 2)).trans rfl)) ?_
        refine QSeq.skip rfl (fun E => ((wanted_of rfl rfl (E.sz 97 (by decide)) (E.d 1 3)).trans rfl)) ?_
        refine QSeq.skip rfl (fun E => ((wanted_of rfl rfl (E.sz 97 (by decide)) (E.d 1 4)).trans rfl)) ?_
        refine QSeq.skip rfl (fun E => (wanted_undef rfl rfl (E.sz 102 (by decide)) (E.d 6 0))) ?_
        refine QSeq.skip rfl (fun E => (wanted_undef rfl rfl (E.sz 102 (by decide)) (E.d 6 1))) ?_
        refine QSeq.skip rfl (fun E => (wanted_undef rfl rfl (E.sz 102 (by decide)) (E.d 6 2))) ?_
        refine QSeq.skip rfl (fun E => (wanted_undef rfl rfl (E.sz 102 (by decide)) (E.d 6 3))) ?_
        refine QSeq.skip rfl (fun E => ((wanted_of rfl rfl (E.sz 97 (by decide)) (E.d 1 9)).trans rfl)) ?_
        refine QSeq.pure rfl (.bool false) (fun E => ex_pick rfl (E.d 1 10) (E.d 11 0) rfl) ?_
        refine QSeq.nil (t' := [_, _, _, _, _, _, _, _, _, _, _, _, _]) rfl ?_
        obtain rfl := HA0.out
        clear HA0 oe17
        simp only [pz, Act.put, List.setIfInBounds_toArray, List.set_cons_zero, List.set_cons_succ]
        clear Hx47
        go_upto_region 20 with (fail)
        refine wp_region_U 173 [109, 110, 111, 112, 113, 178] [0, 1, 2, 3, 4, 5] (fun a0 HA0 => ?_)
        have oe7 := ev HA0 7 rfl
        have oe12 := ev HA0 12 rfl
        have oe13 := ev HA0 13 rfl
        have oe14 := ev HA0 14 rfl
        refine QSeq.pure rfl _ (fun E => ex_move rfl (E.v oe7)) ?_
        refine QSeq.pure rfl _ (fun E => ex_loadA rfl Try.underlying30 rfl (off := 0) (cs := [.int .i64 ((kc : Nat) : Int), .int .i64 ((k1 : Nat) : Int)]) (by kernel_rfl) (E.v oe12) (Cs.litA (((Hx16.out.mod Cx39.out (by intro h2; omega)).mod Cx44.out (fun h => h)).mod Cx48.out (fun h => h)) rfl)) ?_
        refine QSeq.pure rfl _ (fun E => ex_loadA rfl Try.underlying32 rfl (off := 0) (cs := (ya.h.map bv)) (by rw [List.length_map, HYO.out.h.1]; exact size_hash) (E.v oe13) (Cs.whole (Hx43.out.mod Cx48.out (fun h => h)))) ?_
        refine QSeq.pure rfl _ (fun E => ex_move rfl (E.v oe14)) ?_
        refine QSeq.go fun act E => ?_
        refine qc_run rfl (wanted_none rfl) (v := .agg ((kpC ya) : List Value).toArray) (ex_build rfl (z := [.int .u8 0, .int .u8 0, .int .u8 0, .int .u8 0, .int .u8 0, .int .u8 0, .int .u8 0, .int .u8 0, .int .u8 0, .int .u8 0, .int .u8 0, .int .u8 0, .int .u8 0, .int .u8 0, .int .u8 0, .int .u8 0, .int .u8 0, .int .u8 0, .int .u8 0, .int .u8 0, .int .u8 0, .int .u8 0, .int .u8 0, .int .u8 0, .int .u8 0, .int .u8 0, .int .u8 0, .int .u8 0, .int .u8 0, .int .u8 0, .int .u8 0, .int .u8 0, .int .u64 0]) (places := [(0, 32), (32, 1)]) (by kernel_rfl) (parts := [(0, hv ya.h), (1, .int .u64 (ya.tm : Nat))]) (by simp only [List.map_toArray, List.map_cons, List.map_nil, show act.eval (.tmp 111) = hv ya.h from (E.d 2 1), show act.eval (.tmp 112) = .int .u64 (ya.tm : Nat) from (E.d 3 0)]; try rfl) (r := (kpC ya)) (by exact laid_kept ya.h ya.tm HYO.out.h.1)) ?_
        clear act E
        refine QSeq.go fun act E => ?_
        refine qc_updK (k := (((kc : Nat) : Int), ((k1 : Nat) : Int))) (y := ya) (l' := (s.m ++ [((((kc : Nat) : Int), ((k1 : Nat) : Int)), ya)])) rfl (wanted_none rfl) rfl (E.d 0 4) (E.d 1 3) (E.d 4 0) HNK.out (((((K3.out.mod Cx14.out (fun h => h)).mod Cx15.out (fun h => h)).mod Cx39.out (by intro h2; omega)).mod Cx44.out (fun h => h)).mod Cx48.out (fun h => h)) (Or.inl ⟨HML.out, rfl⟩) ?_
        intro u20_5 qkm hm
        have Hx49 := hid qkm
        have zu20_5 := hm.size
        have Cx50 := hid (show Mod (fun k => (k = u3_1.heap.size)) u17_7 u20_5 from hm)
        clear hm
        clear act E qkm K3
        refine QSeq.nil (t' := [_, _, _, _, _, _]) rfl ?_
        obtain rfl := HA0.out
        clear HA0 oe7 oe12 oe13 oe14
        simp only [pz, Act.put, List.setIfInBounds_toArray, List.set_cons_zero, List.set_cons_succ, List.set_nil]
        clear Hx16
        clear Hx43
        go_upto_region 26 with (fail)
        refine wp_region_U 173 [127, 128, 129, 130, 131, 132, 133, 134, 135, 136, 137, 138, 139, 140, 141, 142, 143] [0, 1, 2, 3, 4, 5, 6, 7, 8, 9, 10, 11, 12, 13, 14, 15, 16] (fun a0 HA0 => ?_)
        have oe5 := ev HA0 5 rfl
        have oe7 := ev HA0 7 rfl
        have oe10 := ev HA0 10 rfl
        have oe11 := ev HA0 11 rfl
        refine QSeq.pure rfl _ (fun E => ex_move rfl (E.v oe5)) ?_
        refine QSeq.go fun act E => ?_
        refine qc_callF (args := #[.pointer (some ⟨p, 0, none⟩)]) rfl (wanted_none rfl) rfl Try.func19 (args1 (E.d 0 0)) (Now_Q (((HSPn.out.mod Cx44.out (fun _ _ h => h)).mod Cx48.out (fun _ _ h => h)).mod Cx50.out (by intro k h1 h2; omega))) ?_
        rintro e w2 ⟨rfl, hw2⟩
        obtain rfl : u20_5 = w2 := by first | exact hw2 | exact hw2.symm
        refine ⟨_, rfl, ?_⟩
        clear act E
        refine QSeq.pure rfl _ (fun E => ex_move rfl (E.v oe10)) ?_
        refine QSeq.pure rfl (.bool false) (fun E => ex_binE rfl (E.d 1 1) (E.d 2 0) (guard_ints _ _ _ _ _ _) (run_lss_i _ _ _ Try.underlying45) (congrArg Value.bool (decide_eq_false (show ¬ ((s.now : Nat) : Int) < ((s.now : Nat) : Int) by omega)))) ?_
        refine QSeq.pure rfl _ (fun E => ex_move rfl (E.d 3 0)) ?_
        refine QSeq.pureG rfl (.pointer (some ⟨p, 0, none⟩)) (fun E => ((wanted_of rfl rfl (E.sz 131 (by decide)) (E.d 4 0)).trans rfl)) (fun E => ex_move rfl (E.v oe5)) ?_
        refine QSeq.go fun act E => ?_
        refine qc_callF (args := #[.pointer (some ⟨p, 0, none⟩)]) rfl ((wanted_of rfl rfl (E.sz 131 (by decide)) (E.d 4 1)).trans rfl) rfl Try.func16 (args1 (E.d 5 0)) (Floor_Q (((HSPn.out.mod Cx44.out (fun _ _ h => h)).mod Cx48.out (fun _ _ h => h)).mod Cx50.out (by intro k h1 h2; omega))) ?_
        rintro e w2 ⟨rfl, hw2⟩
        obtain rfl : u20_5 = w2 := by first | exact hw2 | exact hw2.symm
        refine ⟨_, rfl, ?_⟩
        clear act E
        refine QSeq.pureG rfl (.int .u64 ((s.floor : Nat) : Int)) (fun E => ((wanted_of rfl rfl (E.sz 131 (by decide)) (E.d 4 2)).trans rfl)) (fun E => ex_move rfl (E.v oe11)) ?_
        refine QSeq.pureG rfl (.bool false) (fun E => ((wanted_of rfl rfl (E.sz 131 (by decide)) (E.d 4 3)).trans rfl)) (fun E => ex_binE rfl (E.d 6 1) (E.d 7 0) (guard_ints _ _ _ _ _ _) (run_lss_i _ _ _ Try.underlying45) (congrArg Value.bool (decide_eq_false (show ¬ ((s.floor : Nat) : Int) < ((s.floor : Nat) : Int) by omega)))) ?_
        refine QSeq.pure rfl (.bool false) (fun E => ex_pick rfl (E.d 4 4) rfl (E.d 8 0)) ?_
        refine QSeq.pure rfl _ (fun E => ex_move rfl (E.d 9 0)) ?_
        refine QSeq.pureG rfl (.pointer (some ⟨p, 0, none⟩)) (fun E => ((wanted_of rfl rfl (E.sz 137 (by decide)) (E.d 10 0)).trans rfl)) (fun E => ex_move rfl (E.v oe5)) ?_
        refine QSeq.go fun act E => ?_
        refine qc_callF (args := #[.pointer (some ⟨p, 0, none⟩)]) rfl ((wanted_of rfl rfl (E.sz 137 (by decide)) (E.d 10 1)).trans rfl) rfl Try.func17 (args1 (E.d 11 0)) (SLen_Q (((HSPn.out.mod Cx44.out (fun _ _ h => h)).mod Cx48.out (fun _ _ h => h)).mod Cx50.out (by intro k h1 h2; omega))) ?_
        rintro e w2 ⟨rfl, hw2⟩
        obtain rfl : u20_5 = w2 := by first | exact hw2 | exact hw2.symm
        refine ⟨_, rfl, ?_⟩
        clear act E
        refine QSeq.pureG rfl (.map (some u3_1.heap.size)) (fun E => ((wanted_of rfl rfl (E.sz 137 (by decide)) (E.d 10 2)).trans rfl)) (fun E => ex_move rfl (E.v oe7)) ?_
        refine QSeq.pureG rfl (.int .i64 (((s.m ++ [((((kc : Nat) : Int), ((k1 : Nat) : Int)), ya)]).length : Nat) : Int)) (fun E => ((wanted_of rfl rfl (E.sz 137 (by decide)) (E.d 10 3)).trans rfl)) (fun E => ex_lenK rfl (E.d 13 0) Hx49.out) ?_
        refine QSeq.pureG rfl (.bool false) (fun E => ((wanted_of rfl rfl (E.sz 137 (by decide)) (E.d 10 4)).trans rfl)) (fun E => ex_binE rfl (E.d 12 2) (E.d 14 0) (guard_ints _ _ _ _ _ _) (run_neq_i _ _ _ Try.underlying3) (congrArg Value.bool (ne_ff rfl))) ?_
        refine QSeq.pure rfl (.bool false) (fun E => ex_pick rfl (E.d 10 5) rfl (E.d 15 0)) ?_
        refine QSeq.nil (t' := [_, _, _, _, _, _, _, _, _, _, _, _, _, _, _, _, _]) rfl ?_
        obtain rfl := HA0.out
        clear HA0 oe5 oe7 oe10 oe11
        simp only [pz, Act.put, List.setIfInBounds_toArray, List.set_cons_zero, List.set_cons_succ]
        go_upto_region 9 with (fail)
        refine wp_region_U 173 [49, 50, 8] [0, 1, 2] (fun a0 HA0 => ?_)
        have oe8 := ev HA0 8 rfl
        refine QSeq.pure rfl _ (fun E => ex_move rfl (E.y 2 oe8)) ?_
        refine QSeq.pure rfl (.int .i64 (((i + 1) : Nat) : Int)) (fun E => ex_binE rfl (E.d 0 0) rfl (guard_ints _ _ _ _ _ _) (run_add_i _ _ Try.underlying3) (congrArg (Value.int .i64) (i64_eq (b := (((i + 1) : Nat) : Int)) (by omega) (by omega) (by omega)))) ?_
        refine QSeq.pure rfl _ (fun E => ex_assign rfl (E.d 1 0)) ?_
        refine QSeq.nil (t' := [_, _, _]) rfl ?_
        obtain rfl := HA0.out
        clear HA0 oe8
        simp only [pz, Act.put, List.setIfInBounds_toArray, List.set_cons_zero, List.set_cons_succ]
        go_wp2
        go_roundw
        case rel => exact ⟨i + 1, ⟨s.now, s.floor, t, (s.m ++ [((((kc : Nat) : Int), ((k1 : Nat) : Int)), ya)])⟩, Ma, rfl, by omega, by omega, by omega, (((HSPn.out.mod Cx44.out (fun _ _ h => h)).mod Cx48.out (fun _ _ h => h)).mod Cx50.out (by intro k h1 h2; omega)), (((Hx37.out.mod Cx44.out (fun _ _ h => h)).mod Cx48.out (fun _ _ h => h)).mod Cx50.out (by intro k h1 h2; omega)), Hx49.out, ((((((K4.out.mod Cx14.out (fun _ _ h => h)).mod Cx15.out (fun _ _ h => h)).mod Cx39.out (by intro k h1 h2; omega)).mod Cx44.out (fun _ _ h => h)).mod Cx48.out (fun _ _ h => h)).mod Cx50.out (by intro k h1 h2; omega)), ((((((K5.out.trans Cx14.out (fun _ _ h => h.elim)).trans Cx15.out (fun _ _ h => h.elim)).trans Cx39.out (by intro k h1 h2; omega)).trans Cx44.out (fun _ _ h => h.elim)).trans Cx48.out (fun _ _ h => h.elim)).trans Cx50.out (by intro k h1 h2; omega))⟩
        case measure => simp [intOf]; omega
       ·skip
        go_upto_region 14 with (fail)
        generalize ha0 : Act.mk _ _ = a0
        have oe4 : a0.eval (.tmp 4) = .pointer (some ⟨g, 0, none⟩) := by rw [← ha0]; rfl
        have oe5 : a0.eval (.tmp 5) = .pointer (some ⟨p, 0, none⟩) := by rw [← ha0]; rfl
        have oe9 : a0.eval (.tmp 9) = .pointer (some ⟨wl.heap.size, 0, none⟩) := by rw [← ha0]; rfl
        have oe12 : a0.eval (.tmp 12) = .pointer (some ⟨b12, 0, none⟩) := by rw [← ha0]; rfl
        have hsz0 : a0.tmps.size = 173 := by rw [← ha0]; rfl
        have HA0 := hid ha0
        clear ha0
        refine wp_region_Q1 173 hsz0 [72, 73, 74, 75, 76, 77, 78, 79, 80, 81] (fun k => (New u1_2 u2_0 k)) (fun k j => (k = 1 ∧ ((New u1_2 u2_0 j)))) (fun _ _ h => h.2) [qi (.pointer (some ⟨p, 0, none⟩)), qi (.pointer (some ⟨g, 0, none⟩)), qi (.pointer (some ⟨g, 0, none⟩)), qi (.agg #[.int .i64 ((kc : Nat) : Int), .int .i64 ((k1 : Nat) : Int)]), qi (hv z32), qi (.pointer (some ⟨wl.heap.size, 5, none⟩)), qi (.slice aa a.b.length cpa), qv 0, qv 1, qv 2] ⟨qi_stable, qi_stable, qi_stable, qi_stable, qi_stable, qi_stable, qi_stable, qv_stable, qv_stable, qv_stable, trivial⟩ [7, 8, 9] ⟨?_, ?_, ?_, ?_, ?_, ?_, ?_, ?_, ?_, ?_, trivial⟩ ?_
        ·exact stq (fun E => ex_move rfl (E.v oe5))
        ·exact stq (fun E => ex_move rfl (E.v oe4))
        ·exact stq (fun E => ex_move rfl (E.v oe4))
        ·exact stq (fun E => ex_loadA rfl Try.underlying30 rfl (off := 0) (cs := [.int .i64 ((kc : Nat) : Int), .int .i64 ((k1 : Nat) : Int)]) (by kernel_rfl) (E.v oe12) (Cs.litA (Hx16.out.mod E.m (by intro h2; omega)) rfl))
        ·exact stq (fun E => ex_build0 rfl (r := ((z32.map bv) : List Value).toArray) (by kernel_rfl))
        ·exact stq (fun E => ex_field rfl Try.underlying59 rfl (by kernel_rfl) (E.v oe9))
        ·exact stq (fun E => ex_load1 rfl Try.underlying38 rfl (E.d 5) (Cs.lit1 ((Hx13.out.mod Cx15.out (fun h => h)).mod E.m (by intro h2; omega)) rfl))
        ·exact stepq_chain rfl
        ·exact stepq_chain rfl
        ·exact stepq_chain rfl
        intro u14_0 hr
        have zu14_0 := hr.size
        have Cx51 := hid (hr.new (S := (fun k => (New u1_2 u2_0 k))))
        have Hx52 := hid (((K2.out.mod Cx14.out (fun _ _ h => h)).mod Cx15.out (fun _ _ h => h)).mod hr (by intro k h1 h2; omega))
        clear K2
        clear hr
        refine QChain.go fun Z act E => ?_
        refine qc_callF (args := #[.slice aa a.b.length cpa, .int .i64 2]) rfl (wanted_none rfl) rfl Try.func20 (args2 (E.d 6) rfl) (Cut_R 2 (((HEL.out.mod Cx14.out (fun _ _ h => h)).mod Cx15.out (fun _ _ h => h)).mod Cx51.out (by intro k h1 h2; omega)) (by decide)) ?_
        rintro e u14_1a ⟨v_cut, rfl, qcut, hm⟩
        have zu14_1a := hm.size
        refine ⟨_, rfl, hm.mono (fun _ _ h => h.elim), (fun _ => rfl), ?_⟩
        intro u14_1 hr
        have zu14_1 := hr.size
        have Hx53 := hid ((qcut.widen (R' := (fun k => (New u14_0 u14_1a k))) (fun _ h => h) (Nat.le_refl _)).mod hr (by intro k h1 h2; omega))
        have hmr := Mod.after hm hr
        have Hx54 := hid (Hx52.out.mod hmr (by intro k h1 h2; omega))
        clear Hx52
        clear hmr
        have Cx55 := hid (Cx51.out.go hm hr)
        clear Cx51 hm hr Z act E qcut
        refine QChain.go fun Z act E => ?_
        refine qc_callF (args := #[.pointer (some ⟨g, 0, none⟩), .agg #[.int .i64 ((kc : Nat) : Int), .int .i64 ((k1 : Nat) : Int)], hv z32, v_cut]) rfl (wanted_none rfl) rfl Try.func10 (args4 (E.d 2) (E.d 3) (E.d 4) (chv (v := v_cut) (E.d 7))) (Make_B Hx54.out (by omega) 3 ((kc : Nat) : Int) ((k1 : Nat) : Int) (a.b.take 2) (by omega) (by decide) (by omega) Hx53.out.rd (by rw [List.length_take]; omega)) ?_
        rintro e u14_2a ⟨ca, La, rfl, qbk, hmd, hm⟩
        have HMDa := Lib.hid hmd
        clear hmd
        have zu14_2a := hm.size
        refine ⟨_, rfl, hm.mono (by intro k hk h; omega), (fun _ => rfl), ?_⟩
        intro u14_2 hr
        have zu14_2 := hr.size
        have Hx56 := hid (qbk.mod hr (by intro k h1 h2; omega))
        have hmr := hm.two hr
        have Hx57 := hid (Hx53.out.mod hmr (by intro k h1 h2; omega))
        clear Hx53
        clear hmr
        have Cx58 := hid (Cx55.out.goM hm hr (fun _ _ h => h))
        clear Cx55 hm hr Z act E qbk Hx54
        refine QChain.go fun Z act E => ?_
        refine qc_callF (args := #[.pointer (some ⟨p, 0, none⟩), .pointer (some ⟨g, 0, none⟩), .agg ca.cells.toArray]) rfl (wanted_none rfl) rfl Try.func14 (args3 (E.d 0) (E.d 1) (chv (v := .agg ca.cells.toArray) (E.d 8))) (Stamp_end (t := t) (((K1.out.mod Cx14.out (fun _ _ h => h)).mod Cx15.out (fun _ _ h => h)).mod Cx58.out (by intro k h1 h2; omega)) Hx56.out (by intro k h1; omega) (by intro k h1; omega) (by intro k h1 h2; omega) HMDa.out.ok HMDa.out.si HMDa.out.rt (by rw [HMDa.out.cl, HMDa.out.sq]; exact HML.out) ht htl) ?_
        rintro e u14_3a ⟨rfl, qsp, qbk, hm⟩
        have zu14_3a := hm.size
        refine ⟨_, rfl, hm.mono (fun _ _ h => h.elim), (fun _ => rfl), ?_⟩
        intro u14_3 hr
        have zu14_3 := hr.size
        have Hx59 := hid (qsp.mod hr (by intro k h1 h2; omega))
        have Hx60 := hid (qbk.mod hr (by intro k h1 h2; omega))
        have hmr := Mod.after hm hr
        have Hx61 := hid (Hx57.out.mod hmr (by intro k h1 h2; omega))
        clear Hx57
        clear hmr
        have Cx62 := hid (Cx58.out.go hm hr)
        clear Cx58 hm hr Z act E qsp qbk K1 Hx56
        refine QChain.nil fun vs hl hzz hrows hne => ?_
        obtain ⟨Z, hYZ, hZb, hV⟩ := hzz
        have f0 := fvi hV hl 0
        have f1 := fvi hV hl 1
        have f2 := fvi hV hl 2
        have f7 := fvc hV hl 7
        have f8 := fvc hV hl 8
        have f9 := fvc hV hl 9
        rw [show vs = [gw vs 0, gw vs 1, gw vs 2, gw vs 3, gw vs 4, gw vs 5, gw vs 6, gw vs 7, gw vs 8, gw vs 9] from (gw_eta hl).trans rfl]
        have ha0 := HA0.out
        subst ha0
        clear HA0 hV hYZ hZb hsz0 hrows hne oe4 oe5 oe9 oe12
        simp only [putAll, Act.put, List.setIfInBounds_toArray, List.set_cons_zero, List.set_cons_succ, f0, f1, f2, f7, f8, f9]
        clear hl f0 f1 f2 f7 f8 f9
        clear Hx61
        clear HEL
        clear Hx13
        have hLa := HMDa.out.ln
        go_upto_region 15 with (fail)
        refine wp_region_U 173 [83, 84, 85, 82, 86, 87, 88, 13, 181, 14, 15] [0, 1, 2, 3, 4, 5, 6, 7, 8, 9, 10] (fun a0 HA0 => ?_)
        have oe5 := ev HA0 5 rfl
        have oe12 := ev HA0 12 rfl
        refine QSeq.pure rfl _ (fun E => ex_move rfl (E.v oe5)) ?_
        refine QSeq.pure rfl _ (fun E => ex_loadA rfl Try.underlying30 rfl (off := 0) (cs := [.int .i64 ((kc : Nat) : Int), .int .i64 ((k1 : Nat) : Int)]) (by kernel_rfl) (E.v oe12) (Cs.litA (Hx16.out.mod Cx62.out (by intro h2; omega)) rfl)) ?_
        refine QSeq.call rfl rfl Try.func21 (Of_Q (n := (((kc : Nat) : Int), ((k1 : Nat) : Int))) (y := zSt) (bb := false) Hx59.out (by intro k h1; omega) HNK.out (lookV_none HML.out) zSt_ok) (fun E => args2 (E.d 0 1) (E.d 1 0)) ?_
        rintro e u15_2 ⟨rfl, hm⟩
        refine ⟨_, rfl, ?_⟩
        have zu15_2 := hm.size
        have Cx63 := hid (show Mod (fun _ => False) u14_3 u15_2 from hm)
        clear hm
        refine QSeq.pure rfl _ (fun E => ex_move rfl (E.d 2 0)) ?_
        refine QSeq.pure rfl (hv zSt.h) (fun E => ex_extract rfl (E.d 3 0) rfl) ?_
        refine QSeq.pure rfl (.int .u64 (zSt.tm : Nat)) (fun E => ex_extract rfl (E.d 3 1) rfl) ?_
        refine QSeq.pure rfl (.bool false) (fun E => ex_extract rfl (E.d 3 2) rfl) ?_
        refine QSeq.go fun act E => ?_
        refine qc_alloc rfl (wanted_none rfl) rfl (z := [.int .u8 0, .int .u8 0, .int .u8 0, .int .u8 0, .int .u8 0, .int .u8 0, .int .u8 0, .int .u8 0, .int .u8 0, .int .u8 0, .int .u8 0, .int .u8 0, .int .u8 0, .int .u8 0, .int .u8 0, .int .u8 0, .int .u8 0, .int .u8 0, .int .u8 0, .int .u8 0, .int .u8 0, .int .u8 0, .int .u8 0, .int .u8 0, .int .u8 0, .int .u8 0, .int .u8 0, .int .u8 0, .int .u8 0, .int .u8 0, .int .u8 0, .int .u8 0]) (by kernel_rfl) ?_
        intro u15_7 qb13 hm
        have zl15_7 := qb13.lt
        have Hx64 := hid qb13
        have zu15_7 := hm.size
        have HMu15_7 := hid hm
        have Cx65 := hid (Cx63.out.goE hm)
        clear hm Cx63
        clear act E qb13
        refine QSeq.go fun act E => ?_
        have hlz : ((zSt.h.map bv)).length = List.length ([.int .u8 0, .int .u8 0, .int .u8 0, .int .u8 0, .int .u8 0, .int .u8 0, .int .u8 0, .int .u8 0, .int .u8 0, .int .u8 0, .int .u8 0, .int .u8 0, .int .u8 0, .int .u8 0, .int .u8 0, .int .u8 0, .int .u8 0, .int .u8 0, .int .u8 0, .int .u8 0, .int .u8 0, .int .u8 0, .int .u8 0, .int .u8 0, .int .u8 0, .int .u8 0, .int .u8 0, .int .u8 0, .int .u8 0, .int .u8 0, .int .u8 0, .int .u8 0] : List Value) := (by rw [List.length_map, zSt_ok.h.1]; rfl)
        refine qc_store rfl (wanted_none rfl) rfl Hx64.out (off := 0) (vs := (zSt.h.map bv)) (by rw [hlz]; kernel_rfl) (by intro u hu; obtain ⟨z, -, rfl⟩ := List.mem_map.1 hu; rfl) (by rw [hlz]; exact Nat.le_of_eq (Nat.zero_add _)) (E.d 7 0) (ec (E.d 4 3)) ?_
        intro u15_8 qc0 hm
        have qb13 := qc0.eqv (b := ((zSt.h.map bv) : List Value).toArray) (lay_whole (#[.int .u8 0, .int .u8 0, .int .u8 0, .int .u8 0, .int .u8 0, .int .u8 0, .int .u8 0, .int .u8 0, .int .u8 0, .int .u8 0, .int .u8 0, .int .u8 0, .int .u8 0, .int .u8 0, .int .u8 0, .int .u8 0, .int .u8 0, .int .u8 0, .int .u8 0, .int .u8 0, .int .u8 0, .int .u8 0, .int .u8 0, .int .u8 0, .int .u8 0, .int .u8 0, .int .u8 0, .int .u8 0, .int .u8 0, .int .u8 0, .int .u8 0, .int .u8 0]) _ (by rw [hlz]; rfl))
        clear qc0 hlz
        have Hx66 := hid qb13
        have zu15_8 := hm.size
        have HMu15_8 := hid hm
        have Cx67 := hid (Mod.goS (S' := (fun _ => False)) Cx65.out hm (fun _ h => h) (by intro k h0 h2; omega))
        clear hm Cx65
        clear act E qb13 Hx64
        refine QSeq.pure rfl _ (fun E => ex_assign rfl (E.d 5 3)) ?_
        refine QSeq.pure rfl _ (fun E => ex_assign rfl (E.d 6 3)) ?_
        clear HMu15_7 HMu15_8
        refine QSeq.nil (t' := [_, _, _, _, _, _, _, _, _, _, _]) rfl ?_
        obtain rfl := HA0.out
        clear HA0 oe5 oe12
        simp only [pz, Act.put, List.setIfInBounds_toArray, List.set_cons_zero, List.set_cons_succ, List.set_nil]
        go_upto_region 16 with (fail)
        refine wp_region_U 173 [89] [0] (fun a0 HA0 => ?_)
        have oe15 := ev HA0 15 rfl
        refine QSeq.pure rfl _ (fun E => ex_move rfl (E.v oe15)) ?_
        refine QSeq.nil (t' := [_]) rfl ?_
        obtain rfl := HA0.out
        clear HA0 oe15
        simp only [pz, Act.put, List.setIfInBounds_toArray, List.set_cons_zero, List.set_cons_succ]
        clear Hx16
        clear Hx66
        go_upto_region 26 with (fail)
        refine wp_region_U 173 [127, 128, 129, 130, 131, 132, 133, 134, 135, 136, 137, 138, 139, 140, 141, 142, 143] [0, 1, 2, 3, 4, 5, 6, 7, 8, 9, 10, 11, 12, 13, 14, 15, 16] (fun a0 HA0 => ?_)
        have oe5 := ev HA0 5 rfl
        have oe7 := ev HA0 7 rfl
        have oe10 := ev HA0 10 rfl
        have oe11 := ev HA0 11 rfl
        refine QSeq.pure rfl _ (fun E => ex_move rfl (E.v oe5)) ?_
        refine QSeq.go fun act E => ?_
        refine qc_callF (args := #[.pointer (some ⟨p, 0, none⟩)]) rfl (wanted_none rfl) rfl Try.func19 (args1 (E.d 0 0)) (Now_Q (Hx59.out.mod Cx67.out (fun _ _ h => h))) ?_
        rintro e w2 ⟨rfl, hw2⟩
        obtain rfl : u15_8 = w2 := by first | exact hw2 | exact hw2.symm
        refine ⟨_, rfl, ?_⟩
        clear act E
        refine QSeq.pure rfl _ (fun E => ex_move rfl (E.v oe10)) ?_
        refine QSeq.pure rfl (.bool false) (fun E => ex_binE rfl (E.d 1 1) (E.d 2 0) (guard_ints _ _ _ _ _ _) (run_lss_i _ _ _ Try.underlying45) (congrArg Value.bool (decide_eq_false (show ¬ ((s.now : Nat) : Int) < ((s.now : Nat) : Int) by omega)))) ?_
        refine QSeq.pure rfl _ (fun E => ex_move rfl (E.d 3 0)) ?_
        refine QSeq.pureG rfl (.pointer (some ⟨p, 0, none⟩)) (fun E => ((wanted_of rfl rfl (E.sz 131 (by decide)) (E.d 4 0)).trans rfl)) (fun E => ex_move rfl (E.v oe5)) ?_
        refine QSeq.go fun act E => ?_
        refine qc_callF (args := #[.pointer (some ⟨p, 0, none⟩)]) rfl ((wanted_of rfl rfl (E.sz 131 (by decide)) (E.d 4 1)).trans rfl) rfl Try.func16 (args1 (E.d 5 0)) (Floor_Q (Hx59.out.mod Cx67.out (fun _ _ h => h))) ?_
        rintro e w2 ⟨rfl, hw2⟩
        obtain rfl : u15_8 = w2 := by first | exact hw2 | exact hw2.symm
        refine ⟨_, rfl, ?_⟩
        clear act E
        refine QSeq.pureG rfl (.int .u64 ((s.floor : Nat) : Int)) (fun E => ((wanted_of rfl rfl (E.sz 131 (by decide)) (E.d 4 2)).trans rfl)) (fun E => ex_move rfl (E.v oe11)) ?_
        refine QSeq.pureG rfl (.bool false) (fun E => ((wanted_of rfl rfl (E.sz 131 (by decide)) (E.d 4 3)).trans rfl)) (fun E => ex_binE rfl (E.d 6 1) (E.d 7 0) (guard_ints _ _ _ _ _ _) (run_lss_i _ _ _ Try.underlying45) (congrArg Value.bool (decide_eq_false (show ¬ ((s.floor : Nat) : Int) < ((s.floor : Nat) : Int) by omega)))) ?_
        refine QSeq.pure rfl (.bool false) (fun E => ex_pick rfl (E.d 4 4) rfl (E.d 8 0)) ?_
        refine QSeq.pure rfl _ (fun E => ex_move rfl (E.d 9 0)) ?_
        refine QSeq.pureG rfl (.pointer (some ⟨p, 0, none⟩)) (fun E => ((wanted_of rfl rfl (E.sz 137 (by decide)) (E.d 10 0)).trans rfl)) (fun E => ex_move rfl (E.v oe5)) ?_
        refine QSeq.go fun act E => ?_
        refine qc_callF (args := #[.pointer (some ⟨p, 0, none⟩)]) rfl ((wanted_of rfl rfl (E.sz 137 (by decide)) (E.d 10 1)).trans rfl) rfl Try.func17 (args1 (E.d 11 0)) (SLen_Q (Hx59.out.mod Cx67.out (fun _ _ h => h))) ?_
        rintro e w2 ⟨rfl, hw2⟩
        obtain rfl : u15_8 = w2 := by first | exact hw2 | exact hw2.symm
        refine ⟨_, rfl, ?_⟩
        clear act E
        refine QSeq.pureG rfl (.map (some u3_1.heap.size)) (fun E => ((wanted_of rfl rfl (E.sz 137 (by decide)) (E.d 10 2)).trans rfl)) (fun E => ex_move rfl (E.v oe7)) ?_
        refine QSeq.pureG rfl (.int .i64 ((s.m.length : Nat) : Int)) (fun E => ((wanted_of rfl rfl (E.sz 137 (by decide)) (E.d 10 3)).trans rfl)) (fun E => ex_lenK rfl (E.d 13 0) ((((K3.out.mod Cx14.out (fun h => h)).mod Cx15.out (fun h => h)).mod Cx62.out (by intro h2; omega)).mod Cx67.out (fun h => h))) ?_
        refine QSeq.pureG rfl (.bool false) (fun E => ((wanted_of rfl rfl (E.sz 137 (by decide)) (E.d 10 4)).trans rfl)) (fun E => ex_binE rfl (E.d 12 2) (E.d 14 0) (guard_ints _ _ _ _ _ _) (run_neq_i _ _ _ Try.underlying3) (congrArg Value.bool (ne_ff rfl))) ?_
        refine QSeq.pure rfl (.bool false) (fun E => ex_pick rfl (E.d 10 5) rfl (E.d 15 0)) ?_
        refine QSeq.nil (t' := [_, _, _, _, _, _, _, _, _, _, _, _, _, _, _, _, _]) rfl ?_
        obtain rfl := HA0.out
        clear HA0 oe5 oe7 oe10 oe11
        simp only [pz, Act.put, List.setIfInBounds_toArray, List.set_cons_zero, List.set_cons_succ]
        go_upto_region 9 with (fail)
        refine wp_region_U 173 [49, 50, 8] [0, 1, 2] (fun a0 HA0 => ?_)
        have oe8 := ev HA0 8 rfl
        refine QSeq.pure rfl _ (fun E => ex_move rfl (E.y 2 oe8)) ?_
        refine QSeq.pure rfl (.int .i64 (((i + 1) : Nat) : Int)) (fun E => ex_binE rfl (E.d 0 0) rfl (guard_ints _ _ _ _ _ _) (run_add_i _ _ Try.underlying3) (congrArg (Value.int .i64) (i64_eq (b := (((i + 1) : Nat) : Int)) (by omega) (by omega) (by omega)))) ?_
        refine QSeq.pure rfl _ (fun E => ex_assign rfl (E.d 1 0)) ?_
        refine QSeq.nil (t' := [_, _, _]) rfl ?_
        obtain rfl := HA0.out
        clear HA0 oe8
        simp only [pz, Act.put, List.setIfInBounds_toArray, List.set_cons_zero, List.set_cons_succ]
        go_wp2
        go_roundw
        case rel => exact ⟨i + 1, s, La, rfl, by omega, by omega, by omega, (Hx59.out.mod Cx67.out (fun _ _ h => h)), (Hx60.out.mod Cx67.out (fun _ _ h => h)), ((((K3.out.mod Cx14.out (fun h => h)).mod Cx15.out (fun h => h)).mod Cx62.out (by intro h2; omega)).mod Cx67.out (fun h => h)), ((((K4.out.mod Cx14.out (fun _ _ h => h)).mod Cx15.out (fun _ _ h => h)).mod Cx62.out (by intro k h1 h2; omega)).mod Cx67.out (fun _ _ h => h)), ((((K5.out.trans Cx14.out (fun _ _ h => h.elim)).trans Cx15.out (fun _ _ h => h.elim)).trans Cx62.out (by intro k h1 h2; omega)).trans Cx67.out (fun _ _ h => h.elim))⟩
        case measure => simp [intOf]; omega
      | some y =>
       have HML := Lib.hid hml
       have HYO := hid (mlook_ok HOKS.out hml)
       clear hml
       by_cases hhe : y.h = X
       ·skip
        go_upto_region 14 with (fail)
        generalize ha0 : Act.mk _ _ = a0
        have oe4 : a0.eval (.tmp 4) = .pointer (some ⟨g, 0, none⟩) := by rw [← ha0]; rfl
        have oe5 : a0.eval (.tmp 5) = .pointer (some ⟨p, 0, none⟩) := by rw [← ha0]; rfl
        have oe9 : a0.eval (.tmp 9) = .pointer (some ⟨wl.heap.size, 0, none⟩) := by rw [← ha0]; rfl
        have oe12 : a0.eval (.tmp 12) = .pointer (some ⟨b12, 0, none⟩) := by rw [← ha0]; rfl
        have hsz0 : a0.tmps.size = 173 := by rw [← ha0]; rfl
        have HA0 := hid ha0
        clear ha0
        refine wp_region_Q1 173 hsz0 [72, 73, 74, 75, 76, 77, 78, 79, 80, 81] (fun k => (New u1_2 u2_0 k)) (fun k j => (k = 1 ∧ ((New u1_2 u2_0 j)))) (fun _ _ h => h.2) [qi (.pointer (some ⟨p, 0, none⟩)), qi (.pointer (some ⟨g, 0, none⟩)), qi (.pointer (some ⟨g, 0, none⟩)), qi (.agg #[.int .i64 ((kc : Nat) : Int), .int .i64 ((k1 : Nat) : Int)]), qi (hv z32), qi (.pointer (some ⟨wl.heap.size, 5, none⟩)), qi (.slice aa a.b.length cpa), qv 0, qv 1, qv 2] ⟨qi_stable, qi_stable, qi_stable, qi_stable, qi_stable, qi_stable, qi_stable, qv_stable, qv_stable, qv_stable, trivial⟩ [7, 8, 9] ⟨?_, ?_, ?_, ?_, ?_, ?_, ?_, ?_, ?_, ?_, trivial⟩ ?_
        ·exact stq (fun E => ex_move rfl (E.v oe5))
        ·exact stq (fun E => ex_move rfl (E.v oe4))
        ·exact stq (fun E => ex_move rfl (E.v oe4))
        ·exact stq (fun E => ex_loadA rfl Try.underlying30 rfl (off := 0) (cs := [.int .i64 ((kc : Nat) : Int), .int .i64 ((k1 : Nat) : Int)]) (by kernel_rfl) (E.v oe12) (Cs.litA (Hx16.out.mod E.m (by intro h2; omega)) rfl))
        ·exact stq (fun E => ex_build0 rfl (r := ((z32.map bv) : List Value).toArray) (by kernel_rfl))
        ·exact stq (fun E => ex_field rfl Try.underlying59 rfl (by kernel_rfl) (E.v oe9))
        ·exact stq (fun E => ex_load1 rfl Try.underlying38 rfl (E.d 5) (Cs.lit1 ((Hx13.out.mod Cx15.out (fun h => h)).mod E.m (by intro h2; omega)) rfl))
        ·exact stepq_chain rfl
        ·exact stepq_chain rfl
        ·exact stepq_chain rfl
        intro u14_0 hr
        have zu14_0 := hr.size
        have Cx68 := hid (hr.new (S := (fun k => (New u1_2 u2_0 k))))
        have Hx69 := hid (((K2.out.mod Cx14.out (fun _ _ h => h)).mod Cx15.out (fun _ _ h => h)).mod hr (by intro k h1 h2; omega))
        clear K2
        clear hr
        refine QChain.go fun Z act E => ?_
        refine qc_callF (args := #[.slice aa a.b.length cpa, .int .i64 2]) rfl (wanted_none rfl) rfl Try.func20 (args2 (E.d 6) rfl) (Cut_R 2 (((HEL.out.mod Cx14.out (fun _ _ h => h)).mod Cx15.out (fun _ _ h => h)).mod Cx68.out (by intro k h1 h2; omega)) (by decide)) ?_
        rintro e u14_1a ⟨v_cut, rfl, qcut, hm⟩
        have zu14_1a := hm.size
        refine ⟨_, rfl, hm.mono (fun _ _ h => h.elim), (fun _ => rfl), ?_⟩
        intro u14_1 hr
        have zu14_1 := hr.size
        have Hx70 := hid ((qcut.widen (R' := (fun k => (New u14_0 u14_1a k))) (fun _ h => h) (Nat.le_refl _)).mod hr (by intro k h1 h2; omega))
        have hmr := Mod.after hm hr
        have Hx71 := hid (Hx69.out.mod hmr (by intro k h1 h2; omega))
        clear Hx69
        clear hmr
        have Cx72 := hid (Cx68.out.go hm hr)
        clear Cx68 hm hr Z act E qcut
        refine QChain.go fun Z act E => ?_
        refine qc_callF (args := #[.pointer (some ⟨g, 0, none⟩), .agg #[.int .i64 ((kc : Nat) : Int), .int .i64 ((k1 : Nat) : Int)], hv z32, v_cut]) rfl (wanted_none rfl) rfl Try.func10 (args4 (E.d 2) (E.d 3) (E.d 4) (chv (v := v_cut) (E.d 7))) (Make_B Hx71.out (by omega) 3 ((kc : Nat) : Int) ((k1 : Nat) : Int) (a.b.take 2) (by omega) (by decide) (by omega) Hx70.out.rd (by rw [List.length_take]; omega)) ?_
        rintro e u14_2a ⟨ca, La, rfl, qbk, hmd, hm⟩
        have HMDa := Lib.hid hmd
        clear hmd
        have zu14_2a := hm.size
        refine ⟨_, rfl, hm.mono (by intro k hk h; omega), (fun _ => rfl), ?_⟩
        intro u14_2 hr
        have zu14_2 := hr.size
        have Hx73 := hid (qbk.mod hr (by intro k h1 h2; omega))
        have hmr := hm.two hr
        have Hx74 := hid (Hx70.out.mod hmr (by intro k h1 h2; omega))
        clear Hx70
        clear hmr
        have Cx75 := hid (Cx72.out.goM hm hr (fun _ _ h => h))
        clear Cx72 hm hr Z act E qbk Hx71
        refine QChain.go fun Z act E => ?_
        refine qc_callF (args := #[.pointer (some ⟨p, 0, none⟩), .pointer (some ⟨g, 0, none⟩), .agg ca.cells.toArray]) rfl (wanted_none rfl) rfl Try.func14 (args3 (E.d 0) (E.d 1) (chv (v := .agg ca.cells.toArray) (E.d 8))) (Stamp_old (((K1.out.mod Cx14.out (fun _ _ h => h)).mod Cx15.out (fun _ _ h => h)).mod Cx75.out (by intro k h1 h2; omega)) Hx73.out (by intro k h1; omega) (by intro k h1; omega) (by intro k h1 h2; omega) HMDa.out.ok HMDa.out.si HMDa.out.rt (by rw [HMDa.out.cl, HMDa.out.sq]; exact HML.out) (hhe.trans (hX.trans HMDa.out.hh.symm))) ?_
        rintro e u14_3a ⟨rfl, qsp, qbk, hm⟩
        have zu14_3a := hm.size
        refine ⟨_, rfl, hm.mono (fun _ _ h => h.elim), (fun _ => rfl), ?_⟩
        intro u14_3 hr
        have zu14_3 := hr.size
        have Hx76 := hid (qsp.mod hr (by intro k h1 h2; omega))
        have Hx77 := hid (qbk.mod hr (by intro k h1 h2; omega))
        have hmr := Mod.after hm hr
        have Hx78 := hid (Hx74.out.mod hmr (by intro k h1 h2; omega))
        clear Hx74
        clear hmr
        have Cx79 := hid (Cx75.out.go hm hr)
        clear Cx75 hm hr Z act E qsp qbk K1 Hx73
        refine QChain.nil fun vs hl hzz hrows hne => ?_
        obtain ⟨Z, hYZ, hZb, hV⟩ := hzz
        have f0 := fvi hV hl 0
        have f1 := fvi hV hl 1
        have f2 := fvi hV hl 2
        have f7 := fvc hV hl 7
        have f8 := fvc hV hl 8
        have f9 := fvc hV hl 9
        rw [show vs = [gw vs 0, gw vs 1, gw vs 2, gw vs 3, gw vs 4, gw vs 5, gw vs 6, gw vs 7, gw vs 8, gw vs 9] from (gw_eta hl).trans rfl]
        have ha0 := HA0.out
        subst ha0
        clear HA0 hV hYZ hZb hsz0 hrows hne oe4 oe5 oe9 oe12
        simp only [putAll, Act.put, List.setIfInBounds_toArray, List.set_cons_zero, List.set_cons_succ, f0, f1, f2, f7, f8, f9]
        clear hl f0 f1 f2 f7 f8 f9
        clear Hx78
        clear HEL
        clear Hx13
        have hLa := HMDa.out.ln
        go_upto_region 15 with (fail)
        refine wp_region_U 173 [83, 84, 85, 82, 86, 87, 88, 13, 181, 14, 15] [0, 1, 2, 3, 4, 5, 6, 7, 8, 9, 10] (fun a0 HA0 => ?_)
        have oe5 := ev HA0 5 rfl
        have oe12 := ev HA0 12 rfl
        refine QSeq.pure rfl _ (fun E => ex_move rfl (E.v oe5)) ?_
        refine QSeq.pure rfl _ (fun E => ex_loadA rfl Try.underlying30 rfl (off := 0) (cs := [.int .i64 ((kc : Nat) : Int), .int .i64 ((k1 : Nat) : Int)]) (by kernel_rfl) (E.v oe12) (Cs.litA (Hx16.out.mod Cx79.out (by intro h2; omega)) rfl)) ?_
        refine QSeq.call rfl rfl Try.func21 (Of_Q (n := (((kc : Nat) : Int), ((k1 : Nat) : Int))) (y := y) (bb := true) Hx76.out (by intro k h1; omega) HNK.out (lookV_some HML.out) HYO.out) (fun E => args2 (E.d 0 1) (E.d 1 0)) ?_
        rintro e u15_2 ⟨rfl, hm⟩
        refine ⟨_, rfl, ?_⟩
        have zu15_2 := hm.size
        have Cx80 := hid (show Mod (fun _ => False) u14_3 u15_2 from hm)
        clear hm
        refine QSeq.pure rfl _ (fun E => ex_move rfl (E.d 2 0)) ?_
        refine QSeq.pure rfl (hv y.h) (fun E => ex_extract rfl (E.d 3 0) rfl) ?_
        refine QSeq.pure rfl (.int .u64 (y.tm : Nat)) (fun E => ex_extract rfl (E.d 3 1) rfl) ?_
        refine QSeq.pure rfl (.bool true) (fun E => ex_extract rfl (E.d 3 2) rfl) ?_
        refine QSeq.go fun act E => ?_
        refine qc_alloc rfl (wanted_none rfl) rfl (z := [.int .u8 0, .int .u8 0, .int .u8 0, .int .u8 0, .int .u8 0, .int .u8 0, .int .u8 0, .int .u8 0, .int .u8 0, .int .u8 0, .int .u8 0, .int .u8 0, .int .u8 0, .int .u8 0, .int .u8 0, .int .u8 0, .int .u8 0, .int .u8 0, .int .u8 0, .int .u8 0, .int .u8 0, .int .u8 0, .int .u8 0, .int .u8 0, .int .u8 0, .int .u8 0, .int .u8 0, .int .u8 0, .int .u8 0, .int .u8 0, .int .u8 0, .int .u8 0]) (by kernel_rfl) ?_
        intro u15_7 qb13 hm
        have zl15_7 := qb13.lt
        have Hx81 := hid qb13
        have zu15_7 := hm.size
        have HMu15_7 := hid hm
        have Cx82 := hid (Cx80.out.goE hm)
        clear hm Cx80
        clear act E qb13
        refine QSeq.go fun act E => ?_
        have hlz : ((y.h.map bv)).length = List.length ([.int .u8 0, .int .u8 0, .int .u8 0, .int .u8 0, .int .u8 0, .int .u8 0, .int .u8 0, .int .u8 0, .int .u8 0, .int .u8 0, .int .u8 0, .int .u8 0, .int .u8 0, .int .u8 0, .int .u8 0, .int .u8 0, .int .u8 0, .int .u8 0, .int .u8 0, .int .u8 0, .int .u8 0, .int .u8 0, .int .u8 0, .int .u8 0, .int .u8 0, .int .u8 0, .int .u8 0, .int .u8 0, .int .u8 0, .int .u8 0, .int .u8 0, .int .u8 0] : List Value) := (by rw [List.length_map, HYO.out.h.1]; rfl)
        refine qc_store rfl (wanted_none rfl) rfl Hx81.out (off := 0) (vs := (y.h.map bv)) (by rw [hlz]; kernel_rfl) (by intro u hu; obtain ⟨z, -, rfl⟩ := List.mem_map.1 hu; rfl) (by rw [hlz]; exact Nat.le_of_eq (Nat.zero_add _)) (E.d 7 0) (ec (E.d 4 3)) ?_
        intro u15_8 qc0 hm
        have qb13 := qc0.eqv (b := ((y.h.map bv) : List Value).toArray) (lay_whole (#[.int .u8 0, .int .u8 0, .int .u8 0, .int .u8 0, .int .u8 0, .int .u8 0, .int .u8 0, .int .u8 0, .int .u8 0, .int .u8 0, .int .u8 0, .int .u8 0, .int .u8 0, .int .u8 0, .int .u8 0, .int .u8 0, .int .u8 0, .int .u8 0, .int .u8 0, .int .u8 0, .int .u8 0, .int .u8 0, .int .u8 0, .int .u8 0, .int .u8 0, .int .u8 0, .int .u8 0, .int .u8 0, .int .u8 0, .int .u8 0, .int .u8 0, .int .u8 0]) _ (by rw [hlz]; rfl))
        clear qc0 hlz
        have Hx83 := hid qb13
        have zu15_8 := hm.size
        have HMu15_8 := hid hm
        have Cx84 := hid (Mod.goS (S' := (fun _ => False)) Cx82.out hm (fun _ h => h) (by intro k h0 h2; omega))
        clear hm Cx82
        clear act E qb13 Hx81
        refine QSeq.pure rfl _ (fun E => ex_assign rfl (E.d 5 3)) ?_
        refine QSeq.pure rfl _ (fun E => ex_assign rfl (E.d 6 3)) ?_
        clear HMu15_7 HMu15_8
        refine QSeq.nil (t' := [_, _, _, _, _, _, _, _, _, _, _]) rfl ?_
        obtain rfl := HA0.out
        clear HA0 oe5 oe12
        simp only [pz, Act.put, List.setIfInBounds_toArray, List.set_cons_zero, List.set_cons_succ, List.set_nil]
        go_upto_region 16 with (fail)
        refine wp_region_U 173 [89] [0] (fun a0 HA0 => ?_)
        have oe15 := ev HA0 15 rfl
        refine QSeq.pure rfl _ (fun E => ex_move rfl (E.v oe15)) ?_
        refine QSeq.nil (t' := [_]) rfl ?_
        obtain rfl := HA0.out
        clear HA0 oe15
        simp only [pz, Act.put, List.setIfInBounds_toArray, List.set_cons_zero, List.set_cons_succ]
        go_upto_region 17 with (fail)
        refine wp_region_U 173 [91, 92, 93, 90, 94, 95, 16, 180, 17] [0, 1, 2, 3, 4, 5, 6, 7, 8] (fun a0 HA0 => ?_)
        have oe7 := ev HA0 7 rfl
        have oe12 := ev HA0 12 rfl
        refine QSeq.pure rfl _ (fun E => ex_move rfl (E.v oe7)) ?_
        refine QSeq.pure rfl _ (fun E => ex_loadA rfl Try.underlying30 rfl (off := 0) (cs := [.int .i64 ((kc : Nat) : Int), .int .i64 ((k1 : Nat) : Int)]) (by kernel_rfl) (E.v oe12) (Cs.litA ((Hx16.out.mod Cx79.out (by intro h2; omega)).mod Cx84.out (fun h => h)) rfl)) ?_
        refine QSeq.pure rfl (.tuple #[kpV y, .bool true]) (fun E => ex_lookK (k := (((kc : Nat) : Int), ((k1 : Nat) : Int))) rfl (E.d 0 1) (E.d 1 0) HNK.out ((((K3.out.mod Cx14.out (fun h => h)).mod Cx15.out (fun h => h)).mod Cx79.out (by intro h2; omega)).mod Cx84.out (fun h => h)) (lookK_some HML.out)) ?_
        refine QSeq.pure rfl _ (fun E => ex_move rfl (E.d 2 0)) ?_
        refine QSeq.pure rfl (kpV y) (fun E => ex_extract rfl (E.d 3 0) rfl) ?_
        refine QSeq.pure rfl (.bool true) (fun E => ex_extract rfl (E.d 3 1) rfl) ?_
        refine QSeq.go fun act E => ?_
        refine qc_alloc rfl (wanted_none rfl) rfl (z := [.int .u8 0, .int .u8 0, .int .u8 0, .int .u8 0, .int .u8 0, .int .u8 0, .int .u8 0, .int .u8 0, .int .u8 0, .int .u8 0, .int .u8 0, .int .u8 0, .int .u8 0, .int .u8 0, .int .u8 0, .int .u8 0, .int .u8 0, .int .u8 0, .int .u8 0, .int .u8 0, .int .u8 0, .int .u8 0, .int .u8 0, .int .u8 0, .int .u8 0, .int .u8 0, .int .u8 0, .int .u8 0, .int .u8 0, .int .u8 0, .int .u8 0, .int .u8 0, .int .u64 0]) (by kernel_rfl) ?_
        intro u17_6 qb16 hm
        have zl17_6 := qb16.lt
        have Hx85 := hid qb16
        have zu17_6 := hm.size
        have Cx86 := hid (show Mod (fun _ => False) u15_8 u17_6 from hm)
        clear hm
        clear act E qb16
        refine QSeq.go fun act E => ?_
        have hlz : ((kpC y)).length = List.length ([.int .u8 0, .int .u8 0, .int .u8 0, .int .u8 0, .int .u8 0, .int .u8 0, .int .u8 0, .int .u8 0, .int .u8 0, .int .u8 0, .int .u8 0, .int .u8 0, .int .u8 0, .int .u8 0, .int .u8 0, .int .u8 0, .int .u8 0, .int .u8 0, .int .u8 0, .int .u8 0, .int .u8 0, .int .u8 0, .int .u8 0, .int .u8 0, .int .u8 0, .int .u8 0, .int .u8 0, .int .u8 0, .int .u8 0, .int .u8 0, .int .u8 0, .int .u8 0, .int .u64 0] : List Value) := (by rw [kpC_len HYO.out]; rfl)
        refine qc_store rfl (wanted_none rfl) rfl Hx85.out (off := 0) (vs := (kpC y)) (by rw [hlz]; kernel_rfl) (kpC_one y) (by rw [hlz]; exact Nat.le_of_eq (Nat.zero_add _)) (E.d 6 0) (ec (E.d 4 2)) ?_
        intro u17_7 qc0 hm
        have qb16 := qc0.eqv (b := ((kpC y) : List Value).toArray) (lay_whole (#[.int .u8 0, .int .u8 0, .int .u8 0, .int .u8 0, .int .u8 0, .int .u8 0, .int .u8 0, .int .u8 0, .int .u8 0, .int .u8 0, .int .u8 0, .int .u8 0, .int .u8 0, .int .u8 0, .int .u8 0, .int .u8 0, .int .u8 0, .int .u8 0, .int .u8 0, .int .u8 0, .int .u8 0, .int .u8 0, .int .u8 0, .int .u8 0, .int .u8 0, .int .u8 0, .int .u8 0, .int .u8 0, .int .u8 0, .int .u8 0, .int .u8 0, .int .u8 0, .int .u64 0]) _ (by rw [hlz]; rfl))
        clear qc0 hlz
        have Hx87 := hid qb16
        have zu17_7 := hm.size
        have HMu17_7 := hid hm
        have Cx88 := hid (Mod.goS (S' := (fun _ => False)) Cx86.out hm (fun _ h => h) (by intro k h0 h2; omega))
        clear hm Cx86
        clear act E qb16 Hx85
        refine QSeq.pure rfl _ (fun E => ex_assign rfl (E.d 5 2)) ?_
        clear HMu17_7
        refine QSeq.nil (t' := [_, _, _, _, _, _, _, _, _]) rfl ?_
        obtain rfl := HA0.out
        clear HA0 oe7 oe12
        simp only [pz, Act.put, List.setIfInBounds_toArray, List.set_cons_zero, List.set_cons_succ, List.set_nil]
        go_upto_region 18 with (fail)
        refine wp_region_U 173 [96, 97, 98, 99, 100, 101, 102, 103, 104, 105, 106, 107, 108] [0, 1, 2, 3, 4, 5, 6, 7, 8, 9, 10, 11, 12] (fun a0 HA0 => ?_)
        have oe13 := ev HA0 13 rfl
        have oe14 := ev HA0 14 rfl
        have oe16 := ev HA0 16 rfl
        have oe17 := ev HA0 17 rfl
        refine QSeq.pure rfl _ (fun E => ex_move rfl (E.v oe17)) ?_
        refine QSeq.pure rfl _ (fun E => ex_move rfl (E.d 0 0)) ?_
        refine QSeq.pureG rfl (.pointer (some ⟨u15_8.heap.size, 0, none⟩)) (fun E => ((wanted_of rfl rfl (E.sz 97 (by decide)) (E.d 1 0)).trans rfl)) (fun E => ex_field rfl Try.underlying67 rfl (by kernel_rfl) (E.v oe16)) ?_
        refine QSeq.pureG rfl (hv y.h) (fun E => ((wanted_of rfl rfl (E.sz 97 (by decide)) (E.d 1 1)).trans rfl)) (fun E => ex_loadA rfl Try.underlying32 rfl (off := 0) (cs := y.h.map bv) (by rw [List.length_map, HYO.out.h.1]; exact size_hash) (E.d 2 0) (Cs.midA (pre := []) (mid := y.h.map bv) (post := [.int .u64 (y.tm : Nat)]) Hx87.out rfl)) ?_
        refine QSeq.pureG rfl (hv y.h) (fun E => ((wanted_of rfl rfl (E.sz 97 (by decide)) (E.d 1 2)).trans rfl)) (fun E => ex_loadA rfl Try.underlying32 rfl (off := 0) (cs := (y.h.map bv)) (by rw [List.length_map, HYO.out.h.1]; exact size_hash) (E.v oe13) (Cs.whole (Hx83.out.mod Cx88.out (fun h => h)))) ?_
        refine QSeq.pureG rfl (.bool false) (fun E => ((wanted_of rfl rfl (E.sz 97 (by decide)) (E.d 1 3)).trans rfl)) (fun E => ex_binE rfl (E.d 3 1) (E.d 4 0) (agg_guardE _ _ _ _ _ _ (by kernel_rfl) _) (run_neq_hv HYO.out.h.1 HYO.out.h.1 (c := true) (by simp) _) rfl) ?_
        refine QSeq.pureG rfl (.bool false) (fun E => ((wanted_of rfl rfl (E.sz 97 (by decide)) (E.d 1 4)).trans rfl)) (fun E => ex_move rfl (E.d 5 0)) ?_
        refine QSeq.pureG rfl (.pointer (some ⟨u15_8.heap.size, 32, none⟩)) (fun E => ((wanted_of rfl rfl (E.sz 102 (by decide)) (E.d 6 0)).trans rfl)) (fun E => ex_field rfl Try.underlying67 rfl (by kernel_rfl) (E.v oe16)) ?_
        refine QSeq.pureG rfl (.int .u64 (y.tm : Nat)) (fun E => ((wanted_of rfl rfl (E.sz 102 (by decide)) (E.d 6 1)).trans rfl)) (fun E => ex_load1 rfl Try.underlying45 rfl (E.d 7 0) (Cs.post1 (pre := []) (mid := y.h.map bv) (post := [.int .u64 (y.tm : Nat)]) (m := 32) (k := 0) Hx87.out (by rw [List.length_map]; exact HYO.out.h.1) rfl rfl)) ?_
        refine QSeq.pureG rfl (.int .u64 (y.tm : Nat)) (fun E => ((wanted_of rfl rfl (E.sz 102 (by decide)) (E.d 6 2)).trans rfl)) (fun E => ex_move rfl (E.v oe14)) ?_
        refine QSeq.pureG rfl (.bool false) (fun E => ((wanted_of rfl rfl (E.sz 102 (by decide)) (E.d 6 3)).trans rfl)) (fun E => ex_binE rfl (E.d 8 1) (E.d 9 0) (guard_ints _ _ _ _ _ _) (run_neq_i _ _ _ Try.underlying45) (congrArg Value.bool (ne_ff rfl))) ?_
        refine QSeq.pureG rfl (.bool false) (fun E => ((wanted_of rfl rfl (E.sz 97 (by decide)) (E.d 1 9)).trans rfl)) (fun E => ex_pick rfl (E.d 6 4) rfl (E.d 10 0)) ?_
        refine QSeq.pure rfl (.bool false) (fun E => ex_pick rfl (E.d 1 10) (E.d 11 0) rfl) ?_
        refine QSeq.nil (t' := [_, _, _, _, _, _, _, _, _, _, _, _, _]) rfl ?_
        obtain rfl := HA0.out
        clear HA0 oe13 oe14 oe16 oe17
        simp only [pz, Act.put, List.setIfInBounds_toArray, List.set_cons_zero, List.set_cons_succ]
        clear Hx87
        go_upto_region 20 with (fail)
        refine wp_region_U 173 [109, 110, 111, 112, 113, 178] [0, 1, 2, 3, 4, 5] (fun a0 HA0 => ?_)
        have oe7 := ev HA0 7 rfl
        have oe12 := ev HA0 12 rfl
        have oe13 := ev HA0 13 rfl
        have oe14 := ev HA0 14 rfl
        refine QSeq.pure rfl _ (fun E => ex_move rfl (E.v oe7)) ?_
        refine QSeq.pure rfl _ (fun E => ex_loadA rfl Try.underlying30 rfl (off := 0) (cs := [.int .i64 ((kc : Nat) : Int), .int .i64 ((k1 : Nat) : Int)]) (by kernel_rfl) (E.v oe12) (Cs.litA (((Hx16.out.mod Cx79.out (by intro h2; omega)).mod Cx84.out (fun h => h)).mod Cx88.out (fun h => h)) rfl)) ?_
        refine QSeq.pure rfl _ (fun E => ex_loadA rfl Try.underlying32 rfl (off := 0) (cs := (y.h.map bv)) (by rw [List.length_map, HYO.out.h.1]; exact size_hash) (E.v oe13) (Cs.whole (Hx83.out.mod Cx88.out (fun h => h)))) ?_
        refine QSeq.pure rfl _ (fun E => ex_move rfl (E.v oe14)) ?_
        refine QSeq.go fun act E => ?_
        refine qc_run rfl (wanted_none rfl) (v := .agg ((kpC y) : List Value).toArray) (ex_build rfl (z := [.int .u8 0, .int .u8 0, .int .u8 0, .int .u8 0, .int .u8 0, .int .u8 0, .int .u8 0, .int .u8 0, .int .u8 0, .int .u8 0, .int .u8 0, .int .u8 0, .int .u8 0, .int .u8 0, .int .u8 0, .int .u8 0, .int .u8 0, .int .u8 0, .int .u8 0, .int .u8 0, .int .u8 0, .int .u8 0, .int .u8 0, .int .u8 0, .int .u8 0, .int .u8 0, .int .u8 0, .int .u8 0, .int .u8 0, .int .u8 0, .int .u8 0, .int .u8 0, .int .u64 0]) (places := [(0, 32), (32, 1)]) (by kernel_rfl) (parts := [(0, hv y.h), (1, .int .u64 (y.tm : Nat))]) (by simp only [List.map_toArray, List.map_cons, List.map_nil, show act.eval (.tmp 111) = hv y.h from (E.d 2 1), show act.eval (.tmp 112) = .int .u64 (y.tm : Nat) from (E.d 3 0)]; try rfl) (r := (kpC y)) (by exact laid_kept y.h y.tm HYO.out.h.1)) ?_
        clear act E
        refine QSeq.go fun act E => ?_
        refine qc_updK (k := (((kc : Nat) : Int), ((k1 : Nat) : Int))) (y := y) (l' := s.m) rfl (wanted_none rfl) rfl (E.d 0 4) (E.d 1 3) (E.d 4 0) HNK.out (((((K3.out.mod Cx14.out (fun h => h)).mod Cx15.out (fun h => h)).mod Cx79.out (by intro h2; omega)).mod Cx84.out (fun h => h)).mod Cx88.out (fun h => h)) (Or.inr ⟨HML.out, rfl⟩) ?_
        intro u20_5 qkm hm
        have Hx89 := hid qkm
        have zu20_5 := hm.size
        have Cx90 := hid (show Mod (fun k => (k = u3_1.heap.size)) u17_7 u20_5 from hm)
        clear hm
        clear act E qkm K3
        refine QSeq.nil (t' := [_, _, _, _, _, _]) rfl ?_
        obtain rfl := HA0.out
        clear HA0 oe7 oe12 oe13 oe14
        simp only [pz, Act.put, List.setIfInBounds_toArray, List.set_cons_zero, List.set_cons_succ, List.set_nil]
        clear Hx16
        clear Hx83
        go_upto_region 26 with (fail)
        refine wp_region_U 173 [127, 128, 129, 130, 131, 132, 133, 134, 135, 136, 137, 138, 139, 140, 141, 142, 143] [0, 1, 2, 3, 4, 5, 6, 7, 8, 9, 10, 11, 12, 13, 14, 15, 16] (fun a0 HA0 => ?_)
        have oe5 := ev HA0 5 rfl
        have oe7 := ev HA0 7 rfl
        have oe10 := ev HA0 10 rfl
        have oe11 := ev HA0 11 rfl
        refine QSeq.pure rfl _ (fun E => ex_move rfl (E.v oe5)) ?_
        refine QSeq.go fun act E => ?_
        refine qc_callF (args := #[.pointer (some ⟨p, 0, none⟩)]) rfl (wanted_none rfl) rfl Try.func19 (args1 (E.d 0 0)) (Now_Q (((Hx76.out.mod Cx84.out (fun _ _ h => h)).mod Cx88.out (fun _ _ h => h)).mod Cx90.out (by intro k h1 h2; omega))) ?_
        rintro e w2 ⟨rfl, hw2⟩
        obtain rfl : u20_5 = w2 := by first | exact hw2 | exact hw2.symm
        refine ⟨_, rfl, ?_⟩
        clear act E
        refine QSeq.pure rfl _ (fun E => ex_move rfl (E.v oe10)) ?_
        refine QSeq.pure rfl (.bool false) (fun E => ex_binE rfl (E.d 1 1) (E.d 2 0) (guard_ints _ _ _ _ _ _) (run_lss_i _ _ _ Try.underlying45) (congrArg Value.bool (decide_eq_false (show ¬ ((s.now : Nat) : Int) < ((s.now : Nat) : Int) by omega)))) ?_
        refine QSeq.pure rfl _ (fun E => ex_move rfl (E.d 3 0)) ?_
        refine QSeq.pureG rfl (.pointer (some ⟨p, 0, none⟩)) (fun E => ((wanted_of rfl rfl (E.sz 131 (by decide)) (E.d 4 0)).trans rfl)) (fun E => ex_move rfl (E.v oe5)) ?_
        refine QSeq.go fun act E => ?_
        refine qc_callF (args := #[.pointer (some ⟨p, 0, none⟩)]) rfl ((wanted_of rfl rfl (E.sz 131 (by decide)) (E.d 4 1)).trans rfl) rfl Try.func16 (args1 (E.d 5 0)) (Floor_Q (((Hx76.out.mod Cx84.out (fun _ _ h => h)).mod Cx88.out (fun _ _ h => h)).mod Cx90.out (by intro k h1 h2; omega))) ?_
        rintro e w2 ⟨rfl, hw2⟩
        obtain rfl : u20_5 = w2 := by first | exact hw2 | exact hw2.symm
        refine ⟨_, rfl, ?_⟩
        clear act E
        refine QSeq.pureG rfl (.int .u64 ((s.floor : Nat) : Int)) (fun E => ((wanted_of rfl rfl (E.sz 131 (by decide)) (E.d 4 2)).trans rfl)) (fun E => ex_move rfl (E.v oe11)) ?_
        refine QSeq.pureG rfl (.bool false) (fun E => ((wanted_of rfl rfl (E.sz 131 (by decide)) (E.d 4 3)).trans rfl)) (fun E => ex_binE rfl (E.d 6 1) (E.d 7 0) (guard_ints _ _ _ _ _ _) (run_lss_i _ _ _ Try.underlying45) (congrArg Value.bool (decide_eq_false (show ¬ ((s.floor : Nat) : Int) < ((s.floor : Nat) : Int) by omega)))) ?_
        refine QSeq.pure rfl (.bool false) (fun E => ex_pick rfl (E.d 4 4) rfl (E.d 8 0)) ?_
        refine QSeq.pure rfl _ (fun E => ex_move rfl (E.d 9 0)) ?_
        refine QSeq.pureG rfl (.pointer (some ⟨p, 0, none⟩)) (fun E => ((wanted_of rfl rfl (E.sz 137 (by decide)) (E.d 10 0)).trans rfl)) (fun E => ex_move rfl (E.v oe5)) ?_
        refine QSeq.go fun act E => ?_
        refine qc_callF (args := #[.pointer (some ⟨p, 0, none⟩)]) rfl ((wanted_of rfl rfl (E.sz 137 (by decide)) (E.d 10 1)).trans rfl) rfl Try.func17 (args1 (E.d 11 0)) (SLen_Q (((Hx76.out.mod Cx84.out (fun _ _ h => h)).mod Cx88.out (fun _ _ h => h)).mod Cx90.out (by intro k h1 h2; omega))) ?_
        rintro e w2 ⟨rfl, hw2⟩
        obtain rfl : u20_5 = w2 := by first | exact hw2 | exact hw2.symm
        refine ⟨_, rfl, ?_⟩
        clear act E
        refine QSeq.pureG rfl (.map (some u3_1.heap.size)) (fun E => ((wanted_of rfl rfl (E.sz 137 (by decide)) (E.d 10 2)).trans rfl)) (fun E => ex_move rfl (E.v oe7)) ?_
        refine QSeq.pureG rfl (.int .i64 ((s.m.length : Nat) : Int)) (fun E => ((wanted_of rfl rfl (E.sz 137 (by decide)) (E.d 10 3)).trans rfl)) (fun E => ex_lenK rfl (E.d 13 0) Hx89.out) ?_
        refine QSeq.pureG rfl (.bool false) (fun E => ((wanted_of rfl rfl (E.sz 137 (by decide)) (E.d 10 4)).trans rfl)) (fun E => ex_binE rfl (E.d 12 2) (E.d 14 0) (guard_ints _ _ _ _ _ _) (run_neq_i _ _ _ Try.underlying3) (congrArg Value.bool (ne_ff rfl))) ?_
        refine QSeq.pure rfl (.bool false) (fun E => ex_pick rfl (E.d 10 5) rfl (E.d 15 0)) ?_
        refine QSeq.nil (t' := [_, _, _, _, _, _, _, _, _, _, _, _, _, _, _, _, _]) rfl ?_
        obtain rfl := HA0.out
        clear HA0 oe5 oe7 oe10 oe11
        simp only [pz, Act.put, List.setIfInBounds_toArray, List.set_cons_zero, List.set_cons_succ]
        go_upto_region 9 with (fail)
        refine wp_region_U 173 [49, 50, 8] [0, 1, 2] (fun a0 HA0 => ?_)
        have oe8 := ev HA0 8 rfl
        refine QSeq.pure rfl _ (fun E => ex_move rfl (E.y 2 oe8)) ?_
        refine QSeq.pure rfl (.int .i64 (((i + 1) : Nat) : Int)) (fun E => ex_binE rfl (E.d 0 0) rfl (guard_ints _ _ _ _ _ _) (run_add_i _ _ Try.underlying3) (congrArg (Value.int .i64) (i64_eq (b := (((i + 1) : Nat) : Int)) (by omega) (by omega) (by omega)))) ?_
        refine QSeq.pure rfl _ (fun E => ex_assign rfl (E.d 1 0)) ?_
        refine QSeq.nil (t' := [_, _, _]) rfl ?_
        obtain rfl := HA0.out
        clear HA0 oe8
        simp only [pz, Act.put, List.setIfInBounds_toArray, List.set_cons_zero, List.set_cons_succ]
        go_wp2
        go_roundw
        case rel => exact ⟨i + 1, s, La, rfl, by omega, by omega, by omega, (((Hx76.out.mod Cx84.out (fun _ _ h => h)).mod Cx88.out (fun _ _ h => h)).mod Cx90.out (by intro k h1 h2; omega)), (((Hx77.out.mod Cx84.out (fun _ _ h => h)).mod Cx88.out (fun _ _ h => h)).mod Cx90.out (by intro k h1 h2; omega)), Hx89.out, ((((((K4.out.mod Cx14.out (fun _ _ h => h)).mod Cx15.out (fun _ _ h => h)).mod Cx79.out (by intro k h1 h2; omega)).mod Cx84.out (fun _ _ h => h)).mod Cx88.out (fun _ _ h => h)).mod Cx90.out (by intro k h1 h2; omega)), ((((((K5.out.trans Cx14.out (fun _ _ h => h.elim)).trans Cx15.out (fun _ _ h => h.elim)).trans Cx79.out (by intro k h1 h2; omega)).trans Cx84.out (fun _ _ h => h.elim)).trans Cx88.out (fun _ _ h => h.elim)).trans Cx90.out (by intro k h1 h2; omega))⟩
        case measure => simp [intOf]; omega
       ·skip
        go_upto_region 14 with (fail)
        generalize ha0 : Act.mk _ _ = a0
        have oe4 : a0.eval (.tmp 4) = .pointer (some ⟨g, 0, none⟩) := by rw [← ha0]; rfl
        have oe5 : a0.eval (.tmp 5) = .pointer (some ⟨p, 0, none⟩) := by rw [← ha0]; rfl
        have oe9 : a0.eval (.tmp 9) = .pointer (some ⟨wl.heap.size, 0, none⟩) := by rw [← ha0]; rfl
        have oe12 : a0.eval (.tmp 12) = .pointer (some ⟨b12, 0, none⟩) := by rw [← ha0]; rfl
        have hsz0 : a0.tmps.size = 173 := by rw [← ha0]; rfl
        have HA0 := hid ha0
        clear ha0
        refine wp_region_Q1 173 hsz0 [72, 73, 74, 75, 76, 77, 78, 79, 80, 81] (fun k => (New u1_2 u2_0 k)) (fun k j => (k = 1 ∧ ((New u1_2 u2_0 j)))) (fun _ _ h => h.2) [qi (.pointer (some ⟨p, 0, none⟩)), qi (.pointer (some ⟨g, 0, none⟩)), qi (.pointer (some ⟨g, 0, none⟩)), qi (.agg #[.int .i64 ((kc : Nat) : Int), .int .i64 ((k1 : Nat) : Int)]), qi (hv z32), qi (.pointer (some ⟨wl.heap.size, 5, none⟩)), qi (.slice aa a.b.length cpa), qv 0, qv 1, qv 2] ⟨qi_stable, qi_stable, qi_stable, qi_stable, qi_stable, qi_stable, qi_stable, qv_stable, qv_stable, qv_stable, trivial⟩ [7, 8, 9] ⟨?_, ?_, ?_, ?_, ?_, ?_, ?_, ?_, ?_, ?_, trivial⟩ ?_
        ·exact stq (fun E => ex_move rfl (E.v oe5))
        ·exact stq (fun E => ex_move rfl (E.v oe4))
        ·exact stq (fun E => ex_move rfl (E.v oe4))
        ·exact stq (fun E => ex_loadA rfl Try.underlying30 rfl (off := 0) (cs := [.int .i64 ((kc : Nat) : Int), .int .i64 ((k1 : Nat) : Int)]) (by kernel_rfl) (E.v oe12) (Cs.litA (Hx16.out.mod E.m (by intro h2; omega)) rfl))
        ·exact stq (fun E => ex_build0 rfl (r := ((z32.map bv) : List Value).toArray) (by kernel_rfl))
        ·exact stq (fun E => ex_field rfl Try.underlying59 rfl (by kernel_rfl) (E.v oe9))
        ·exact stq (fun E => ex_load1 rfl Try.underlying38 rfl (E.d 5) (Cs.lit1 ((Hx13.out.mod Cx15.out (fun h => h)).mod E.m (by intro h2; omega)) rfl))
        ·exact stepq_chain rfl
        ·exact stepq_chain rfl
        ·exact stepq_chain rfl
        intro u14_0 hr
        have zu14_0 := hr.size
        have Cx91 := hid (hr.new (S := (fun k => (New u1_2 u2_0 k))))
        have Hx92 := hid (((K2.out.mod Cx14.out (fun _ _ h => h)).mod Cx15.out (fun _ _ h => h)).mod hr (by intro k h1 h2; omega))
        clear K2
        clear hr
        refine QChain.go fun Z act E => ?_
        refine qc_callF (args := #[.slice aa a.b.length cpa, .int .i64 2]) rfl (wanted_none rfl) rfl Try.func20 (args2 (E.d 6) rfl) (Cut_R 2 (((HEL.out.mod Cx14.out (fun _ _ h => h)).mod Cx15.out (fun _ _ h => h)).mod Cx91.out (by intro k h1 h2; omega)) (by decide)) ?_
        rintro e u14_1a ⟨v_cut, rfl, qcut, hm⟩
        have zu14_1a := hm.size
        refine ⟨_, rfl, hm.mono (fun _ _ h => h.elim), (fun _ => rfl), ?_⟩
        intro u14_1 hr
        have zu14_1 := hr.size
        have Hx93 := hid ((qcut.widen (R' := (fun k => (New u14_0 u14_1a k))) (fun _ h => h) (Nat.le_refl _)).mod hr (by intro k h1 h2; omega))
        have hmr := Mod.after hm hr
        have Hx94 := hid (Hx92.out.mod hmr (by intro k h1 h2; omega))
        clear Hx92
        clear hmr
        have Cx95 := hid (Cx91.out.go hm hr)
        clear Cx91 hm hr Z act E qcut
        refine QChain.go fun Z act E => ?_
        refine qc_callF (args := #[.pointer (some ⟨g, 0, none⟩), .agg #[.int .i64 ((kc : Nat) : Int), .int .i64 ((k1 : Nat) : Int)], hv z32, v_cut]) rfl (wanted_none rfl) rfl Try.func10 (args4 (E.d 2) (E.d 3) (E.d 4) (chv (v := v_cut) (E.d 7))) (Make_B Hx94.out (by omega) 3 ((kc : Nat) : Int) ((k1 : Nat) : Int) (a.b.take 2) (by omega) (by decide) (by omega) Hx93.out.rd (by rw [List.length_take]; omega)) ?_
        rintro e u14_2a ⟨ca, La, rfl, qbk, hmd, hm⟩
        have HMDa := Lib.hid hmd
        clear hmd
        have zu14_2a := hm.size
        refine ⟨_, rfl, hm.mono (by intro k hk h; omega), (fun _ => rfl), ?_⟩
        intro u14_2 hr
        have zu14_2 := hr.size
        have Hx96 := hid (qbk.mod hr (by intro k h1 h2; omega))
        have hmr := hm.two hr
        have Hx97 := hid (Hx93.out.mod hmr (by intro k h1 h2; omega))
        clear Hx93
        clear hmr
        have Cx98 := hid (Cx95.out.goM hm hr (fun _ _ h => h))
        clear Cx95 hm hr Z act E qbk Hx94
        refine QChain.go fun Z act E => ?_
        refine qc_callF (args := #[.pointer (some ⟨p, 0, none⟩), .pointer (some ⟨g, 0, none⟩), .agg ca.cells.toArray]) rfl (wanted_none rfl) rfl Try.func14 (args3 (E.d 0) (E.d 1) (chv (v := .agg ca.cells.toArray) (E.d 8))) (Stamp_other (((K1.out.mod Cx14.out (fun _ _ h => h)).mod Cx15.out (fun _ _ h => h)).mod Cx98.out (by intro k h1 h2; omega)) Hx96.out (by intro k h1; omega) (by intro k h1; omega) (by intro k h1 h2; omega) HMDa.out.ok HMDa.out.si HMDa.out.rt (by rw [HMDa.out.cl, HMDa.out.sq]; exact HML.out) (fun e => hhe (e.trans (HMDa.out.hh.trans hX.symm)))) ?_
        rintro e u14_3a ⟨rfl, qsp, qbk, hm⟩
        have zu14_3a := hm.size
        refine ⟨_, rfl, hm.mono (fun _ _ h => h.elim), (fun _ => rfl), ?_⟩
        intro u14_3 hr
        have zu14_3 := hr.size
        have Hx99 := hid (qsp.mod hr (by intro k h1 h2; omega))
        have Hx100 := hid (qbk.mod hr (by intro k h1 h2; omega))
        have hmr := Mod.after hm hr
        have Hx101 := hid (Hx97.out.mod hmr (by intro k h1 h2; omega))
        clear Hx97
        clear hmr
        have Cx102 := hid (Cx98.out.go hm hr)
        clear Cx98 hm hr Z act E qsp qbk K1 Hx96
        refine QChain.nil fun vs hl hzz hrows hne => ?_
        obtain ⟨Z, hYZ, hZb, hV⟩ := hzz
        have f0 := fvi hV hl 0
        have f1 := fvi hV hl 1
        have f2 := fvi hV hl 2
        have f7 := fvc hV hl 7
        have f8 := fvc hV hl 8
        have f9 := fvc hV hl 9
        rw [show vs = [gw vs 0, gw vs 1, gw vs 2, gw vs 3, gw vs 4, gw vs 5, gw vs 6, gw vs 7, gw vs 8, gw vs 9] from (gw_eta hl).trans rfl]
        have ha0 := HA0.out
        subst ha0
        clear HA0 hV hYZ hZb hsz0 hrows hne oe4 oe5 oe9 oe12
        simp only [putAll, Act.put, List.setIfInBounds_toArray, List.set_cons_zero, List.set_cons_succ, f0, f1, f2, f7, f8, f9]
        clear hl f0 f1 f2 f7 f8 f9
        clear Hx101
        clear HEL
        clear Hx13
        have hLa := HMDa.out.ln
        go_upto_region 15 with (fail)
        refine wp_region_U 173 [83, 84, 85, 82, 86, 87, 88, 13, 181, 14, 15] [0, 1, 2, 3, 4, 5, 6, 7, 8, 9, 10] (fun a0 HA0 => ?_)
        have oe5 := ev HA0 5 rfl
        have oe12 := ev HA0 12 rfl
        refine QSeq.pure rfl _ (fun E => ex_move rfl (E.v oe5)) ?_
        refine QSeq.pure rfl _ (fun E => ex_loadA rfl Try.underlying30 rfl (off := 0) (cs := [.int .i64 ((kc : Nat) : Int), .int .i64 ((k1 : Nat) : Int)]) (by kernel_rfl) (E.v oe12) (Cs.litA (Hx16.out.mod Cx102.out (by intro h2; omega)) rfl)) ?_
        refine QSeq.call rfl rfl Try.func21 (Of_Q (n := (((kc : Nat) : Int), ((k1 : Nat) : Int))) (y := y) (bb := true) Hx99.out (by intro k h1; omega) HNK.out (lookV_some HML.out) HYO.out) (fun E => args2 (E.d 0 1) (E.d 1 0)) ?_
        rintro e u15_2 ⟨rfl, hm⟩
        refine ⟨_, rfl, ?_⟩
        have zu15_2 := hm.size
        have Cx103 := hid (show Mod (fun _ => False) u14_3 u15_2 from hm)
        clear hm
        refine QSeq.pure rfl _ (fun E => ex_move rfl (E.d 2 0)) ?_
        refine QSeq.pure rfl (hv y.h) (fun E => ex_extract rfl (E.d 3 0) rfl) ?_
        refine QSeq.pure rfl (.int .u64 (y.tm : Nat)) (fun E => ex_extract rfl (E.d 3 1) rfl) ?_
        refine QSeq.pure rfl (.bool true) (fun E => ex_extract rfl (E.d 3 2) rfl) ?_
        refine QSeq.go fun act E => ?_
        refine qc_alloc rfl (wanted_none rfl) rfl (z := [.int .u8 0, .int .u8 0, .int .u8 0, .int .u8 0, .int .u8 0, .int .u8 0, .int .u8 0, .int .u8 0, .int .u8 0, .int .u8 0, .int .u8 0, .int .u8 0, .int .u8 0, .int .u8 0, .int .u8 0, .int .u8 0, .int .u8 0, .int .u8 0, .int .u8 0, .int .u8 0, .int .u8 0, .int .u8 0, .int .u8 0, .int .u8 0, .int .u8 0, .int .u8 0, .int .u8 0, .int .u8 0, .int .u8 0, .int .u8 0, .int .u8 0, .int .u8 0]) (by kernel_rfl) ?_
        intro u15_7 qb13 hm
        have zl15_7 := qb13.lt
        have Hx104 := hid qb13
        have zu15_7 := hm.size
        have HMu15_7 := hid hm
        have Cx105 := hid (Cx103.out.goE hm)
        clear hm Cx103
        clear act E qb13
        refine QSeq.go fun act E => ?_
        have hlz : ((y.h.map bv)).length = List.length ([.int .u8 0, .int .u8 0, .int .u8 0, .int .u8 0, .int .u8 0, .int .u8 0, .int .u8 0, .int .u8 0, .int .u8 0, .int .u8 0, .int .u8 0, .int .u8 0, .int .u8 0, .int .u8 0, .int .u8 0, .int .u8 0, .int .u8 0, .int .u8 0, .int .u8 0, .int .u8 0, .int .u8 0, .int .u8 0, .int .u8 0, .int .u8 0, .int .u8 0, .int .u8 0, .int .u8 0, .int .u8 0, .int .u8 0, .int .u8 0, .int .u8 0, .int .u8 0] : List Value) := (by rw [List.length_map, HYO.out.h.1]; rfl)
        refine qc_store rfl (wanted_none rfl) rfl Hx104.out (off := 0) (vs := (y.h.map bv)) (by rw [hlz]; kernel_rfl) (by intro u hu; obtain ⟨z, -, rfl⟩ := List.mem_map.1 hu; rfl) (by rw [hlz]; exact Nat.le_of_eq (Nat.zero_add _)) (E.d 7 0) (ec (E.d 4 3)) ?_
        intro u15_8 qc0 hm
        have qb13 := qc0.eqv (b := ((y.h.map bv) : List Value).toArray) (lay_whole (#[.int .u8 0, .int .u8 0, .int .u8 0, .int .u8 0, .int .u8 0, .int .u8 0, .int .u8 0, .int .u8 0, .int .u8 0, .int .u8 0, .int .u8 0, .int .u8 0, .int .u8 0, .int .u8 0, .int .u8 0, .int .u8 0, .int .u8 0, .int .u8 0, .int .u8 0, .int .u8 0, .int .u8 0, .int .u8 0, .int .u8 0, .int .u8 0, .int .u8 0, .int .u8 0, .int .u8 0, .int .u8 0, .int .u8 0, .int .u8 0, .int .u8 0, .int .u8 0]) _ (by rw [hlz]; rfl))
        clear qc0 hlz
        have Hx106 := hid qb13
        have zu15_8 := hm.size
        have HMu15_8 := hid hm
        have Cx107 := hid (Mod.goS (S' := (fun _ => False)) Cx105.out hm (fun _ h => h) (by intro k h0 h2; omega))
        clear hm Cx105
        clear act E qb13 Hx104
        refine QSeq.pure rfl _ (fun E => ex_assign rfl (E.d 5 3)) ?_
        refine QSeq.pure rfl _ (fun E => ex_assign rfl (E.d 6 3)) ?_
        clear HMu15_7 HMu15_8
        refine QSeq.nil (t' := [_, _, _, _, _, _, _, _, _, _, _]) rfl ?_
        obtain rfl := HA0.out
        clear HA0 oe5 oe12
        simp only [pz, Act.put, List.setIfInBounds_toArray, List.set_cons_zero, List.set_cons_succ, List.set_nil]
        go_upto_region 16 with (fail)
        refine wp_region_U 173 [89] [0] (fun a0 HA0 => ?_)
        have oe15 := ev HA0 15 rfl
        refine QSeq.pure rfl _ (fun E => ex_move rfl (E.v oe15)) ?_
        refine QSeq.nil (t' := [_]) rfl ?_
        obtain rfl := HA0.out
        clear HA0 oe15
        simp only [pz, Act.put, List.setIfInBounds_toArray, List.set_cons_zero, List.set_cons_succ]
        go_upto_region 17 with (fail)
        refine wp_region_U 173 [91, 92, 93, 90, 94, 95, 16, 180, 17] [0, 1, 2, 3, 4, 5, 6, 7, 8] (fun a0 HA0 => ?_)
        have oe7 := ev HA0 7 rfl
        have oe12 := ev HA0 12 rfl
        refine QSeq.pure rfl _ (fun E => ex_move rfl (E.v oe7)) ?_
        refine QSeq.pure rfl _ (fun E => ex_loadA rfl Try.underlying30 rfl (off := 0) (cs := [.int .i64 ((kc : Nat) : Int), .int .i64 ((k1 : Nat) : Int)]) (by kernel_rfl) (E.v oe12) (Cs.litA ((Hx16.out.mod Cx102.out (by intro h2; omega)).mod Cx107.out (fun h => h)) rfl)) ?_
        refine QSeq.pure rfl (.tuple #[kpV y, .bool true]) (fun E => ex_lookK (k := (((kc : Nat) : Int), ((k1 : Nat) : Int))) rfl (E.d 0 1) (E.d 1 0) HNK.out ((((K3.out.mod Cx14.out (fun h => h)).mod Cx15.out (fun h => h)).mod Cx102.out (by intro h2; omega)).mod Cx107.out (fun h => h)) (lookK_some HML.out)) ?_
        refine QSeq.pure rfl _ (fun E => ex_move rfl (E.d 2 0)) ?_
        refine QSeq.pure rfl (kpV y) (fun E => ex_extract rfl (E.d 3 0) rfl) ?_
        refine QSeq.pure rfl (.bool true) (fun E => ex_extract rfl (E.d 3 1) rfl) ?_
        refine QSeq.go fun act E => ?_
        refine qc_alloc rfl (wanted_none rfl) rfl (z := [.int .u8 0, .int .u8 0, .int .u8 0, .int .u8 0, .int .u8 0, .int .u8 0, .int .u8 0, .int .u8 0, .int .u8 0, .int .u8 0, .int .u8 0, .int .u8 0, .int .u8 0, .int .u8 0, .int .u8 0, .int .u8 0, .int .u8 0, .int .u8 0, .int .u8 0, .int .u8 0, .int .u8 0, .int .u8 0, .int .u8 0, .int .u8 0, .int .u8 0, .int .u8 0, .int .u8 0, .int .u8 0, .int .u8 0, .int .u8 0, .int .u8 0, .int .u8 0, .int .u64 0]) (by kernel_rfl) ?_
        intro u17_6 qb16 hm
        have zl17_6 := qb16.lt
        have Hx108 := hid qb16
        have zu17_6 := hm.size
        have Cx109 := hid (show Mod (fun _ => False) u15_8 u17_6 from hm)
        clear hm
        clear act E qb16
        refine QSeq.go fun act E => ?_
        have hlz : ((kpC y)).length = List.length ([.int .u8 0, .int .u8 0, .int .u8 0, .int .u8 0, .int .u8 0, .int .u8 0, .int .u8 0, .int .u8 0, .int .u8 0, .int .u8 0, .int .u8 0, .int .u8 0, .int .u8 0, .int .u8 0, .int .u8 0, .int .u8 0, .int .u8 0, .int .u8 0, .int .u8 0, .int .u8 0, .int .u8 0, .int .u8 0, .int .u8 0, .int .u8 0, .int .u8 0, .int .u8 0, .int .u8 0, .int .u8 0, .int .u8 0, .int .u8 0, .int .u8 0, .int .u8 0, .int .u64 0] : List Value) := (by rw [kpC_len HYO.out]; rfl)
        refine qc_store rfl (wanted_none rfl) rfl Hx108.out (off := 0) (vs := (kpC y)) (by rw [hlz]; kernel_rfl) (kpC_one y) (by rw [hlz]; exact Nat.le_of_eq (Nat.zero_add _)) (E.d 6 0) (ec (E.d 4 2)) ?_
        intro u17_7 qc0 hm
        have qb16 := qc0.eqv (b := ((kpC y) : List Value).toArray) (lay_whole (#[.int .u8 0, .int .u8 0, .int .u8 0, .int .u8 0, .int .u8 0, .int .u8 0, .int .u8 0, .int .u8 0, .int .u8 0, .int .u8 0, .int .u8 0, .int .u8 0, .int .u8 0, .int .u8 0, .int .u8 0, .int .u8 0, .int .u8 0, .int .u8 0, .int .u8 0, .int .u8 0, .int .u8 0, .int .u8 0, .int .u8 0, .int .u8 0, .int .u8 0, .int .u8 0, .int .u8 0, .int .u8 0, .int .u8 0, .int .u8 0, .int .u8 0, .int .u8 0, .int .u64 0]) _ (by rw [hlz]; rfl))
        clear qc0 hlz
        have Hx110 := hid qb16
        have zu17_7 := hm.size
        have HMu17_7 := hid hm
        have Cx111 := hid (Mod.goS (S' := (fun _ => False)) Cx109.out hm (fun _ h => h) (by intro k h0 h2; omega))
        clear hm Cx109
        clear act E qb16 Hx108
        refine QSeq.pure rfl _ (fun E => ex_assign rfl (E.d 5 2)) ?_
        clear HMu17_7
        refine QSeq.nil (t' := [_, _, _, _, _, _, _, _, _]) rfl ?_
        obtain rfl := HA0.out
        clear HA0 oe7 oe12
        simp only [pz, Act.put, List.setIfInBounds_toArray, List.set_cons_zero, List.set_cons_succ, List.set_nil]
        go_upto_region 18 with (fail)
        refine wp_region_U 173 [96, 97, 98, 99, 100, 101, 102, 103, 104, 105, 106, 107, 108] [0, 1, 2, 3, 4, 5, 6, 7, 8, 9, 10, 11, 12] (fun a0 HA0 => ?_)
        have oe13 := ev HA0 13 rfl
        have oe14 := ev HA0 14 rfl
        have oe16 := ev HA0 16 rfl
        have oe17 := ev HA0 17 rfl
        refine QSeq.pure rfl _ (fun E => ex_move rfl (E.v oe17)) ?_
        refine QSeq.pure rfl _ (fun E => ex_move rfl (E.d 0 0)) ?_
        refine QSeq.pureG rfl (.pointer (some ⟨u15_8.heap.size, 0, none⟩)) (fun E => ((wanted_of rfl rfl (E.sz 97 (by decide)) (E.d 1 0)).trans rfl)) (fun E => ex_field rfl Try.underlying67 rfl (by kernel_rfl) (E.v oe16)) ?_
        refine QSeq.pureG rfl (hv y.h) (fun E => ((wanted_of rfl rfl (E.sz 97 (by decide)) (E.d 1 1)).trans rfl)) (fun E => ex_loadA rfl Try.underlying32 rfl (off := 0) (cs := y.h.map bv) (by rw [List.length_map, HYO.out.h.1]; exact size_hash) (E.d 2 0) (Cs.midA (pre := []) (mid := y.h.map bv) (post := [.int .u64 (y.tm : Nat)]) Hx110.out rfl)) ?_
        refine QSeq.pureG rfl (hv y.h) (fun E => ((wanted_of rfl rfl (E.sz 97 (by decide)) (E.d 1 2)).trans rfl)) (fun E => ex_loadA rfl Try.underlying32 rfl (off := 0) (cs := (y.h.map bv)) (by rw [List.length_map, HYO.out.h.1]; exact size_hash) (E.v oe13) (Cs.whole (Hx106.out.mod Cx111.out (fun h => h)))) ?_
        refine QSeq.pureG rfl (.bool false) (fun E => ((wanted_of rfl rfl (E.sz 97 (by decide)) (E.d 1 3)).trans rfl)) (fun E => ex_binE rfl (E.d 3 1) (E.d 4 0) (agg_guardE _ _ _ _ _ _ (by kernel_rfl) _) (run_neq_hv HYO.out.h.1 HYO.out.h.1 (c := true) (by simp) _) rfl) ?_
        refine QSeq.pureG rfl (.bool false) (fun E => ((wanted_of rfl rfl (E.sz 97 (by decide)) (E.d 1 4)).trans rfl)) (fun E => ex_move rfl (E.d 5 0)) ?_
        refine QSeq.pureG rfl (.pointer (some ⟨u15_8.heap.size, 32, none⟩)) (fun E => ((wanted_of rfl rfl (E.sz 102 (by decide)) (E.d 6 0)).trans rfl)) (fun E => ex_field rfl Try.underlying67 rfl (by kernel_rfl) (E.v oe16)) ?_
        refine QSeq.pureG rfl (.int .u64 (y.tm : Nat)) (fun E => ((wanted_of rfl rfl (E.sz 102 (by decide)) (E.d 6 1)).trans rfl)) (fun E => ex_load1 rfl Try.underlying45 rfl (E.d 7 0) (Cs.post1 (pre := []) (mid := y.h.map bv) (post := [.int .u64 (y.tm : Nat)]) (m := 32) (k := 0) Hx110.out (by rw [List.length_map]; exact HYO.out.h.1) rfl rfl)) ?_
        refine QSeq.pureG rfl (.int .u64 (y.tm : Nat)) (fun E => ((wanted_of rfl rfl (E.sz 102 (by decide)) (E.d 6 2)).trans rfl)) (fun E => ex_move rfl (E.v oe14)) ?_
        refine QSeq.pureG rfl (.bool false) (fun E => ((wanted_of rfl rfl (E.sz 102 (by decide)) (E.d 6 3)).trans rfl)) (fun E => ex_binE rfl (E.d 8 1) (E.d 9 0) (guard_ints _ _ _ _ _ _) (run_neq_i _ _ _ Try.underlying45) (congrArg Value.bool (ne_ff rfl))) ?_
        refine QSeq.pureG rfl (.bool false) (fun E => ((wanted_of rfl rfl (E.sz 97 (by decide)) (E.d 1 9)).trans rfl)) (fun E => ex_pick rfl (E.d 6 4) rfl (E.d 10 0)) ?_
        refine QSeq.pure rfl (.bool false) (fun E => ex_pick rfl (E.d 1 10) (E.d 11 0) rfl) ?_
        refine QSeq.nil (t' := [_, _, _, _, _, _, _, _, _, _, _, _, _]) rfl ?_
        obtain rfl := HA0.out
        clear HA0 oe13 oe14 oe16 oe17
        simp only [pz, Act.put, List.setIfInBounds_toArray, List.set_cons_zero, List.set_cons_succ]
        clear Hx110
        go_upto_region 20 with (fail)
        refine wp_region_U 173 [109, 110, 111, 112, 113, 178] [0, 1, 2, 3, 4, 5] (fun a0 HA0 => ?_)
        have oe7 := ev HA0 7 rfl
        have oe12 := ev HA0 12 rfl
        have oe13 := ev HA0 13 rfl
        have oe14 := ev HA0 14 rfl
        refine QSeq.pure rfl _ (fun E => ex_move rfl (E.v oe7)) ?_
        refine QSeq.pure rfl _ (fun E => ex_loadA rfl Try.underlying30 rfl (off := 0) (cs := [.int .i64 ((kc : Nat) : Int), .int .i64 ((k1 : Nat) : Int)]) (by kernel_rfl) (E.v oe12) (Cs.litA (((Hx16.out.mod Cx102.out (by intro h2; omega)).mod Cx107.out (fun h => h)).mod Cx111.out (fun h => h)) rfl)) ?_
        refine QSeq.pure rfl _ (fun E => ex_loadA rfl Try.underlying32 rfl (off := 0) (cs := (y.h.map bv)) (by rw [List.length_map, HYO.out.h.1]; exact size_hash) (E.v oe13) (Cs.whole (Hx106.out.mod Cx111.out (fun h => h)))) ?_
        refine QSeq.pure rfl _ (fun E => ex_move rfl (E.v oe14)) ?_
        refine QSeq.go fun act E => ?_
        refine qc_run rfl (wanted_none rfl) (v := .agg ((kpC y) : List Value).toArray) (ex_build rfl (z := [.int .u8 0, .int .u8 0, .int .u8 0, .int .u8 0, .int .u8 0, .int .u8 0, .int .u8 0, .int .u8 0, .int .u8 0, .int .u8 0, .int .u8 0, .int .u8 0, .int .u8 0, .int .u8 0, .int .u8 0, .int .u8 0, .int .u8 0, .int .u8 0, .int .u8 0, .int .u8 0, .int .u8 0, .int .u8 0, .int .u8 0, .int .u8 0, .int .u8 0, .int .u8 0, .int .u8 0, .int .u8 0, .int .u8 0, .int .u8 0, .int .u8 0, .int .u8 0, .int .u64 0]) (places := [(0, 32), (32, 1)]) (by kernel_rfl) (parts := [(0, hv y.h), (1, .int .u64 (y.tm : Nat))]) (by simp only [List.map_toArray, List.map_cons, List.map_nil, show act.eval (.tmp 111) = hv y.h from (E.d 2 1), show act.eval (.tmp 112) = .int .u64 (y.tm : Nat) from (E.d 3 0)]; try rfl) (r := (kpC y)) (by exact laid_kept y.h y.tm HYO.out.h.1)) ?_
        clear act E
        refine QSeq.go fun act E => ?_
        refine qc_updK (k := (((kc : Nat) : Int), ((k1 : Nat) : Int))) (y := y) (l' := s.m) rfl (wanted_none rfl) rfl (E.d 0 4) (E.d 1 3) (E.d 4 0) HNK.out (((((K3.out.mod Cx14.out (fun h => h)).mod Cx15.out (fun h => h)).mod Cx102.out (by intro h2; omega)).mod Cx107.out (fun h => h)).mod Cx111.out (fun h => h)) (Or.inr ⟨HML.out, rfl⟩) ?_
        intro u20_5 qkm hm
        have Hx112 := hid qkm
        have zu20_5 := hm.size
        have Cx113 := hid (show Mod (fun k => (k = u3_1.heap.size)) u17_7 u20_5 from hm)
        clear hm
        clear act E qkm K3
        refine QSeq.nil (t' := [_, _, _, _, _, _]) rfl ?_
        obtain rfl := HA0.out
        clear HA0 oe7 oe12 oe13 oe14
        simp only [pz, Act.put, List.setIfInBounds_toArray, List.set_cons_zero, List.set_cons_succ, List.set_nil]
        clear Hx16
        clear Hx106
        go_upto_region 26 with (fail)
        refine wp_region_U 173 [127, 128, 129, 130, 131, 132, 133, 134, 135, 136, 137, 138, 139, 140, 141, 142, 143] [0, 1, 2, 3, 4, 5, 6, 7, 8, 9, 10, 11, 12, 13, 14, 15, 16] (fun a0 HA0 => ?_)
        have oe5 := ev HA0 5 rfl
        have oe7 := ev HA0 7 rfl
        have oe10 := ev HA0 10 rfl
        have oe11 := ev HA0 11 rfl
        refine QSeq.pure rfl _ (fun E => ex_move rfl (E.v oe5)) ?_
        refine QSeq.go fun act E => ?_
        refine qc_callF (args := #[.pointer (some ⟨p, 0, none⟩)]) rfl (wanted_none rfl) rfl Try.func19 (args1 (E.d 0 0)) (Now_Q (((Hx99.out.mod Cx107.out (fun _ _ h => h)).mod Cx111.out (fun _ _ h => h)).mod Cx113.out (by intro k h1 h2; omega))) ?_
        rintro e w2 ⟨rfl, hw2⟩
        obtain rfl : u20_5 = w2 := by first | exact hw2 | exact hw2.symm
        refine ⟨_, rfl, ?_⟩
        clear act E
        refine QSeq.pure rfl _ (fun E => ex_move rfl (E.v oe10)) ?_
        refine QSeq.pure rfl (.bool false) (fun E => ex_binE rfl (E.d 1 1) (E.d 2 0) (guard_ints _ _ _ _ _ _) (run_lss_i _ _ _ Try.underlying45) (congrArg Value.bool (decide_eq_false (show ¬ ((s.now : Nat) : Int) < ((s.now : Nat) : Int) by omega)))) ?_
        refine QSeq.pure rfl _ (fun E => ex_move rfl (E.d 3 0)) ?_
        refine QSeq.pureG rfl (.pointer (some ⟨p, 0, none⟩)) (fun E => ((wanted_of rfl rfl (E.sz 131 (by decide)) (E.d 4 0)).trans rfl)) (fun E => ex_move rfl (E.v oe5)) ?_
        refine QSeq.go fun act E => ?_
        refine qc_callF (args := #[.pointer (some ⟨p, 0, none⟩)]) rfl ((wanted_of rfl rfl (E.sz 131 (by decide)) (E.d 4 1)).trans rfl) rfl Try.func16 (args1 (E.d 5 0)) (Floor_Q (((Hx99.out.mod Cx107.out (fun _ _ h => h)).mod Cx111.out (fun _ _ h => h)).mod Cx113.out (by intro k h1 h2; omega))) ?_
        rintro e w2 ⟨rfl, hw2⟩
        obtain rfl : u20_5 = w2 := by first | exact hw2 | exact hw2.symm
        refine ⟨_, rfl, ?_⟩
        clear act E
        refine QSeq.pureG rfl (.int .u64 ((s.floor : Nat) : Int)) (fun E => ((wanted_of rfl rfl (E.sz 131 (by decide)) (E.d 4 2)).trans rfl)) (fun E => ex_move rfl (E.v oe11)) ?_
        refine QSeq.pureG rfl (.bool false) (fun E => ((wanted_of rfl rfl (E.sz 131 (by decide)) (E.d 4 3)).trans rfl)) (fun E => ex_binE rfl (E.d 6 1) (E.d 7 0) (guard_ints _ _ _ _ _ _) (run_lss_i _ _ _ Try.underlying45) (congrArg Value.bool (decide_eq_false (show ¬ ((s.floor : Nat) : Int) < ((s.floor : Nat) : Int) by omega)))) ?_
        refine QSeq.pure rfl (.bool false) (fun E => ex_pick rfl (E.d 4 4) rfl (E.d 8 0)) ?_
        refine QSeq.pure rfl _ (fun E => ex_move rfl (E.d 9 0)) ?_
        refine QSeq.pureG rfl (.pointer (some ⟨p, 0, none⟩)) (fun E => ((wanted_of rfl rfl (E.sz 137 (by decide)) (E.d 10 0)).trans rfl)) (fun E => ex_move rfl (E.v oe5)) ?_
        refine QSeq.go fun act E => ?_
        refine qc_callF (args := #[.pointer (some ⟨p, 0, none⟩)]) rfl ((wanted_of rfl rfl (E.sz 137 (by decide)) (E.d 10 1)).trans rfl) rfl Try.func17 (args1 (E.d 11 0)) (SLen_Q (((Hx99.out.mod Cx107.out (fun _ _ h => h)).mod Cx111.out (fun _ _ h => h)).mod Cx113.out (by intro k h1 h2; omega))) ?_
        rintro e w2 ⟨rfl, hw2⟩
        obtain rfl : u20_5 = w2 := by first | exact hw2 | exact hw2.symm
        refine ⟨_, rfl, ?_⟩
        clear act E
        refine QSeq.pureG rfl (.map (some u3_1.heap.size)) (fun E => ((wanted_of rfl rfl (E.sz 137 (by decide)) (E.d 10 2)).trans rfl)) (fun E => ex_move rfl (E.v oe7)) ?_
        refine QSeq.pureG rfl (.int .i64 ((s.m.length : Nat) : Int)) (fun E => ((wanted_of rfl rfl (E.sz 137 (by decide)) (E.d 10 3)).trans rfl)) (fun E => ex_lenK rfl (E.d 13 0) Hx112.out) ?_
        refine QSeq.pureG rfl (.bool false) (fun E => ((wanted_of rfl rfl (E.sz 137 (by decide)) (E.d 10 4)).trans rfl)) (fun E => ex_binE rfl (E.d 12 2) (E.d 14 0) (guard_ints _ _ _ _ _ _) (run_neq_i _ _ _ Try.underlying3) (congrArg Value.bool (ne_ff rfl))) ?_
        refine QSeq.pure rfl (.bool false) (fun E => ex_pick rfl (E.d 10 5) rfl (E.d 15 0)) ?_
        refine QSeq.nil (t' := [_, _, _, _, _, _, _, _, _, _, _, _, _, _, _, _, _]) rfl ?_
        obtain rfl := HA0.out
        clear HA0 oe5 oe7 oe10 oe11
        simp only [pz, Act.put, List.setIfInBounds_toArray, List.set_cons_zero, List.set_cons_succ]
        go_upto_region 9 with (fail)
        refine wp_region_U 173 [49, 50, 8] [0, 1, 2] (fun a0 HA0 => ?_)
        have oe8 := ev HA0 8 rfl
        refine QSeq.pure rfl _ (fun E => ex_move rfl (E.y 2 oe8)) ?_
        refine QSeq.pure rfl (.int .i64 (((i + 1) : Nat) : Int)) (fun E => ex_binE rfl (E.d 0 0) rfl (guard_ints _ _ _ _ _ _) (run_add_i _ _ Try.underlying3) (congrArg (Value.int .i64) (i64_eq (b := (((i + 1) : Nat) : Int)) (by omega) (by omega) (by omega)))) ?_
        refine QSeq.pure rfl _ (fun E => ex_assign rfl (E.d 1 0)) ?_
        refine QSeq.nil (t' := [_, _, _]) rfl ?_
        obtain rfl := HA0.out
        clear HA0 oe8
        simp only [pz, Act.put, List.setIfInBounds_toArray, List.set_cons_zero, List.set_cons_succ]
        go_wp2
        go_roundw
        case rel => exact ⟨i + 1, s, La, rfl, by omega, by omega, by omega, (((Hx99.out.mod Cx107.out (fun _ _ h => h)).mod Cx111.out (fun _ _ h => h)).mod Cx113.out (by intro k h1 h2; omega)), (((Hx100.out.mod Cx107.out (fun _ _ h => h)).mod Cx111.out (fun _ _ h => h)).mod Cx113.out (by intro k h1 h2; omega)), Hx112.out, ((((((K4.out.mod Cx14.out (fun _ _ h => h)).mod Cx15.out (fun _ _ h => h)).mod Cx102.out (by intro k h1 h2; omega)).mod Cx107.out (fun _ _ h => h)).mod Cx111.out (fun _ _ h => h)).mod Cx113.out (by intro k h1 h2; omega)), ((((((K5.out.trans Cx14.out (fun _ _ h => h.elim)).trans Cx15.out (fun _ _ h => h.elim)).trans Cx102.out (by intro k h1 h2; omega)).trans Cx107.out (fun _ _ h => h.elim)).trans Cx111.out (fun _ _ h => h.elim)).trans Cx113.out (by intro k h1 h2; omega))⟩
        case measure => simp [intOf]; omega
  ·obtain rfl : pb7 = false := HB7.out.trans (by rw [Bool.eq_false_iff]; intro h; simp only [Bool.and_eq_true, decide_eq_true_eq] at h; omega)
   clear K4
   clear K2
   obtain ⟨es, clk, hme, hes⟩ := K3.out
   have HME := Lib.hid hme
   have HES := Lib.hid hes
   clear hme hes
   clear K3
   go_upto_region 28 with (fail)
   refine wp_region_U 173 [144, 145] [0, 1] (fun a0 HA0 => ?_)
   have oe7 := ev HA0 7 rfl
   refine QSeq.pure rfl _ (fun E => ex_move rfl (E.v oe7)) ?_
   refine QSeq.go fun act E => ?_
   refine qc_range rfl (wanted_none rfl) rfl (E.d 0 0) HME.out ?_
   intro u28_1 qit hm
   have zl28_1 := qit.lt
   have Hx114 := hid qit
   have zu28_1 := hm.size
   have Cx115 := hid (show Mod (fun _ => False) wl u28_1 from hm)
   clear hm
   clear act E qit
   refine QSeq.nil (t' := [_, _]) rfl ?_
   obtain rfl := HA0.out
   clear HA0 oe7
   simp only [pz, Act.put, List.setIfInBounds_toArray, List.set_cons_zero, List.set_cons_succ]
   go_wp2
   go_loopw [146] (fun _ wr => ∃ (seen : Array Nat), u28_1.heap.size ≤ wr.heap.size ∧ ItE wr (wl.heap.size) (u3_1.heap.size) clk seen ∧ HmE wr (u3_1.heap.size) es clk ∧ SpR (fun k => (New u2_0 u3_1 k)) wr p 1 3 1 s ∧ Mod (fun _ => False) w wr) (fun _ wr => itLeft es (wl.heap.size) wr)
   case atStart => exact ⟨#[], Nat.le_refl _, Hx114.out, (HME.out.mod Cx115.out (fun h => h)), (K1.out.mod Cx115.out (fun _ _ h => h)), (K5.out.trans Cx115.out (fun _ _ h => h.elim))⟩
   case round =>
    obtain ⟨seen, hz2, j1, j2, j3, j4⟩ := hrel
    obtain ⟨wn, rfl⟩ : ∃ x, x = wr := ⟨_, rfl⟩
    have J1 := Lib.hid j1
    have J2 := Lib.hid j2
    have J3 := Lib.hid j3
    have J4 := Lib.hid j4
    clear j1 j2 j3 j4 K5 K1 HME Hx114
    rcases next_cases J1.out J2.out HES.out with ⟨h0, hrun⟩ | ⟨e, n, y, wq, hel, hny, hek, hev, hrun, hit1, hmod1⟩
    ·skip
     go_upto_region 29 with (fail)
     refine wp_region_U 173 [146, 147] [0, 1] (fun a0 HA0 => ?_)
     have oe145 := ev HA0 145 rfl
     refine QSeq.pure rfl (.tuple #[.bool false]) (fun E => ex_next0 rfl (E.v oe145) hrun) ?_
     refine QSeq.pure rfl (.bool false) (fun E => ex_extract rfl (E.d 0 0) rfl) ?_
     refine QSeq.nil (t' := [_, _]) rfl ?_
     obtain rfl := HA0.out
     clear HA0 oe145
     simp only [pz, Act.put, List.setIfInBounds_toArray, List.set_cons_zero, List.set_cons_succ]
     go_upto_region 34 with (fail)
     refine wp_region_U 173 [172, 2] [0, 1] (fun a0 HA0 => ?_)
     refine QSeq.call rfl rfl Try.func18 (wakes09 _) (fun E => args0) ?_
     rintro e u34_0 ⟨rfl, hm⟩
     refine ⟨_, rfl, ?_⟩
     have zu34_0 := hm.size
     have Cx116 := hid (show Mod (fun _ => False) wn u34_0 from hm)
     clear hm
     refine QSeq.pure rfl _ (fun E => ex_assign rfl (E.d 0 0)) ?_
     refine QSeq.nil (t' := [_, _]) rfl ?_
     obtain rfl := HA0.out
     clear HA0
     simp only [pz, Act.put, List.setIfInBounds_toArray, List.set_cons_zero, List.set_cons_succ]
     go_wp2
     go_ret
     exact ⟨rfl, (J4.out.trans Cx116.out (fun _ _ h => h.elim))⟩
    ·skip
     have HJ1 := hid J1.out
     have HYO := hid (HOKS.out _ hny)
     have HNN := hid (HPW.out.2 _ hny)
     have HML := hid (mlook_mem HPW.out.1 hny)
     go_upto_region 29 with (fail)
     refine wp_region_U 173 [146, 147] [0, 1] (fun a0 HA0 => ?_)
     have oe145 := ev HA0 145 rfl
     refine QSeq.go fun act E => ?_
     refine qc_next rfl (wanted_none rfl) rfl (E.v oe145) hrun hit1 hmod1 ?_
     intro u29_0 qit hm
     have Hx117 := hid qit
     have zu29_0 := hm.size
     have Cx118 := hid (show Mod (fun k => (k = wl.heap.size)) wn u29_0 from hm)
     clear hm
     clear act E qit J1
     refine QSeq.pure rfl (.bool true) (fun E => ex_extract rfl (E.d 0 0) rfl) ?_
     refine QSeq.nil (t' := [_, _]) rfl ?_
     obtain rfl := HA0.out
     clear HA0 oe145
     simp only [pz, Act.put, List.setIfInBounds_toArray, List.set_cons_zero, List.set_cons_succ]
     clear hrun hit1 hmod1
     go_upto_region 30 with (fail)
     refine wp_region_U 173 [148, 149, 150, 18, 19, 178, 179] [0, 1, 2, 3, 4, 5, 6] (fun a0 HA0 => ?_)
     have oe145 := ev HA0 145 rfl
     refine QSeq.pure rfl (.tuple #[.agg #[.int .i64 n.1, .int .i64 n.2], kpV y]) (fun E => ex_entry0 rfl (E.v oe145) Hx117.out (J2.out.mod Cx118.out (by intro h2; omega)) HES.out hel hek hev) ?_
     refine QSeq.pure rfl (.agg #[.int .i64 n.1, .int .i64 n.2]) (fun E => ex_extract rfl (E.d 0 0) rfl) ?_
     refine QSeq.pure rfl (kpV y) (fun E => ex_extract rfl (E.d 0 1) rfl) ?_
     refine QSeq.go fun act E => ?_
     refine qc_alloc rfl (wanted_none rfl) rfl (z := [.int .i64 0, .int .i64 0]) (by kernel_rfl) ?_
     intro u30_3 qb18 hm
     have zl30_3 := qb18.lt
     have Hx119 := hid qb18
     have zu30_3 := hm.size
     have Cx120 := hid (show Mod (fun _ => False) u29_0 u30_3 from hm)
     clear hm
     clear act E qb18
     refine QSeq.go fun act E => ?_
     refine qc_alloc rfl (wanted_none rfl) rfl (z := [.int .u8 0, .int .u8 0, .int .u8 0, .int .u8 0, .int .u8 0, .int .u8 0, .int .u8 0, .int .u8 0, .int .u8 0, .int .u8 0, .int .u8 0, .int .u8 0, .int .u8 0, .int .u8 0, .int .u8 0, .int .u8 0, .int .u8 0, .int .u8 0, .int .u8 0, .int .u8 0, .int .u8 0, .int .u8 0, .int .u8 0, .int .u8 0, .int .u8 0, .int .u8 0, .int .u8 0, .int .u8 0, .int .u8 0, .int .u8 0, .int .u8 0, .int .u8 0, .int .u64 0]) (by kernel_rfl) ?_
     intro u30_4 qb19 hm
     have zl30_4 := qb19.lt
     have Hx121 := hid qb19
     have zu30_4 := hm.size
     have HMu30_4 := hid hm
     have Cx122 := hid (Cx120.out.goE hm)
     clear hm Cx120
     clear act E qb19
     refine QSeq.go fun act E => ?_
     have hlz : (([.int .i64 n.1, .int .i64 n.2] : List Value)).length = List.length ([.int .i64 0, .int .i64 0] : List Value) := rfl
     refine qc_store rfl (wanted_none rfl) rfl (Hx119.out.mod HMu30_4.out (fun h => h)) (off := 0) (vs := ([.int .i64 n.1, .int .i64 n.2] : List Value)) (by rw [hlz]; kernel_rfl) (by intro u hu; simp only [List.mem_cons, List.not_mem_nil, or_false] at hu; rcases hu with rfl | rfl <;> rfl) (by rw [hlz]; exact Nat.le_of_eq (Nat.zero_add _)) (E.d 3 1) (ec (E.d 1 3)) ?_
     intro u30_5 qc0 hm
     have qb18 := qc0.eqv (b := (([.int .i64 n.1, .int .i64 n.2] : List Value) : List Value).toArray) (lay_whole (#[.int .i64 0, .int .i64 0]) _ (by rw [hlz]; rfl))
     clear qc0 hlz
     have Hx123 := hid qb18
     have zu30_5 := hm.size
     have HMu30_5 := hid hm
     have Cx124 := hid (Mod.goS (S' := (fun _ => False)) Cx122.out hm (fun _ h => h) (by intro k h0 h2; omega))
     clear hm Cx122
     clear act E qb18 Hx119
     refine QSeq.go fun act E => ?_
     have hlz : ((kpC y)).length = List.length ([.int .u8 0, .int .u8 0, .int .u8 0, .int .u8 0, .int .u8 0, .int .u8 0, .int .u8 0, .int .u8 0, .int .u8 0, .int .u8 0, .int .u8 0, .int .u8 0, .int .u8 0, .int .u8 0, .int .u8 0, .int .u8 0, .int .u8 0, .int .u8 0, .int .u8 0, .int .u8 0, .int .u8 0, .int .u8 0, .int .u8 0, .int .u8 0, .int .u8 0, .int .u8 0, .int .u8 0, .int .u8 0, .int .u8 0, .int .u8 0, .int .u8 0, .int .u8 0, .int .u64 0] : List Value) := (by rw [kpC_len HYO.out]; rfl)
     refine qc_store rfl (wanted_none rfl) rfl (Hx121.out.mod HMu30_5.out (by intro h2; omega)) (off := 0) (vs := (kpC y)) (by rw [hlz]; kernel_rfl) (kpC_one y) (by rw [hlz]; exact Nat.le_of_eq (Nat.zero_add _)) (E.d 4 1) (ec (E.d 2 3)) ?_
     intro u30_6 qc0 hm
     have qb19 := qc0.eqv (b := ((kpC y) : List Value).toArray) (lay_whole (#[.int .u8 0, .int .u8 0, .int .u8 0, .int .u8 0, .int .u8 0, .int .u8 0, .int .u8 0, .int .u8 0, .int .u8 0, .int .u8 0, .int .u8 0, .int .u8 0, .int .u8 0, .int .u8 0, .int .u8 0, .int .u8 0, .int .u8 0, .int .u8 0, .int .u8 0, .int .u8 0, .int .u8 0, .int .u8 0, .int .u8 0, .int .u8 0, .int .u8 0, .int .u8 0, .int .u8 0, .int .u8 0, .int .u8 0, .int .u8 0, .int .u8 0, .int .u8 0, .int .u64 0]) _ (by rw [hlz]; rfl))
     clear qc0 hlz
     have Hx125 := hid qb19
     have zu30_6 := hm.size
     have HMu30_6 := hid hm
     have Cx126 := hid (Mod.goS (S' := (fun _ => False)) Cx124.out hm (fun _ h => h) (by intro k h0 h2; omega))
     clear hm Cx124
     clear act E qb19 Hx121
     have Hx127 := hid (Hx123.out.mod HMu30_6.out (by intro h2; omega))
     clear Hx123 HMu30_4 HMu30_5 HMu30_6
     refine QSeq.nil (t' := [_, _, _, _, _, _, _]) rfl ?_
     obtain rfl := HA0.out
     clear HA0 oe145
     simp only [pz, Act.put, List.setIfInBounds_toArray, List.set_cons_zero, List.set_cons_succ, List.set_nil]
     go_upto_region 31 with (fail)
     refine wp_region_U 173 [152, 153, 154, 151, 155, 156, 157, 20, 181, 21, 22] [0, 1, 2, 3, 4, 5, 6, 7, 8, 9, 10] (fun a0 HA0 => ?_)
     have oe5 := ev HA0 5 rfl
     have oe18 := ev HA0 18 rfl
     refine QSeq.pure rfl _ (fun E => ex_move rfl (E.v oe5)) ?_
     refine QSeq.pure rfl _ (fun E => ex_loadA rfl Try.underlying30 rfl (off := 0) (cs := [.int .i64 n.1, .int .i64 n.2]) (by kernel_rfl) (E.v oe18) (Cs.litA Hx127.out rfl)) ?_
     refine QSeq.call rfl rfl Try.func21 (Of_Q (n := n) (y := y) (bb := true) ((J3.out.mod Cx118.out (by intro k h1 h2; omega)).mod Cx126.out (fun _ _ h => h)) (by intro k h1; omega) HNN.out (lookV_some HML.out) HYO.out) (fun E => args2 (E.d 0 1) (E.d 1 0)) ?_
     rintro e u31_2 ⟨rfl, hm⟩
     refine ⟨_, rfl, ?_⟩
     have zu31_2 := hm.size
     have Cx128 := hid (show Mod (fun _ => False) u30_6 u31_2 from hm)
     clear hm
     refine QSeq.pure rfl _ (fun E => ex_move rfl (E.d 2 0)) ?_
     refine QSeq.pure rfl (hv y.h) (fun E => ex_extract rfl (E.d 3 0) rfl) ?_
     refine QSeq.pure rfl (.int .u64 (y.tm : Nat)) (fun E => ex_extract rfl (E.d 3 1) rfl) ?_
     refine QSeq.pure rfl (.bool true) (fun E => ex_extract rfl (E.d 3 2) rfl) ?_
     refine QSeq.go fun act E => ?_
     refine qc_alloc rfl (wanted_none rfl) rfl (z := [.int .u8 0, .int .u8 0, .int .u8 0, .int .u8 0, .int .u8 0, .int .u8 0, .int .u8 0, .int .u8 0, .int .u8 0, .int .u8 0, .int .u8 0, .int .u8 0, .int .u8 0, .int .u8 0, .int .u8 0, .int .u8 0, .int .u8 0, .int .u8 0, .int .u8 0, .int .u8 0, .int .u8 0, .int .u8 0, .int .u8 0, .int .u8 0, .int .u8 0, .int .u8 0, .int .u8 0, .int .u8 0, .int .u8 0, .int .u8 0, .int .u8 0, .int .u8 0]) (by kernel_rfl) ?_
     intro u31_7 qb20 hm
     have zl31_7 := qb20.lt
     have Hx129 := hid qb20
     have zu31_7 := hm.size
     have HMu31_7 := hid hm
     have Cx130 := hid (Cx128.out.goE hm)
     clear hm Cx128
     clear act E qb20
     refine QSeq.go fun act E => ?_
     have hlz : ((y.h.map bv)).length = List.length ([.int .u8 0, .int .u8 0, .int .u8 0, .int .u8 0, .int .u8 0, .int .u8 0, .int .u8 0, .int .u8 0, .int .u8 0, .int .u8 0, .int .u8 0, .int .u8 0, .int .u8 0, .int .u8 0, .int .u8 0, .int .u8 0, .int .u8 0, .int .u8 0, .int .u8 0, .int .u8 0, .int .u8 0, .int .u8 0, .int .u8 0, .int .u8 0, .int .u8 0, .int .u8 0, .int .u8 0, .int .u8 0, .int .u8 0, .int .u8 0, .int .u8 0, .int .u8 0] : List Value) := (by rw [List.length_map, HYO.out.h.1]; rfl)
     refine qc_store rfl (wanted_none rfl) rfl Hx129.out (off := 0) (vs := (y.h.map bv)) (by rw [hlz]; kernel_rfl) (by intro u hu; obtain ⟨z, -, rfl⟩ := List.mem_map.1 hu; rfl) (by rw [hlz]; exact Nat.le_of_eq (Nat.zero_add _)) (E.d 7 0) (ec (E.d 4 3)) ?_
     intro u31_8 qc0 hm
     have qb20 := qc0.eqv (b := ((y.h.map bv) : List Value).toArray) (lay_whole (#[.int .u8 0, .int .u8 0, .int .u8 0, .int .u8 0, .int .u8 0, .int .u8 0, .int .u8 0, .int .u8 0, .int .u8 0, .int .u8 0, .int .u8 0, .int .u8 0, .int .u8 0, .int .u8 0, .int .u8 0, .int .u8 0, .int .u8 0, .int .u8 0, .int .u8 0, .int .u8 0, .int .u8 0, .int .u8 0, .int .u8 0, .int .u8 0, .int .u8 0, .int .u8 0, .int .u8 0, .int .u8 0, .int .u8 0, .int .u8 0, .int .u8 0, .int .u8 0]) _ (by rw [hlz]; rfl))
     clear qc0 hlz
     have Hx131 := hid qb20
     have zu31_8 := hm.size
     have HMu31_8 := hid hm
     have Cx132 := hid (Mod.goS (S' := (fun _ => False)) Cx130.out hm (fun _ h => h) (by intro k h0 h2; omega))
     clear hm Cx130
     clear act E qb20 Hx129
     refine QSeq.pure rfl _ (fun E => ex_assign rfl (E.d 5 3)) ?_
     refine QSeq.pure rfl _ (fun E => ex_assign rfl (E.d 6 3)) ?_
     clear HMu31_7 HMu31_8
     refine QSeq.nil (t' := [_, _, _, _, _, _, _, _, _, _, _]) rfl ?_
     obtain rfl := HA0.out
     clear HA0 oe5 oe18
     simp only [pz, Act.put, List.setIfInBounds_toArray, List.set_cons_zero, List.set_cons_succ, List.set_nil]
     go_upto_region 32 with (fail)
     refine wp_region_U 173 [158, 159, 160, 161, 162, 163, 164, 165, 166, 167, 168, 169, 170, 171] [0, 1, 2, 3, 4, 5, 6, 7, 8, 9, 10, 11, 12, 13] (fun a0 HA0 => ?_)
     have oe19 := ev HA0 19 rfl
     have oe20 := ev HA0 20 rfl
     have oe21 := ev HA0 21 rfl
     have oe22 := ev HA0 22 rfl
     refine QSeq.pure rfl _ (fun E => ex_move rfl (E.v oe22)) ?_
     refine QSeq.pure rfl (.bool false) (fun E => ex_not rfl (E.d 0 0)) ?_
     refine QSeq.pure rfl _ (fun E => ex_move rfl (E.d 1 0)) ?_
     refine QSeq.pureG rfl (hv y.h) (fun E => ((wanted_of rfl rfl (E.sz 160 (by decide)) (E.d 2 0)).trans rfl)) (fun E => ex_loadA rfl Try.underlying32 rfl (off := 0) (cs := (y.h.map bv)) (by rw [List.length_map, HYO.out.h.1]; exact size_hash) (E.v oe20) (Cs.whole Hx131.out)) ?_
     refine QSeq.pureG rfl (.pointer (some ⟨u30_3.heap.size, 0, none⟩)) (fun E => ((wanted_of rfl rfl (E.sz 160 (by decide)) (E.d 2 1)).trans rfl)) (fun E => ex_field rfl Try.underlying67 rfl (by kernel_rfl) (E.v oe19)) ?_
     refine QSeq.pureG rfl (hv y.h) (fun E => ((wanted_of rfl rfl (E.sz 160 (by decide)) (E.d 2 2)).trans rfl)) (fun E => ex_loadA rfl Try.underlying32 rfl (off := 0) (cs := y.h.map bv) (by rw [List.length_map, HYO.out.h.1]; exact size_hash) (E.d 4 0) (Cs.midA (pre := []) (mid := y.h.map bv) (post := [.int .u64 (y.tm : Nat)]) (Hx125.out.mod Cx132.out (fun h => h)) rfl)) ?_
     refine QSeq.pureG rfl (.bool false) (fun E => ((wanted_of rfl rfl (E.sz 160 (by decide)) (E.d 2 3)).trans rfl)) (fun E => ex_binE rfl (E.d 3 2) (E.d 5 0) (agg_guardE _ _ _ _ _ _ (by kernel_rfl) _) (run_neq_hv HYO.out.h.1 HYO.out.h.1 (c := true) (by simp) _) rfl) ?_
     refine QSeq.pure rfl (.bool false) (fun E => ex_pick rfl (E.d 2 4) rfl (E.d 6 0)) ?_
     refine QSeq.pure rfl _ (fun E => ex_move rfl (E.d 7 0)) ?_
     refine QSeq.pureG rfl (.int .u64 (y.tm : Nat)) (fun E => ((wanted_of rfl rfl (E.sz 166 (by decide)) (E.d 8 0)).trans rfl)) (fun E => ex_move rfl (E.v oe21)) ?_
     refine QSeq.pureG rfl (.pointer (some ⟨u30_3.heap.size, 32, none⟩)) (fun E => ((wanted_of rfl rfl (E.sz 166 (by decide)) (E.d 8 1)).trans rfl)) (fun E => ex_field rfl Try.underlying67 rfl (by kernel_rfl) (E.v oe19)) ?_
     refine QSeq.pureG rfl (.int .u64 (y.tm : Nat)) (fun E => ((wanted_of rfl rfl (E.sz 166 (by decide)) (E.d 8 2)).trans rfl)) (fun E => ex_load1 rfl Try.underlying45 rfl (E.d 10 0) (Cs.post1 (pre := []) (mid := y.h.map bv) (post := [.int .u64 (y.tm : Nat)]) (m := 32) (k := 0) (Hx125.out.mod Cx132.out (fun h => h)) (by rw [List.length_map]; exact HYO.out.h.1) rfl rfl)) ?_
     refine QSeq.pureG rfl (.bool false) (fun E => ((wanted_of rfl rfl (E.sz 166 (by decide)) (E.d 8 3)).trans rfl)) (fun E => ex_binE rfl (E.d 9 2) (E.d 11 0) (guard_ints _ _ _ _ _ _) (run_neq_i _ _ _ Try.underlying45) (congrArg Value.bool (ne_ff rfl))) ?_
     refine QSeq.pure rfl (.bool false) (fun E => ex_pick rfl (E.d 8 4) rfl (E.d 12 0)) ?_
     refine QSeq.nil (t' := [_, _, _, _, _, _, _, _, _, _, _, _, _, _]) rfl ?_
     obtain rfl := HA0.out
     clear HA0 oe19 oe20 oe21 oe22
     simp only [pz, Act.put, List.setIfInBounds_toArray, List.set_cons_zero, List.set_cons_succ]
     clear Hx127
     clear Hx125
     clear Hx131
     go_wp2
     go_roundw
     case rel => exact ⟨seen.push e.born, by omega, ((Hx117.out.mod Cx126.out (fun h => h)).mod Cx132.out (fun h => h)), (((J2.out.mod Cx118.out (by intro h2; omega)).mod Cx126.out (fun h => h)).mod Cx132.out (fun h => h)), (((J3.out.mod Cx118.out (by intro k h1 h2; omega)).mod Cx126.out (fun _ _ h => h)).mod Cx132.out (fun _ _ h => h)), (((J4.out.trans Cx118.out (by intro k h1 h2; omega)).trans Cx126.out (fun _ _ h => h.elim)).trans Cx132.out (fun _ _ h => h.elim))⟩
     case measure => rw [itLeft_eq ((Hx117.out.mod Cx126.out (fun h => h)).mod Cx132.out (fun h => h)), itLeft_eq HJ1.out]; exact left_shrinks _ _ _ hel
end Go.Proofs.Ytbifincepglilaa

namespace Go.Proofs.Ytbifincepglilaa.stampKeeps
open Go Go.RowKit Go.Gv Go.ChangeShapes Go.WideShapes Go.ChangeAt
open Go.ChangeMaps (open_string shut_string)

theorem own : ownKnob Try.prog.godebug = none := by kernel_rfl
theorem laidOut : laidOutB Try.prog = true := by kernel_rfl

theorem lifted (os : Os) (started : os.Started) (H : Type) (enc : TypeId × Value → H) :
    ReturnsInHanded {} Try.checked os 6 .any (Rows.stampKeepsSpec.pre6 enc Try.prog Try.f6 Rows.stampKeepsRow.domain false) (Rows.stampKeepsSpec.post enc Try.prog Try.f6 false true false false) := by
  refine returnsInHanded_of_change (C := Try.checked) own started (by kernel_rfl) Try.func6
    (ChangeSpec.witness6 (enc := enc) (C := Try.checked) false ⟨#[], #[.slice none 0 0], []⟩ 8 (by kernel_rfl) (by kernel_rfl) (by kernel_rfl) (by kernel_rfl)) ?_
  intro W base args ds gs before hval0 hW hcnd _
  have hval : ∀ (j : Nat) t v, Try.f6.params[j]? = some t → args[j]? = some v → Value.okWide Try.prog W .any base t v := hval0
  have hW' := hW
  obtain ⟨p, q, hA0, hV, rfl, hfz, hnd⟩ := hW
  have hA : DataW.TrodAll enc Try.prog W 0 (fun _ => true) true Try.f6.params.toList args.toList ds p := hA0
  rw [Try.params6] at hA hval
  obtain ⟨v0, vs0, d0, ds0, p0, q0, hargs, rfl, rfl, h0, r0⟩ := trodAll_cons hA
  obtain ⟨rfl, rfl, rfl⟩ := trodAll_nil r0
  obtain rfl : args = #[v0] := by cases args; simp_all
  obtain ⟨rfl, rfl⟩ := trodVars_none hV
  have k0 := h0
  have lt0 : ∀ x ∈ p0, x.block < W.heap.size := by obtain ⟨m, hm⟩ := k0; exact DataW.trod_lt m _ _ _ hm
  obtain ⟨l0, e0⟩ := slice_arg reads_sa Try.underlying56 (by kernel_rfl) k0 (hval 0 56 v0 rfl rfl)
  clear hA0 hval0
  refine (StampKeeps_walk l0 v0 W e0).mono fun e W' ⟨he, hmod⟩ => ?_
  subst he
  have bel : Below W.heap.size W W' := hmod.below (Nat.le_refl _) (fun _ _ => id)
  exact ⟨_, rfl, _, _, _, [], _, [], hW', trodAll_mk1 (shut_bool Try.underlying4 _), (trodAll_cons_mk (Below.trod laidOut (by kernel_rfl) (of_decide_eq_true (by kernel_rfl)) k0 bel lt0) trodAll_mk0), rfl, bel.frame _, fun h => by cases h⟩

theorem over : Rows.stampKeepsRow.holds Try.pinned (OpenSpec.ofChange Rows.stampKeepsSpec) :=
  OpenClaim.holds_of_wide 6 Try.f6 rfl rfl rfl rfl rfl rfl rfl ⟨rfl, rfl, rfl, rfl, rfl⟩ rfl rfl rfl rfl rfl (by kernel_rfl) Try.func6 (by kernel_rfl)
    (of_decide_eq_true (by kernel_rfl)) (by unfold Func.isWrapper; first | (rw [if_pos (by decide +kernel)]; kernel_rfl) | (rw [if_neg (by decide +kernel)]; exact ⟨rfl, rfl⟩))
    (fun os started H enc _ => lifted os started H enc)

theorem proved : Rows.StampKeepsSaid := over
end Go.Proofs.Ytbifincepglilaa.stampKeeps
