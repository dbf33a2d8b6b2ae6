/- StampEnd: at the end of time nothing is stamped any more, and nothing goes round: for every number of ticks that are left and every other number the law returns true. No condition. -/
import Derived.Test.YtbifincepglilaaSpE5
import Derived.ProofKit
import Derived.OpenShut
import Derived.ChangeOld
set_option maxRecDepth 100000
set_option linter.unusedVariables false
/- gavellaw09.StampEnd. -/
namespace Go.Proofs.Ytbifincepglilaa
open Go Go.RowKit Go.Gv

set_option maxHeartbeats 8000000 in
theorem StampEnd_walk (n : Nat) (a1 : Int) (w : World) (hn : n < U64) (ha1 : -9223372036854775808 ≤ a1 ∧ a1 ≤ 9223372036854775807) : Calls Try.prog 4 #[.int .u64 (n : Nat), .int .i64 a1] w fun e w' => e = .returned (.bool true) ∧ Mod (fun _ => False) w w' := by
 have hU : U64 = 18446744073709551616 := rfl
 have HA1 := Lib.hid ha1
 go_enter Try.func4, Try.ntmps4
 go_upto_region 1 with (fail)
 have HM0 := hid (Mod.refl (fun _ => False) w)
 go_upto_region 1 with (fail)
 refine wp_region_U 126 [16, 5, 128] [0, 1, 2] (fun a0 HA0 => ?_)
 refine QSeq.pure rfl (.agg #[.int .i64 1, .int .i64 1]) (fun E => ex_build rfl (z := [.int .i64 0, .int .i64 0]) (places := [(0, 1), (1, 1)]) (by kernel_rfl) (parts := [(0, .int .i64 1), (1, .int .i64 1)]) (by simp only [List.map_toArray, List.map_cons, List.map_nil]; try rfl) (r := [.int .i64 1, .int .i64 1]) (by rfl)) ?_
 refine QSeq.go fun act E => ?_
 refine qc_alloc rfl (wanted_none rfl) rfl (z := [.int .i64 0, .int .i64 0]) (by kernel_rfl) ?_
 intro u1_1 qb5 hm
 have zl1_1 := qb5.lt
 have Hx1 := hid qb5
 have zu1_1 := hm.size
 have Cx2 := hid (show Mod (fun _ => False) w u1_1 from hm)
 clear hm
 clear act E qb5
 refine QSeq.go fun act E => ?_
 have hlz : (([.int .i64 1, .int .i64 1] : List Value)).length = List.length ([.int .i64 0, .int .i64 0] : List Value) := rfl
 refine qc_store rfl (wanted_none rfl) rfl Hx1.out (off := 0) (vs := ([.int .i64 1, .int .i64 1] : List Value)) (by rw [hlz]; kernel_rfl) (by intro u hu; simp only [List.mem_cons, List.not_mem_nil, or_false] at hu; rcases hu with rfl | rfl <;> rfl) (by rw [hlz]; exact Nat.le_of_eq (Nat.zero_add _)) (E.d 1 0) (ec (E.d 0 1)) ?_
 intro u1_2 qc0 hm
 have qb5 := qc0.eqv (b := (([.int .i64 1, .int .i64 1] : List Value) : List Value).toArray) (lay_whole (#[.int .i64 0, .int .i64 0]) _ (by rw [hlz]; rfl))
 clear qc0 hlz
 have Hx3 := hid qb5
 have zu1_2 := hm.size
 have HMu1_2 := hid hm
 have Cx4 := hid (Mod.goS (S' := (fun _ => False)) Cx2.out hm (fun _ h => h) (by intro k h0 h2; omega))
 clear hm Cx2
 clear act E qb5 Hx1
 clear HMu1_2
 refine QSeq.nil (t' := [_, _, _]) rfl ?_
 obtain rfl := HA0.out
 clear HA0
 simp only [pz, Act.put, List.setIfInBounds_toArray, List.set_cons_zero, List.set_cons_succ, List.set_nil]
 go_upto_region 2 with (fail)
 refine wp_region_U 126 [17, 6] [0, 1] (fun a0 HA0 => ?_)
 refine QSeq.call rfl rfl Try.func9 (Book_new_Q _) (fun E => args0) ?_
 rintro e u2_0 ⟨g, rfl, qbk, hm⟩
 refine ⟨_, rfl, ?_⟩
 have Hx5 := hid qbk
 have zu2_0 := hm.size
 have Cx6 := hid (show Mod (fun _ => False) u1_2 u2_0 from hm)
 clear hm
 clear qbk
 refine QSeq.pure rfl _ (fun E => ex_assign rfl (E.d 0 0)) ?_
 refine QSeq.nil (t' := [_, _]) rfl ?_
 obtain rfl := HA0.out
 clear HA0
 simp only [pz, Act.put, List.setIfInBounds_toArray, List.set_cons_zero, List.set_cons_succ]
 go_upto_region 3 with (fail)
 refine wp_region_U 126 [19, 20, 18, 21, 22, 7, 8] [0, 1, 2, 3, 4, 5, 6] (fun a0 HA0 => ?_)
 have oe5 := ev HA0 5 rfl
 refine QSeq.pure rfl _ (fun E => ex_loadA rfl Try.underlying26 rfl (off := 0) (cs := [.int .i64 1, .int .i64 1]) (by kernel_rfl) (E.v oe5) (Cs.litA (Hx3.out.mod Cx6.out (fun h => h)) rfl)) ?_
 refine QSeq.call rfl rfl Try.func11 (New_Q (F := 1) (C := 1) (r := 0) (by decide) (by decide) (by decide) _) (fun E => args2 (E.d 0 0) rfl) ?_
 rintro e u3_1 ⟨p, rfl, qsp, hm⟩
 refine ⟨_, rfl, ?_⟩
 have Hx7 := hid qsp
 have zu3_1 := hm.size
 have Cx8 := hid (show Mod (fun _ => False) u2_0 u3_1 from hm)
 clear hm
 clear qsp
 refine QSeq.pure rfl _ (fun E => ex_move rfl (E.d 1 0)) ?_
 refine QSeq.pure rfl (.pointer (some ⟨p, 0, none⟩)) (fun E => ex_extract rfl (E.d 2 0) rfl) ?_
 refine QSeq.pure rfl (.int .i64 0) (fun E => ex_extract rfl (E.d 2 1) rfl) ?_
 refine QSeq.pure rfl _ (fun E => ex_assign rfl (E.d 3 1)) ?_
 refine QSeq.pure rfl _ (fun E => ex_assign rfl (E.d 4 1)) ?_
 refine QSeq.nil (t' := [_, _, _, _, _, _, _]) rfl ?_
 obtain rfl := HA0.out
 clear HA0 oe5
 simp only [pz, Act.put, List.setIfInBounds_toArray, List.set_cons_zero, List.set_cons_succ]
 go_upto_region 4 with (fail)
 refine wp_region_U 126 [23, 24, 25, 26, 27, 28, 29, 30, 31, 32] [0, 1, 2, 3, 4, 5, 6, 7, 8, 9] (fun a0 HA0 => ?_)
 have oe6 := ev HA0 6 rfl
 have oe7 := ev HA0 7 rfl
 have oe8 := ev HA0 8 rfl
 refine QSeq.pure rfl _ (fun E => ex_move rfl (E.v oe6)) ?_
 refine QSeq.pure rfl (.bool false) (fun E => ex_bin rfl (E.d 0 0) rfl (guard_ptr _ _ _ _ _ _ _) (run_eql_nil _ Try.underlying27 (by kernel_rfl) _)) ?_
 refine QSeq.pure rfl _ (fun E => ex_move rfl (E.d 1 0)) ?_
 refine QSeq.pureG rfl (.int .i64 0) (fun E => ((wanted_of rfl rfl (E.sz 25 (by decide)) (E.d 2 0)).trans rfl)) (fun E => ex_move rfl (E.v oe8)) ?_
 refine QSeq.pureG rfl (.bool false) (fun E => ((wanted_of rfl rfl (E.sz 25 (by decide)) (E.d 2 1)).trans rfl)) (fun E => ex_binE rfl (E.d 3 0) rfl (guard_ints _ _ _ _ _ _) (run_neq_i _ _ _ Try.underlying40) (congrArg Value.bool (show _ = false from rfl))) ?_
 refine QSeq.pure rfl (.bool false) (fun E => ex_pick rfl (E.d 2 2) rfl (E.d 4 0)) ?_
 refine QSeq.pure rfl _ (fun E => ex_move rfl (E.d 5 0)) ?_
 refine QSeq.pureG rfl (.pointer (some ⟨p, 0, none⟩)) (fun E => ((wanted_of rfl rfl (E.sz 29 (by decide)) (E.d 6 0)).trans rfl)) (fun E => ex_move rfl (E.v oe7)) ?_
 refine QSeq.pureG rfl (.bool false) (fun E => ((wanted_of rfl rfl (E.sz 29 (by decide)) (E.d 6 1)).trans rfl)) (fun E => ex_bin rfl (E.d 7 0) rfl (guard_ptr _ _ _ _ _ _ _) (run_eql_nil _ Try.underlying39 (by kernel_rfl) _)) ?_
 refine QSeq.pure rfl (.bool false) (fun E => ex_pick rfl (E.d 6 2) rfl (E.d 8 0)) ?_
 refine QSeq.nil (t' := [_, _, _, _, _, _, _, _, _, _]) rfl ?_
 obtain rfl := HA0.out
 clear HA0 oe6 oe7 oe8
 simp only [pz, Act.put, List.setIfInBounds_toArray, List.set_cons_zero, List.set_cons_succ]
 clear Hx3
 obtain ⟨r4, hr4⟩ : ∃ r, r = n % 4 := ⟨_, rfl⟩
 obtain ⟨l, hl⟩ : ∃ l, l = 1 + r4 := ⟨_, rfl⟩
 obtain ⟨nl, hnl⟩ : ∃ x, x = U64 - 1 - l := ⟨_, rfl⟩
 have hl4 : 1 ≤ l ∧ l ≤ 4 := by omega
 go_upto_region 6 with (fail)
 refine wp_region_U 126 [33, 34, 35, 0] [0, 1, 2, 3] (fun a0 HA0 => ?_)
 have oe0 := ev HA0 0 rfl
 refine QSeq.pure rfl _ (fun E => ex_move rfl (E.y 3 oe0)) ?_
 refine QSeq.pure rfl (.int .u64 ((r4 : Nat) : Int)) (fun E => ex_binE rfl (E.d 0 0) rfl (guard_ints _ _ _ _ _ _) (run_rem_i _ _ (by decide)) (congrArg (Value.int .u64) (show (((n : Nat) : Int)).tmod 4 = ((r4 : Nat) : Int) from (by rw [Int.tmod_eq_emod_of_nonneg (by omega)]; omega)))) ?_
 refine QSeq.pure rfl (.int .u64 ((l : Nat) : Int)) (fun E => ex_binE rfl rfl (E.d 1 0) (guard_ints _ _ _ _ _ _) (run_add_i _ _ Try.underlying45) (congrArg (Value.int .u64) (u64_eq (b := ((l : Nat) : Int)) (by omega) (by omega) (by omega)))) ?_
 refine QSeq.pure rfl _ (fun E => ex_assign rfl (E.d 2 0)) ?_
 refine QSeq.nil (t' := [_, _, _, _]) rfl ?_
 obtain rfl := HA0.out
 clear HA0 oe0
 simp only [pz, Act.put, List.setIfInBounds_toArray, List.set_cons_zero, List.set_cons_succ]
 go_upto_region 7 with (fail)
 refine wp_region_U 126 [36, 37, 38, 39] [0, 1, 2, 3] (fun a0 HA0 => ?_)
 have oe0 := ev HA0 0 rfl
 have oe7 := ev HA0 7 rfl
 refine QSeq.pure rfl _ (fun E => ex_move rfl (E.v oe7)) ?_
 refine QSeq.pure rfl _ (fun E => ex_move rfl (E.v oe0)) ?_
 refine QSeq.pure rfl (.int .u64 ((nl : Nat) : Int)) (fun E => ex_binE rfl rfl (E.d 1 0) (guard_ints _ _ _ _ _ _) (run_sub_i _ _ Try.underlying45) (congrArg (Value.int .u64) (u64_eq (b := ((nl : Nat) : Int)) (by omega) (by omega) (by omega)))) ?_
 refine QSeq.call rfl rfl Try.func13 (Tick_Q (n := nl) Hx7.out (by intro k h1; omega) (by omega)) (fun E => args2 (E.d 0 2) (E.d 2 0)) ?_
 rintro e u7_3 ⟨rfl, qsp, hm⟩
 refine ⟨_, rfl, ?_⟩
 have Hx9 := hid qsp
 have zu7_3 := hm.size
 have Cx10 := hid (show Mod (fun k => (New u2_0 u3_1 k)) u3_1 u7_3 from hm)
 clear hm
 clear qsp Hx7
 refine QSeq.nil (t' := [_, _, _, _]) rfl ?_
 obtain rfl := HA0.out
 clear HA0 oe0 oe7
 simp only [pz, Act.put, List.setIfInBounds_toArray, List.set_cons_zero, List.set_cons_succ]
 have hq := Hx9.out
 rw [show tickS ss0 nl = ⟨nl, 0, 0, []⟩ from by unfold tickS ss0; simp only [SS.mk.injEq, and_true]; omega] at hq
 have HSP1 := Lib.hid hq
 clear hq
 clear Hx9
 go_upto_region 8 with (fail)
 refine wp_region_U 126 [9] [0] (fun a0 HA0 => ?_)
 refine QSeq.pure rfl (.int .i64 0) (fun E => ex_assign rfl rfl) ?_
 refine QSeq.nil (t' := [_]) rfl ?_
 obtain rfl := HA0.out
 clear HA0
 simp only [pz, Act.put, List.setIfInBounds_toArray, List.set_cons_zero, List.set_cons_succ]
 go_upto_region 9 with (fail)
 refine wp_region_U 126 [10] [0] (fun a0 HA0 => ?_)
 refine QSeq.pure rfl (.int .u64 0) (fun E => ex_assign rfl rfl) ?_
 refine QSeq.nil (t' := [_]) rfl ?_
 obtain rfl := HA0.out
 clear HA0
 simp only [pz, Act.put, List.setIfInBounds_toArray, List.set_cons_zero, List.set_cons_succ]
 go_upto_region 10 with (fail)
 refine wp_region_U 126 [11] [0] (fun a0 HA0 => ?_)
 refine QSeq.pure rfl (.int .i64 1) (fun E => ex_assign rfl rfl) ?_
 refine QSeq.nil (t' := [_]) rfl ?_
 obtain rfl := HA0.out
 clear HA0
 simp only [pz, Act.put, List.setIfInBounds_toArray, List.set_cons_zero, List.set_cons_succ]
 go_wp2
 go_loopw [9, 10, 11] (fun tg tl ti wr => ∃ (j gd la : Nat) (m : NMap) (L : List (Int × List Int)), tg = .int .i64 (gd : Nat) ∧ tl = .int .u64 (la : Nat) ∧ ti = .int .i64 ((j + 1 : Nat) : Int) ∧ j ≤ 6 ∧ gd = min j l ∧ la = (if gd = 0 then 0 else nl + gd - 1) ∧ L.length ≤ 2 * j ∧ m.length = gd ∧ (∀ q ∈ m, q.1.2 ≤ (j : Int)) ∧ u7_3.heap.size ≤ wr.heap.size ∧ SpR (fun k => (New u2_0 u3_1 k)) wr p 1 1 0 ⟨nl, 0, la, m⟩ ∧ BkR (fun k => (New u1_2 u2_0 k)) wr g L ∧ Mod (fun _ => False) w wr) (fun _ _ ti _ => 8 - (intOf ti).toNat)
 case atStart => exact ⟨0, 0, 0, [], [], rfl, rfl, rfl, by omega, by omega, rfl, by simp, rfl, (fun q hq => by cases hq), Nat.le_refl _, HSP1.out, ((Hx5.out.mod Cx8.out (fun _ _ h => h)).mod Cx10.out (by intro k h1 h2; omega)), ((((HM0.out.trans Cx4.out (fun _ _ h => h.elim)).trans Cx6.out (fun _ _ h => h.elim)).trans Cx8.out (fun _ _ h => h.elim)).trans Cx10.out (by intro k h1 h2; omega))⟩
 case round =>
  obtain ⟨j, gd, la, m, L, rfl, rfl, rfl, hj6, hgd, hla, hLl, hml, hkm, hz, hs, hb, hm⟩ := hrel
  obtain ⟨wl, rfl⟩ : ∃ x, x = wr := ⟨_, rfl⟩
  have hla2 : la + 1 ≤ max nl (nl + gd) ∧ (gd = 0 → la = 0) ∧ (0 < gd → la = nl + gd - 1) := by rw [hla]; split <;> omega
  clear hla
  have Ks := Lib.hid hs
  have Kb := Lib.hid hb
  have Km := Lib.hid hm
  have Kkm := Lib.hid hkm
  clear hs hb hm hkm HM0 Hx5 HSP1
  by_cases hc : j < 6
  ·skip
   go_upto_region 11 with (fail)
   refine wp_region_U 126 [40, 41] [0, 1] (fun a0 HA0 => ?_)
   have oe11 := ev HA0 11 rfl
   refine QSeq.pure rfl _ (fun E => ex_move rfl (E.v oe11)) ?_
   refine QSeq.pure rfl (.bool true) (fun E => ex_binE rfl (E.d 0 0) rfl (guard_ints _ _ _ _ _ _) (run_leq_i _ _ _ Try.underlying3) (congrArg Value.bool (decide_eq_true (by omega)))) ?_
   refine QSeq.nil (t' := [_, _]) rfl ?_
   obtain rfl := HA0.out
   clear HA0 oe11
   simp only [pz, Act.put, List.setIfInBounds_toArray, List.set_cons_zero, List.set_cons_succ]
   by_cases hjl : j < l
   ·obtain ⟨t, ht⟩ : ∃ t, t = nl + j := ⟨_, rfl⟩
    go_upto_region 13 with (fail)
    refine wp_region_U 126 [45, 46, 47, 48, 49, 50, 51, 52, 44, 53, 54, 12, 138, 13] [0, 1, 2, 3, 4, 5, 6, 7, 8, 9, 10, 11, 12, 13] (fun a0 HA0 => ?_)
    have oe6 := ev HA0 6 rfl
    have oe7 := ev HA0 7 rfl
    have oe11 := ev HA0 11 rfl
    refine QSeq.pure rfl _ (fun E => ex_move rfl (E.v oe7)) ?_
    refine QSeq.pure rfl _ (fun E => ex_move rfl (E.v oe6)) ?_
    refine QSeq.pure rfl _ (fun E => ex_move rfl (E.v oe6)) ?_
    refine QSeq.pure rfl _ (fun E => ex_move rfl (E.v oe11)) ?_
    refine QSeq.go fun act E => ?_
    refine qc_run rfl (wanted_none rfl) (v := .agg #[.int .i64 0, .int .i64 ((j + 1 : Nat) : Int)]) (ex_build rfl (z := [.int .i64 0, .int .i64 0]) (places := [(0, 1), (1, 1)]) (by kernel_rfl) (parts := [(1, .int .i64 ((j + 1 : Nat) : Int))]) (by simp only [List.map_toArray, List.map_cons, List.map_nil, show act.eval (.tmp 48) = .int .i64 ((j + 1 : Nat) : Int) from (E.d 3 0)]; try rfl) (r := [.int .i64 0, .int .i64 ((j + 1 : Nat) : Int)]) (by rfl)) ?_
    clear act E
    refine QSeq.pure rfl (hv z32) (fun E => ex_build0 rfl (r := ((z32.map bv) : List Value).toArray) (by kernel_rfl)) ?_
    refine QSeq.call rfl rfl Try.func10 (Make_B Kb.out (by omega) 1 0 ((j + 1 : Nat) : Int) [] (by decide) (by decide) (by omega) (RdR_nil _) (by decide)) (fun E => args4 (E.d 2 3) (E.d 4 1) (E.d 5 0) rfl) ?_
    rintro e u13_6 ⟨ca, La, rfl, qbk, hmd, hm⟩
    have HMDa := Lib.hid hmd
    clear hmd
    refine ⟨_, rfl, ?_⟩
    have Hx11 := hid qbk
    have zu13_6 := hm.size
    have Cx12 := hid (show Mod (fun k => (New u1_2 u2_0 k)) wl u13_6 from hm)
    clear hm
    clear qbk Kb
    refine QSeq.call rfl rfl Try.func14 (Stamp_B (t := t) (Ks.out.mod Cx12.out (by intro k h1 h2; omega)) Hx11.out (by intro k h1; omega) (by intro k h1; omega) (by intro k h1 h2; omega) HMDa.out.ok HMDa.out.si HMDa.out.rt (mlook_far Kkm.out (by rw [HMDa.out.sq]; omega)) (by (try dsimp only); omega) (by omega) (by unfold I64; decide) (by have := HMDa.out.ln; omega)) (fun E => args3 (E.d 0 6) (E.d 1 5) (E.d 6 0)) ?_
    rintro e u13_7 ⟨ya, Ma, rfl, qsp, qbk, hst, hm⟩
    have HYFa := Lib.hid hst
    clear hst
    refine ⟨_, rfl, ?_⟩
    have Hx13 := hid qsp
    have Hx14 := hid qbk
    have zu13_7 := hm.size
    have HMu13_7 := hid hm
    have Cx15 := hid (Mod.goS (S' := (fun k => (New u1_2 u2_0 k) ∨ (New u2_0 u3_1 k))) Cx12.out hm (fun _ h => Or.inl h) (by intro k h0 h2; rcases h2 with h2 | h2; exact Or.inr (h2); exact Or.inl h2))
    clear hm Cx12
    clear qsp qbk Ks Hx11
    refine QSeq.pure rfl _ (fun E => ex_move rfl (E.d 7 0)) ?_
    refine QSeq.pure rfl (.agg ya.cells.toArray) (fun E => ex_extract rfl (E.d 8 0) rfl) ?_
    refine QSeq.pure rfl (.int .i64 0) (fun E => ex_extract rfl (E.d 8 1) rfl) ?_
    refine QSeq.go fun act E => ?_
    refine qc_alloc rfl (wanted_none rfl) rfl (z := [.int .i64 0, .int .i64 0, .int .i64 0, .int .u8 0, .int .u8 0, .int .u8 0, .int .u8 0, .int .u8 0, .int .u8 0, .int .u8 0, .int .u8 0, .int .u8 0, .int .u8 0, .int .u8 0, .int .u8 0, .int .u8 0, .int .u8 0, .int .u8 0, .int .u8 0, .int .u8 0, .int .u8 0, .int .u8 0, .int .u8 0, .int .u8 0, .int .u8 0, .int .u8 0, .int .u8 0, .int .u8 0, .int .u8 0, .int .u8 0, .int .u8 0, .int .u8 0, .int .u8 0, .int .u8 0, .int .u8 0, .int .u64 0, .int .i64 0, .int .i64 0]) (by kernel_rfl) ?_
    intro u13_11 qb12 hm
    have zl13_11 := qb12.lt
    have Hx16 := hid qb12
    have zu13_11 := hm.size
    have HMu13_11 := hid hm
    have Cx17 := hid (Cx15.out.goE hm)
    clear hm Cx15
    clear act E qb12
    refine QSeq.go fun act E => ?_
    have hlz : (ya.cells).length = List.length ([.int .i64 0, .int .i64 0, .int .i64 0, .int .u8 0, .int .u8 0, .int .u8 0, .int .u8 0, .int .u8 0, .int .u8 0, .int .u8 0, .int .u8 0, .int .u8 0, .int .u8 0, .int .u8 0, .int .u8 0, .int .u8 0, .int .u8 0, .int .u8 0, .int .u8 0, .int .u8 0, .int .u8 0, .int .u8 0, .int .u8 0, .int .u8 0, .int .u8 0, .int .u8 0, .int .u8 0, .int .u8 0, .int .u8 0, .int .u8 0, .int .u8 0, .int .u8 0, .int .u8 0, .int .u8 0, .int .u8 0, .int .u64 0, .int .i64 0, .int .i64 0] : List Value) := (by rw [St.len HYFa.out.ok]; rfl)
    refine qc_store rfl (wanted_none rfl) rfl Hx16.out (off := 0) (vs := ya.cells) (by rw [hlz]; kernel_rfl) (St.one ya) (by rw [hlz]; exact Nat.le_of_eq (Nat.zero_add _)) (E.d 11 0) (ec (E.d 9 2)) ?_
    intro u13_12 qc0 hm
    have qb12 := qc0.eqv (b := (ya.cells : List Value).toArray) (lay_whole (#[.int .i64 0, .int .i64 0, .int .i64 0, .int .u8 0, .int .u8 0, .int .u8 0, .int .u8 0, .int .u8 0, .int .u8 0, .int .u8 0, .int .u8 0, .int .u8 0, .int .u8 0, .int .u8 0, .int .u8 0, .int .u8 0, .int .u8 0, .int .u8 0, .int .u8 0, .int .u8 0, .int .u8 0, .int .u8 0, .int .u8 0, .int .u8 0, .int .u8 0, .int .u8 0, .int .u8 0, .int .u8 0, .int .u8 0, .int .u8 0, .int .u8 0, .int .u8 0, .int .u8 0, .int .u8 0, .int .u8 0, .int .u64 0, .int .i64 0, .int .i64 0]) _ (by rw [hlz]; rfl))
    clear qc0 hlz
    have Hx18 := hid qb12
    have zu13_12 := hm.size
    have HMu13_12 := hid hm
    have Cx19 := hid (Mod.goS (S' := (fun k => (New u1_2 u2_0 k) ∨ (New u2_0 u3_1 k))) Cx17.out hm (fun _ h => h) (by intro k h0 h2; omega))
    clear hm Cx17
    clear act E qb12 Hx16
    refine QSeq.pure rfl _ (fun E => ex_assign rfl (E.d 10 2)) ?_
    have Hx20 := hid ((Hx14.out.mod HMu13_11.out (fun _ _ h => h)).mod HMu13_12.out (by intro k h1 h2; omega))
    have Hx21 := hid ((Hx13.out.mod HMu13_11.out (fun _ _ h => h)).mod HMu13_12.out (by intro k h1 h2; omega))
    clear Hx14 Hx13 HMu13_7 HMu13_11 HMu13_12
    refine QSeq.nil (t' := [_, _, _, _, _, _, _, _, _, _, _, _, _, _]) rfl ?_
    obtain rfl := HA0.out
    clear HA0 oe6 oe7 oe11
    simp only [pz, Act.put, List.setIfInBounds_toArray, List.set_cons_zero, List.set_cons_succ, List.set_nil]
    have htm := HYFa.out.tm
    go_upto_region 14 with (fail)
    refine wp_region_U 126 [55, 56] [0, 1] (fun a0 HA0 => ?_)
    have oe13 := ev HA0 13 rfl
    refine QSeq.pure rfl _ (fun E => ex_move rfl (E.v oe13)) ?_
    refine QSeq.pure rfl (.bool true) (fun E => ex_binE rfl (E.d 0 0) rfl (guard_ints _ _ _ _ _ _) (run_eql_i _ _ _ Try.underlying40) (congrArg Value.bool (show _ = true from rfl))) ?_
    refine QSeq.nil (t' := [_, _]) rfl ?_
    obtain rfl := HA0.out
    clear HA0 oe13
    simp only [pz, Act.put, List.setIfInBounds_toArray, List.set_cons_zero, List.set_cons_succ]
    go_upto_region 15 with (fail)
    refine wp_region_U 126 [57, 58, 59, 60, 61, 62, 63, 64, 65, 66, 67, 68, 69, 70, 71] [0, 1, 2, 3, 4, 5, 6, 7, 8, 9, 10, 11, 12, 13, 14] (fun a0 HA0 => ?_)
    have oe9 := ev HA0 9 rfl
    have oe10 := ev HA0 10 rfl
    have oe11 := ev HA0 11 rfl
    have oe12 := ev HA0 12 rfl
    refine QSeq.pure rfl (.pointer (some ⟨u13_7.heap.size, 35, none⟩)) (fun E => ex_field rfl Try.underlying47 rfl (by kernel_rfl) (E.v oe12)) ?_
    refine QSeq.pure rfl _ (fun E => ex_load1 rfl Try.underlying45 rfl (E.d 0 0) (Cs.post1 (m := 32) (k := 0) Hx18.out (by rw [List.length_map]; exact HYFa.out.ok.h.1) rfl rfl)) ?_
    refine QSeq.pure rfl _ (fun E => ex_move rfl (E.v oe10)) ?_
    refine QSeq.pure rfl (.bool false) (fun E => ex_binE rfl (E.d 1 1) (E.d 2 0) (guard_ints _ _ _ _ _ _) (run_leq_i _ _ _ Try.underlying45) (congrArg Value.bool (decide_eq_false (by omega)))) ?_
    refine QSeq.pure rfl _ (fun E => ex_move rfl (E.d 3 0)) ?_
    refine QSeq.pureG rfl (.pointer (some ⟨u13_7.heap.size, 35, none⟩)) (fun E => ((wanted_of rfl rfl (E.sz 61 (by decide)) (E.d 4 0)).trans rfl)) (fun E => ex_field rfl Try.underlying47 rfl (by kernel_rfl) (E.v oe12)) ?_
    refine QSeq.pureG rfl (.int .u64 (ya.tm : Nat)) (fun E => ((wanted_of rfl rfl (E.sz 61 (by decide)) (E.d 4 1)).trans rfl)) (fun E => ex_load1 rfl Try.underlying45 rfl (E.d 5 0) (Cs.post1 (m := 32) (k := 0) Hx18.out (by rw [List.length_map]; exact HYFa.out.ok.h.1) rfl rfl)) ?_
    refine QSeq.pureG rfl (.bool false) (fun E => ((wanted_of rfl rfl (E.sz 61 (by decide)) (E.d 4 2)).trans rfl)) (fun E => ex_binE rfl (E.d 6 0) rfl (guard_ints _ _ _ _ _ _) (run_eql_i _ _ _ Try.underlying45) (congrArg Value.bool (eq_ff (by omega)))) ?_
    refine QSeq.pure rfl (.bool false) (fun E => ex_pick rfl (E.d 4 3) rfl (E.d 7 0)) ?_
    refine QSeq.pure rfl _ (fun E => ex_move rfl (E.d 8 0)) ?_
    refine QSeq.pureG rfl (.int .i64 ((gd : Nat) : Int)) (fun E => ((wanted_of rfl rfl (E.sz 66 (by decide)) (E.d 9 0)).trans rfl)) (fun E => ex_move rfl (E.v oe9)) ?_
    refine QSeq.pureG rfl (.int .i64 ((j + 1 : Nat) : Int)) (fun E => ((wanted_of rfl rfl (E.sz 66 (by decide)) (E.d 9 1)).trans rfl)) (fun E => ex_move rfl (E.v oe11)) ?_
    refine QSeq.pureG rfl (.int .i64 ((j : Nat) : Int)) (fun E => ((wanted_of rfl rfl (E.sz 66 (by decide)) (E.d 9 2)).trans rfl)) (fun E => ex_binE rfl (E.d 11 0) rfl (guard_ints _ _ _ _ _ _) (run_sub_i _ _ Try.underlying3) (congrArg (Value.int .i64) (i64_eq (b := ((j : Nat) : Int)) (by omega) (by omega) (by omega)))) ?_
    refine QSeq.pureG rfl (.bool false) (fun E => ((wanted_of rfl rfl (E.sz 66 (by decide)) (E.d 9 3)).trans rfl)) (fun E => ex_binE rfl (E.d 10 2) (E.d 12 0) (guard_ints _ _ _ _ _ _) (run_neq_i _ _ _ Try.underlying3) (congrArg Value.bool (ne_ff (by omega)))) ?_
    refine QSeq.pure rfl (.bool false) (fun E => ex_pick rfl (E.d 9 4) rfl (E.d 13 0)) ?_
    refine QSeq.nil (t' := [_, _, _, _, _, _, _, _, _, _, _, _, _, _, _]) rfl ?_
    obtain rfl := HA0.out
    clear HA0 oe9 oe10 oe11 oe12
    simp only [pz, Act.put, List.setIfInBounds_toArray, List.set_cons_zero, List.set_cons_succ]
    go_upto_region 17 with (fail)
    refine wp_region_U 126 [72, 73, 10] [0, 1, 2] (fun a0 HA0 => ?_)
    have oe12 := ev HA0 12 rfl
    refine QSeq.pure rfl (.pointer (some ⟨u13_7.heap.size, 35, none⟩)) (fun E => ex_field rfl Try.underlying47 rfl (by kernel_rfl) (E.v oe12)) ?_
    refine QSeq.pure rfl _ (fun E => ex_load1 rfl Try.underlying45 rfl (E.d 0 0) (Cs.post1 (m := 32) (k := 0) Hx18.out (by rw [List.length_map]; exact HYFa.out.ok.h.1) rfl rfl)) ?_
    refine QSeq.pure rfl _ (fun E => ex_assign rfl (E.d 1 0)) ?_
    refine QSeq.nil (t' := [_, _, _]) rfl ?_
    obtain rfl := HA0.out
    clear HA0 oe12
    simp only [pz, Act.put, List.setIfInBounds_toArray, List.set_cons_zero, List.set_cons_succ]
    go_upto_region 18 with (fail)
    refine wp_region_U 126 [74, 75, 9] [0, 1, 2] (fun a0 HA0 => ?_)
    have oe9 := ev HA0 9 rfl
    refine QSeq.pure rfl _ (fun E => ex_move rfl (E.y 2 oe9)) ?_
    refine QSeq.pure rfl (.int .i64 (((gd + 1) : Nat) : Int)) (fun E => ex_binE rfl (E.d 0 0) rfl (guard_ints _ _ _ _ _ _) (run_add_i _ _ Try.underlying3) (congrArg (Value.int .i64) (i64_eq (b := (((gd + 1) : Nat) : Int)) (by omega) (by omega) (by omega)))) ?_
    refine QSeq.pure rfl _ (fun E => ex_assign rfl (E.d 1 0)) ?_
    refine QSeq.nil (t' := [_, _, _]) rfl ?_
    obtain rfl := HA0.out
    clear HA0 oe9
    simp only [pz, Act.put, List.setIfInBounds_toArray, List.set_cons_zero, List.set_cons_succ]
    clear Hx18
    go_upto_region 12 with (fail)
    refine wp_region_U 126 [42, 43, 11] [0, 1, 2] (fun a0 HA0 => ?_)
    have oe11 := ev HA0 11 rfl
    refine QSeq.pure rfl _ (fun E => ex_move rfl (E.y 2 oe11)) ?_
    refine QSeq.pure rfl (.int .i64 ((j + 1 + 1 : Nat) : Int)) (fun E => ex_binE rfl (E.d 0 0) rfl (guard_ints _ _ _ _ _ _) (run_add_i _ _ Try.underlying3) (congrArg (Value.int .i64) (i64_eq (b := ((j + 1 + 1 : Nat) : Int)) (by omega) (by omega) (by omega)))) ?_
    refine QSeq.pure rfl _ (fun E => ex_assign rfl (E.d 1 0)) ?_
    refine QSeq.nil (t' := [_, _, _]) rfl ?_
    obtain rfl := HA0.out
    clear HA0 oe11
    simp only [pz, Act.put, List.setIfInBounds_toArray, List.set_cons_zero, List.set_cons_succ]
    have hq := Hx21.out
    rw [show (⟨nl, 0, t, m ++ [((ca.cl, ca.sq), ya)]⟩ : SS) = ⟨nl, 0, ya.tm, m ++ [((ca.cl, ca.sq), ya)]⟩ from by rw [htm]] at hq
    have HSP2 := Lib.hid hq
    clear hq
    clear Hx21
    go_wp2
    go_roundw
    case rel => exact ⟨j + 1, gd + 1, ya.tm, m ++ [((ca.cl, ca.sq), ya)], Ma, rfl, rfl, rfl, by omega, by omega, (by split <;> omega), by have := HYFa.out.ln; have := HMDa.out.ln; omega, by rw [List.length_append, hml]; rfl, (fun q hq => by rcases List.mem_append.1 hq with hq | hq; (have := Kkm.out q hq; omega); (simp at hq; subst hq; show ca.sq ≤ _; rw [HMDa.out.sq]; omega)), by omega, HSP2.out, Hx20.out, (Km.out.trans Cx19.out (by intro k h1 h2; omega))⟩
    case measure => simp [intOf]; omega
   ·obtain ⟨t, ht⟩ : ∃ t, t = nl + l := ⟨_, rfl⟩
    go_upto_region 13 with (fail)
    refine wp_region_U 126 [45, 46, 47, 48, 49, 50, 51, 52, 44, 53, 54, 12, 138, 13] [0, 1, 2, 3, 4, 5, 6, 7, 8, 9, 10, 11, 12, 13] (fun a0 HA0 => ?_)
    have oe6 := ev HA0 6 rfl
    have oe7 := ev HA0 7 rfl
    have oe11 := ev HA0 11 rfl
    refine QSeq.pure rfl _ (fun E => ex_move rfl (E.v oe7)) ?_
    refine QSeq.pure rfl _ (fun E => ex_move rfl (E.v oe6)) ?_
    refine QSeq.pure rfl _ (fun E => ex_move rfl (E.v oe6)) ?_
    refine QSeq.pure rfl _ (fun E => ex_move rfl (E.v oe11)) ?_
    refine QSeq.go fun act E => ?_
    refine qc_run rfl (wanted_none rfl) (v := .agg #[.int .i64 0, .int .i64 ((j + 1 : Nat) : Int)]) (ex_build rfl (z := [.int .i64 0, .int .i64 0]) (places := [(0, 1), (1, 1)]) (by kernel_rfl) (parts := [(1, .int .i64 ((j + 1 : Nat) : Int))]) (by simp only [List.map_toArray, List.map_cons, List.map_nil, show act.eval (.tmp 48) = .int .i64 ((j + 1 : Nat) : Int) from (E.d 3 0)]; try rfl) (r := [.int .i64 0, .int .i64 ((j + 1 : Nat) : Int)]) (by rfl)) ?_
    clear act E
    refine QSeq.pure rfl (hv z32) (fun E => ex_build0 rfl (r := ((z32.map bv) : List Value).toArray) (by kernel_rfl)) ?_
    refine QSeq.call rfl rfl Try.func10 (Make_B Kb.out (by omega) 1 0 ((j + 1 : Nat) : Int) [] (by decide) (by decide) (by omega) (RdR_nil _) (by decide)) (fun E => args4 (E.d 2 3) (E.d 4 1) (E.d 5 0) rfl) ?_
    rintro e u13_6 ⟨ca, La, rfl, qbk, hmd, hm⟩
    have HMDa := Lib.hid hmd
    clear hmd
    refine ⟨_, rfl, ?_⟩
    have Hx22 := hid qbk
    have zu13_6 := hm.size
    have Cx23 := hid (show Mod (fun k => (New u1_2 u2_0 k)) wl u13_6 from hm)
    clear hm
    clear qbk Kb
    refine QSeq.call rfl rfl Try.func14 (Stamp_end (t := t) (Ks.out.mod Cx23.out (by intro k h1 h2; omega)) Hx22.out (by intro k h1; omega) (by intro k h1; omega) (by intro k h1 h2; omega) HMDa.out.ok HMDa.out.si HMDa.out.rt (mlook_far Kkm.out (by rw [HMDa.out.sq]; omega)) (by (try dsimp only); omega) (by omega)) (fun E => args3 (E.d 0 6) (E.d 1 5) (E.d 6 0)) ?_
    rintro e u13_7 ⟨rfl, qsp, qbk, hm⟩
    refine ⟨_, rfl, ?_⟩
    have Hx24 := hid qsp
    have Hx25 := hid qbk
    have zu13_7 := hm.size
    have HMu13_7 := hid hm
    have Cx26 := hid (Cx23.out.goE hm)
    clear hm Cx23
    clear qsp qbk Ks Hx22
    refine QSeq.pure rfl _ (fun E => ex_move rfl (E.d 7 0)) ?_
    refine QSeq.pure rfl (.agg zSt.cells.toArray) (fun E => ex_extract rfl (E.d 8 0) rfl) ?_
    refine QSeq.pure rfl (.int .i64 4) (fun E => ex_extract rfl (E.d 8 1) rfl) ?_
    refine QSeq.go fun act E => ?_
    refine qc_alloc rfl (wanted_none rfl) rfl (z := [.int .i64 0, .int .i64 0, .int .i64 0, .int .u8 0, .int .u8 0, .int .u8 0, .int .u8 0, .int .u8 0, .int .u8 0, .int .u8 0, .int .u8 0, .int .u8 0, .int .u8 0, .int .u8 0, .int .u8 0, .int .u8 0, .int .u8 0, .int .u8 0, .int .u8 0, .int .u8 0, .int .u8 0, .int .u8 0, .int .u8 0, .int .u8 0, .int .u8 0, .int .u8 0, .int .u8 0, .int .u8 0, .int .u8 0, .int .u8 0, .int .u8 0, .int .u8 0, .int .u8 0, .int .u8 0, .int .u8 0, .int .u64 0, .int .i64 0, .int .i64 0]) (by kernel_rfl) ?_
    intro u13_11 qb12 hm
    have zl13_11 := qb12.lt
    have Hx27 := hid qb12
    have zu13_11 := hm.size
    have HMu13_11 := hid hm
    have Cx28 := hid (Cx26.out.goE hm)
    clear hm Cx26
    clear act E qb12
    refine QSeq.go fun act E => ?_
    have hlz : (zSt.cells).length = List.length ([.int .i64 0, .int .i64 0, .int .i64 0, .int .u8 0, .int .u8 0, .int .u8 0, .int .u8 0, .int .u8 0, .int .u8 0, .int .u8 0, .int .u8 0, .int .u8 0, .int .u8 0, .int .u8 0, .int .u8 0, .int .u8 0, .int .u8 0, .int .u8 0, .int .u8 0, .int .u8 0, .int .u8 0, .int .u8 0, .int .u8 0, .int .u8 0, .int .u8 0, .int .u8 0, .int .u8 0, .int .u8 0, .int .u8 0, .int .u8 0, .int .u8 0, .int .u8 0, .int .u8 0, .int .u8 0, .int .u8 0, .int .u64 0, .int .i64 0, .int .i64 0] : List Value) := (by rw [St.len zSt_ok]; rfl)
    refine qc_store rfl (wanted_none rfl) rfl Hx27.out (off := 0) (vs := zSt.cells) (by rw [hlz]; kernel_rfl) (St.one zSt) (by rw [hlz]; exact Nat.le_of_eq (Nat.zero_add _)) (E.d 11 0) (ec (E.d 9 2)) ?_
    intro u13_12 qc0 hm
    have qb12 := qc0.eqv (b := (zSt.cells : List Value).toArray) (lay_whole (#[.int .i64 0, .int .i64 0, .int .i64 0, .int .u8 0, .int .u8 0, .int .u8 0, .int .u8 0, .int .u8 0, .int .u8 0, .int .u8 0, .int .u8 0, .int .u8 0, .int .u8 0, .int .u8 0, .int .u8 0, .int .u8 0, .int .u8 0, .int .u8 0, .int .u8 0, .int .u8 0, .int .u8 0, .int .u8 0, .int .u8 0, .int .u8 0, .int .u8 0, .int .u8 0, .int .u8 0, .int .u8 0, .int .u8 0, .int .u8 0, .int .u8 0, .int .u8 0, .int .u8 0, .int .u8 0, .int .u8 0, .int .u64 0, .int .i64 0, .int .i64 0]) _ (by rw [hlz]; rfl))
    clear qc0 hlz
    have Hx29 := hid qb12
    have zu13_12 := hm.size
    have HMu13_12 := hid hm
    have Cx30 := hid (Mod.goS (S' := (fun k => (New u1_2 u2_0 k))) Cx28.out hm (fun _ h => h) (by intro k h0 h2; omega))
    clear hm Cx28
    clear act E qb12 Hx27
    refine QSeq.pure rfl _ (fun E => ex_assign rfl (E.d 10 2)) ?_
    have Hx31 := hid ((Hx25.out.mod HMu13_11.out (fun _ _ h => h)).mod HMu13_12.out (by intro k h1 h2; omega))
    have Hx32 := hid ((Hx24.out.mod HMu13_11.out (fun _ _ h => h)).mod HMu13_12.out (by intro k h1 h2; omega))
    clear Hx25 Hx24 HMu13_7 HMu13_11 HMu13_12
    refine QSeq.nil (t' := [_, _, _, _, _, _, _, _, _, _, _, _, _, _]) rfl ?_
    obtain rfl := HA0.out
    clear HA0 oe6 oe7 oe11
    simp only [pz, Act.put, List.setIfInBounds_toArray, List.set_cons_zero, List.set_cons_succ, List.set_nil]
    go_upto_region 14 with (fail)
    refine wp_region_U 126 [55, 56] [0, 1] (fun a0 HA0 => ?_)
    have oe13 := ev HA0 13 rfl
    refine QSeq.pure rfl _ (fun E => ex_move rfl (E.v oe13)) ?_
    refine QSeq.pure rfl (.bool false) (fun E => ex_binE rfl (E.d 0 0) rfl (guard_ints _ _ _ _ _ _) (run_eql_i _ _ _ Try.underlying40) (congrArg Value.bool (show _ = false from rfl))) ?_
    refine QSeq.nil (t' := [_, _]) rfl ?_
    obtain rfl := HA0.out
    clear HA0 oe13
    simp only [pz, Act.put, List.setIfInBounds_toArray, List.set_cons_zero, List.set_cons_succ]
    go_upto_region 19 with (fail)
    refine wp_region_U 126 [76, 77, 78, 79, 80, 81, 82] [0, 1, 2, 3, 4, 5, 6] (fun a0 HA0 => ?_)
    have oe12 := ev HA0 12 rfl
    have oe13 := ev HA0 13 rfl
    refine QSeq.pure rfl _ (fun E => ex_move rfl (E.v oe13)) ?_
    refine QSeq.pure rfl (.bool false) (fun E => ex_binE rfl (E.d 0 0) rfl (guard_ints _ _ _ _ _ _) (run_neq_i _ _ _ Try.underlying40) (congrArg Value.bool (show _ = false from rfl))) ?_
    refine QSeq.pure rfl _ (fun E => ex_move rfl (E.d 1 0)) ?_
    refine QSeq.pureG rfl (zSt.val) (fun E => ((wanted_of rfl rfl (E.sz 78 (by decide)) (E.d 2 0)).trans rfl)) (fun E => ex_loadA rfl Try.underlying47 rfl (off := 0) (cs := zSt.cells) (by rw [St.len zSt_ok]; exact size_stamp) (E.v oe12) (Cs.whole Hx29.out)) ?_
    refine QSeq.pureG rfl (.agg (zSt.cells : List Value).toArray) (fun E => ((wanted_of rfl rfl (E.sz 78 (by decide)) (E.d 2 1)).trans rfl)) (fun E => ex_build0 rfl (r := (zSt.cells : List Value).toArray) (by kernel_rfl)) ?_
    refine QSeq.pureG rfl (.bool false) (fun E => ((wanted_of rfl rfl (E.sz 78 (by decide)) (E.d 2 2)).trans rfl)) (fun E => ex_binE rfl (E.d 3 1) (E.d 4 0) (agg_guardE _ _ _ _ _ _ (by kernel_rfl) _) (EqW.runN eqW_stamp (ki_st zSt_ok) (ki_st zSt_ok) (c := true) (by simp) _) rfl) ?_
    refine QSeq.pure rfl (.bool false) (fun E => ex_pick rfl (E.d 2 3) rfl (E.d 5 0)) ?_
    refine QSeq.nil (t' := [_, _, _, _, _, _, _]) rfl ?_
    obtain rfl := HA0.out
    clear HA0 oe12 oe13
    simp only [pz, Act.put, List.setIfInBounds_toArray, List.set_cons_zero, List.set_cons_succ]
    clear Hx29
    go_upto_region 12 with (fail)
    refine wp_region_U 126 [42, 43, 11] [0, 1, 2] (fun a0 HA0 => ?_)
    have oe11 := ev HA0 11 rfl
    refine QSeq.pure rfl _ (fun E => ex_move rfl (E.y 2 oe11)) ?_
    refine QSeq.pure rfl (.int .i64 ((j + 1 + 1 : Nat) : Int)) (fun E => ex_binE rfl (E.d 0 0) rfl (guard_ints _ _ _ _ _ _) (run_add_i _ _ Try.underlying3) (congrArg (Value.int .i64) (i64_eq (b := ((j + 1 + 1 : Nat) : Int)) (by omega) (by omega) (by omega)))) ?_
    refine QSeq.pure rfl _ (fun E => ex_assign rfl (E.d 1 0)) ?_
    refine QSeq.nil (t' := [_, _, _]) rfl ?_
    obtain rfl := HA0.out
    clear HA0 oe11
    simp only [pz, Act.put, List.setIfInBounds_toArray, List.set_cons_zero, List.set_cons_succ]
    go_wp2
    go_roundw
    case rel => exact ⟨j + 1, gd, la, m, La, rfl, rfl, rfl, by omega, by omega, (by split <;> omega), by have := HMDa.out.ln; omega, hml, (fun q hq => by have := Kkm.out q hq; omega), by omega, Hx32.out, Hx31.out, (Km.out.trans Cx30.out (by intro k h1 h2; omega))⟩
    case measure => simp [intOf]; omega
  ·obtain rfl : j = 6 := by omega
   have hgl : gd = l := by omega
   go_upto_region 11 with (fail)
   refine wp_region_U 126 [40, 41] [0, 1] (fun a0 HA0 => ?_)
   have oe11 := ev HA0 11 rfl
   refine QSeq.pure rfl _ (fun E => ex_move rfl (E.v oe11)) ?_
   refine QSeq.pure rfl (.bool false) (fun E => ex_binE rfl (E.d 0 0) rfl (guard_ints _ _ _ _ _ _) (run_leq_i _ _ _ Try.underlying3) (congrArg Value.bool (decide_eq_false (by omega)))) ?_
   refine QSeq.nil (t' := [_, _]) rfl ?_
   obtain rfl := HA0.out
   clear HA0 oe11
   simp only [pz, Act.put, List.setIfInBounds_toArray, List.set_cons_zero, List.set_cons_succ]
   obtain ⟨kk, hkk⟩ : ∃ m : Nat, within a1 99 = m := ⟨(within a1 99).toNat, by have := within_range a1 99 (by decide); omega⟩
   have hkl := within_range a1 99 (by decide)
   have HW := hid (Within_any a1 99 (by decide) (by decide) HA1.out)
   rw [hkk] at HW hkl
   obtain ⟨k9, hk9⟩ : ∃ x, x = kk + 9 := ⟨_, rfl⟩
   obtain ⟨un, hun⟩ : ∃ x, x = U64 - 1 := ⟨_, rfl⟩
   clear hkk
   go_upto_region 21 with (fail)
   refine wp_region_U 126 [83, 84, 85, 86, 87, 88] [0, 1, 2, 3, 4, 5] (fun a0 HA0 => ?_)
   have oe1 := ev HA0 1 rfl
   have oe7 := ev HA0 7 rfl
   refine QSeq.pure rfl _ (fun E => ex_move rfl (E.v oe7)) ?_
   refine QSeq.pure rfl _ (fun E => ex_move rfl (E.v oe1)) ?_
   refine QSeq.go fun act E => ?_
   refine qc_callF (args := #[.int .i64 a1, .int .i64 99]) rfl (wanted_none rfl) rfl Try.func8 (args2 (E.d 1 0) rfl) (HW.out _) ?_
   rintro e w2 ⟨rfl, hw2⟩
   obtain rfl : wl = w2 := by first | exact hw2 | exact hw2.symm
   refine ⟨_, rfl, ?_⟩
   clear act E
   refine QSeq.pure rfl (.int .u64 ((kk : Nat) : Int)) (fun E => ex_convIE rfl (by kernel_rfl) Try.underlying45 (E.d 2 0) (u64_eq (b := ((kk : Nat) : Int)) (by omega) (by omega) (by omega))) ?_
   refine QSeq.pure rfl (.int .u64 ((k9 : Nat) : Int)) (fun E => ex_binE rfl (E.d 3 0) rfl (guard_ints _ _ _ _ _ _) (run_add_i _ _ Try.underlying45) (congrArg (Value.int .u64) (u64_eq (b := ((k9 : Nat) : Int)) (by omega) (by omega) (by omega)))) ?_
   refine QSeq.call rfl rfl Try.func13 (Tick_Q (n := k9) Ks.out (by intro k h1; omega) (by omega)) (fun E => args2 (E.d 0 4) (E.d 4 0)) ?_
   rintro e u21_5 ⟨rfl, qsp, hm⟩
   refine ⟨_, rfl, ?_⟩
   have Hx33 := hid qsp
   have zu21_5 := hm.size
   have Cx34 := hid (show Mod (fun k => (New u2_0 u3_1 k)) wl u21_5 from hm)
   clear hm
   clear qsp Ks
   refine QSeq.nil (t' := [_, _, _, _, _, _]) rfl ?_
   obtain rfl := HA0.out
   clear HA0 oe1 oe7
   simp only [pz, Act.put, List.setIfInBounds_toArray, List.set_cons_zero, List.set_cons_succ]
   have hq := Hx33.out
   rw [show tickS ⟨nl, 0, la, m⟩ k9 = ⟨un, 0, la, m⟩ from by unfold tickS; simp only [SS.mk.injEq, and_true]; omega] at hq
   have HSP3 := Lib.hid hq
   clear hq
   clear Hx33
   go_upto_region 22 with (fail)
   refine wp_region_U 126 [90, 91, 92, 93, 94, 95, 96, 89, 97, 98, 14, 137, 15] [0, 1, 2, 3, 4, 5, 6, 7, 8, 9, 10, 11, 12] (fun a0 HA0 => ?_)
   have oe6 := ev HA0 6 rfl
   have oe7 := ev HA0 7 rfl
   refine QSeq.pure rfl _ (fun E => ex_move rfl (E.v oe7)) ?_
   refine QSeq.pure rfl _ (fun E => ex_move rfl (E.v oe6)) ?_
   refine QSeq.pure rfl _ (fun E => ex_move rfl (E.v oe6)) ?_
   refine QSeq.pure rfl (.agg #[.int .i64 0, .int .i64 9]) (fun E => ex_build rfl (z := [.int .i64 0, .int .i64 0]) (places := [(0, 1), (1, 1)]) (by kernel_rfl) (parts := [(1, .int .i64 9)]) (by simp only [List.map_toArray, List.map_cons, List.map_nil]; try rfl) (r := [.int .i64 0, .int .i64 9]) (by rfl)) ?_
   refine QSeq.pure rfl (hv z32) (fun E => ex_build0 rfl (r := ((z32.map bv) : List Value).toArray) (by kernel_rfl)) ?_
   refine QSeq.call rfl rfl Try.func10 (Make_B (Kb.out.mod Cx34.out (by intro k h1 h2; omega)) (by omega) 1 0 9 [] (by decide) (by decide) (by decide) (RdR_nil _) (by decide)) (fun E => args4 (E.d 2 2) (E.d 3 1) (E.d 4 0) rfl) ?_
   rintro e u22_5 ⟨cz, Lz, rfl, qbk, hmd, hm⟩
   have HMDz := Lib.hid hmd
   clear hmd
   refine ⟨_, rfl, ?_⟩
   have Hx35 := hid qbk
   have zu22_5 := hm.size
   have Cx36 := hid (show Mod (fun k => (New u1_2 u2_0 k)) u21_5 u22_5 from hm)
   clear hm
   clear qbk Kb
   refine QSeq.call rfl rfl Try.func14 (Stamp_end (t := un) (HSP3.out.mod Cx36.out (by intro k h1 h2; omega)) Hx35.out (by intro k h1; omega) (by intro k h1; omega) (by intro k h1 h2; omega) HMDz.out.ok HMDz.out.si HMDz.out.rt (mlook_far Kkm.out (by rw [HMDz.out.sq]; show ((6 : Nat) : Int) < 9; decide)) (by (try dsimp only); omega) (by omega)) (fun E => args3 (E.d 0 5) (E.d 1 4) (E.d 5 0)) ?_
   rintro e u22_6 ⟨rfl, qsp, qbk, hm⟩
   refine ⟨_, rfl, ?_⟩
   have Hx37 := hid qsp
   have Hx38 := hid qbk
   have zu22_6 := hm.size
   have HMu22_6 := hid hm
   have Cx39 := hid (Cx36.out.goE hm)
   clear hm Cx36
   clear qsp qbk HSP3 Hx35
   refine QSeq.pure rfl _ (fun E => ex_move rfl (E.d 6 0)) ?_
   refine QSeq.pure rfl (.agg zSt.cells.toArray) (fun E => ex_extract rfl (E.d 7 0) rfl) ?_
   refine QSeq.pure rfl (.int .i64 4) (fun E => ex_extract rfl (E.d 7 1) rfl) ?_
   refine QSeq.go fun act E => ?_
   refine qc_alloc rfl (wanted_none rfl) rfl (z := [.int .i64 0, .int .i64 0, .int .i64 0, .int .u8 0, .int .u8 0, .int .u8 0, .int .u8 0, .int .u8 0, .int .u8 0, .int .u8 0, .int .u8 0, .int .u8 0, .int .u8 0, .int .u8 0, .int .u8 0, .int .u8 0, .int .u8 0, .int .u8 0, .int .u8 0, .int .u8 0, .int .u8 0, .int .u8 0, .int .u8 0, .int .u8 0, .int .u8 0, .int .u8 0, .int .u8 0, .int .u8 0, .int .u8 0, .int .u8 0, .int .u8 0, .int .u8 0, .int .u8 0, .int .u8 0, .int .u8 0, .int .u64 0, .int .i64 0, .int .i64 0]) (by kernel_rfl) ?_
   intro u22_10 qb14 hm
   have zl22_10 := qb14.lt
   have Hx40 := hid qb14
   have zu22_10 := hm.size
   have HMu22_10 := hid hm
   have Cx41 := hid (Cx39.out.goE hm)
   clear hm Cx39
   clear act E qb14
   refine QSeq.go fun act E => ?_
   have hlz : (zSt.cells).length = List.length ([.int .i64 0, .int .i64 0, .int .i64 0, .int .u8 0, .int .u8 0, .int .u8 0, .int .u8 0, .int .u8 0, .int .u8 0, .int .u8 0, .int .u8 0, .int .u8 0, .int .u8 0, .int .u8 0, .int .u8 0, .int .u8 0, .int .u8 0, .int .u8 0, .int .u8 0, .int .u8 0, .int .u8 0, .int .u8 0, .int .u8 0, .int .u8 0, .int .u8 0, .int .u8 0, .int .u8 0, .int .u8 0, .int .u8 0, .int .u8 0, .int .u8 0, .int .u8 0, .int .u8 0, .int .u8 0, .int .u8 0, .int .u64 0, .int .i64 0, .int .i64 0] : List Value) := (by rw [St.len zSt_ok]; rfl)
   refine qc_store rfl (wanted_none rfl) rfl Hx40.out (off := 0) (vs := zSt.cells) (by rw [hlz]; kernel_rfl) (St.one zSt) (by rw [hlz]; exact Nat.le_of_eq (Nat.zero_add _)) (E.d 10 0) (ec (E.d 8 2)) ?_
   intro u22_11 qc0 hm
   have qb14 := qc0.eqv (b := (zSt.cells : List Value).toArray) (lay_whole (#[.int .i64 0, .int .i64 0, .int .i64 0, .int .u8 0, .int .u8 0, .int .u8 0, .int .u8 0, .int .u8 0, .int .u8 0, .int .u8 0, .int .u8 0, .int .u8 0, .int .u8 0, .int .u8 0, .int .u8 0, .int .u8 0, .int .u8 0, .int .u8 0, .int .u8 0, .int .u8 0, .int .u8 0, .int .u8 0, .int .u8 0, .int .u8 0, .int .u8 0, .int .u8 0, .int .u8 0, .int .u8 0, .int .u8 0, .int .u8 0, .int .u8 0, .int .u8 0, .int .u8 0, .int .u8 0, .int .u8 0, .int .u64 0, .int .i64 0, .int .i64 0]) _ (by rw [hlz]; rfl))
   clear qc0 hlz
   have Hx42 := hid qb14
   have zu22_11 := hm.size
   have HMu22_11 := hid hm
   have Cx43 := hid (Mod.goS (S' := (fun k => (New u1_2 u2_0 k))) Cx41.out hm (fun _ h => h) (by intro k h0 h2; omega))
   clear hm Cx41
   clear act E qb14 Hx40
   refine QSeq.pure rfl _ (fun E => ex_assign rfl (E.d 9 2)) ?_
   have Hx44 := hid ((Hx38.out.mod HMu22_10.out (fun _ _ h => h)).mod HMu22_11.out (by intro k h1 h2; omega))
   have Hx45 := hid ((Hx37.out.mod HMu22_10.out (fun _ _ h => h)).mod HMu22_11.out (by intro k h1 h2; omega))
   clear Hx38 Hx37 HMu22_6 HMu22_10 HMu22_11
   refine QSeq.nil (t' := [_, _, _, _, _, _, _, _, _, _, _, _, _]) rfl ?_
   obtain rfl := HA0.out
   clear HA0 oe6 oe7
   simp only [pz, Act.put, List.setIfInBounds_toArray, List.set_cons_zero, List.set_cons_succ, List.set_nil]
   clear Hx42
   go_upto_region 23 with (fail)
   refine wp_region_U 126 [99, 100, 101, 102, 103, 104, 105, 106, 107, 108, 109, 110, 111, 112, 113, 114, 115, 116, 117, 118, 119, 120, 121, 122, 123, 124, 125, 4] [0, 1, 2, 3, 4, 5, 6, 7, 8, 9, 10, 11, 12, 13, 14, 15, 16, 17, 18, 19, 20, 21, 22, 23, 24, 25, 26, 27] (fun a0 HA0 => ?_)
   have oe0 := ev HA0 0 rfl
   have oe7 := ev HA0 7 rfl
   have oe9 := ev HA0 9 rfl
   have oe15 := ev HA0 15 rfl
   refine QSeq.pure rfl _ (fun E => ex_move rfl (E.v oe9)) ?_
   refine QSeq.pure rfl _ (fun E => ex_move rfl (E.v oe0)) ?_
   refine QSeq.pure rfl (.int .i64 ((l : Nat) : Int)) (fun E => ex_convIE rfl (by kernel_rfl) Try.underlying3 (E.d 1 0) (i64_eq (b := ((l : Nat) : Int)) (by omega) (by omega) (by omega))) ?_
   refine QSeq.pure rfl (.bool true) (fun E => ex_binE rfl (E.d 0 2) (E.d 2 0) (guard_ints _ _ _ _ _ _) (run_eql_i _ _ _ Try.underlying3) (congrArg Value.bool (eq_tt (by omega)))) ?_
   refine QSeq.pure rfl _ (fun E => ex_move rfl (E.d 3 0)) ?_
   refine QSeq.pureG rfl (.pointer (some ⟨p, 0, none⟩)) (fun E => ((wanted_of rfl rfl (E.sz 103 (by decide)) (E.d 4 0)).trans rfl)) (fun E => ex_move rfl (E.v oe7)) ?_
   refine QSeq.go fun act E => ?_
   refine qc_callF (args := #[.pointer (some ⟨p, 0, none⟩)]) rfl ((wanted_of rfl rfl (E.sz 103 (by decide)) (E.d 4 1)).trans rfl) rfl Try.func17 (args1 (E.d 5 0)) (SLen_Q Hx45.out) ?_
   rintro e w2 ⟨rfl, hw2⟩
   obtain rfl : u22_11 = w2 := by first | exact hw2 | exact hw2.symm
   refine ⟨_, rfl, ?_⟩
   clear act E
   refine QSeq.pureG rfl (.int .i64 ((gd : Nat) : Int)) (fun E => ((wanted_of rfl rfl (E.sz 103 (by decide)) (E.d 4 2)).trans rfl)) (fun E => ex_move rfl (E.v oe9)) ?_
   refine QSeq.pureG rfl (.bool true) (fun E => ((wanted_of rfl rfl (E.sz 103 (by decide)) (E.d 4 3)).trans rfl)) (fun E => ex_binE rfl (E.d 6 1) (E.d 7 0) (guard_ints _ _ _ _ _ _) (run_eql_i _ _ _ Try.underlying3) (congrArg Value.bool (eq_tt (show ((m.length : Nat) : Int) = ((gd : Nat) : Int) by omega)))) ?_
   refine QSeq.pure rfl (.bool true) (fun E => ex_pick rfl (E.d 4 4) (E.d 8 0) rfl) ?_
   refine QSeq.pure rfl _ (fun E => ex_move rfl (E.d 9 0)) ?_
   refine QSeq.pureG rfl (.pointer (some ⟨p, 0, none⟩)) (fun E => ((wanted_of rfl rfl (E.sz 109 (by decide)) (E.d 10 0)).trans rfl)) (fun E => ex_move rfl (E.v oe7)) ?_
   refine QSeq.go fun act E => ?_
   refine qc_callF (args := #[.pointer (some ⟨p, 0, none⟩)]) rfl ((wanted_of rfl rfl (E.sz 109 (by decide)) (E.d 10 1)).trans rfl) rfl Try.func19 (args1 (E.d 11 0)) (Now_Q Hx45.out) ?_
   rintro e w2 ⟨rfl, hw2⟩
   obtain rfl : u22_11 = w2 := by first | exact hw2 | exact hw2.symm
   refine ⟨_, rfl, ?_⟩
   clear act E
   refine QSeq.pureG rfl (.bool true) (fun E => ((wanted_of rfl rfl (E.sz 109 (by decide)) (E.d 10 2)).trans rfl)) (fun E => ex_binE rfl (E.d 12 0) rfl (guard_ints _ _ _ _ _ _) (run_eql_i _ _ _ Try.underlying45) (congrArg Value.bool (eq_tt (show ((un : Nat) : Int) = 18446744073709551615 by omega)))) ?_
   refine QSeq.pure rfl (.bool true) (fun E => ex_pick rfl (E.d 10 3) (E.d 13 0) rfl) ?_
   refine QSeq.pure rfl _ (fun E => ex_move rfl (E.d 14 0)) ?_
   refine QSeq.pureG rfl (.int .i64 4) (fun E => ((wanted_of rfl rfl (E.sz 114 (by decide)) (E.d 15 0)).trans rfl)) (fun E => ex_move rfl (E.v oe15)) ?_
   refine QSeq.pureG rfl (.bool true) (fun E => ((wanted_of rfl rfl (E.sz 114 (by decide)) (E.d 15 1)).trans rfl)) (fun E => ex_binE rfl (E.d 16 0) rfl (guard_ints _ _ _ _ _ _) (run_eql_i _ _ _ Try.underlying40) (congrArg Value.bool (show _ = true from rfl))) ?_
   refine QSeq.pure rfl (.bool true) (fun E => ex_pick rfl (E.d 15 2) (E.d 17 0) rfl) ?_
   refine QSeq.pure rfl _ (fun E => ex_move rfl (E.d 18 0)) ?_
   refine QSeq.pureG rfl (.pointer (some ⟨p, 0, none⟩)) (fun E => ((wanted_of rfl rfl (E.sz 118 (by decide)) (E.d 19 0)).trans rfl)) (fun E => ex_move rfl (E.v oe7)) ?_
   refine QSeq.go fun act E => ?_
   refine qc_callF (args := #[.pointer (some ⟨p, 0, none⟩), .int .u64 18446744073709551615]) rfl ((wanted_of rfl rfl (E.sz 118 (by decide)) (E.d 19 1)).trans rfl) rfl Try.func15 (args2 (E.d 20 0) rfl) (Raise_N (n := 18446744073709551615) Hx45.out (by intro k h1; omega) rfl) ?_
   rintro e u23_21 ⟨rfl, qsp, hm⟩
   refine ⟨_, rfl, ?_⟩
   have Hx46 := hid qsp
   have zu23_21 := hm.size
   have Cx47 := hid (show Mod (fun k => (New u2_0 u3_1 k)) u22_11 u23_21 from hm)
   clear hm
   clear act E qsp Hx45
   refine QSeq.pureG rfl (.bool true) (fun E => ((wanted_of rfl rfl (E.sz 118 (by decide)) (E.d 19 2)).trans rfl)) (fun E => ex_binE rfl (E.d 21 0) rfl (guard_ints _ _ _ _ _ _) (run_eql_i _ _ _ Try.underlying40) (congrArg Value.bool (show _ = true from rfl))) ?_
   refine QSeq.pure rfl (.bool true) (fun E => ex_pick rfl (E.d 19 3) (E.d 22 0) rfl) ?_
   refine QSeq.pure rfl _ (fun E => ex_move rfl (E.d 23 0)) ?_
   refine QSeq.go fun act E => ?_
   refine qc_callF (args := #[]) rfl ((wanted_of rfl rfl (E.sz 123 (by decide)) (E.d 24 0)).trans rfl) rfl Try.func18 args0 (wakes09 _) ?_
   rintro e u23_25 ⟨rfl, hm⟩
   refine ⟨_, rfl, ?_⟩
   have zu23_25 := hm.size
   have HMu23_25 := hid hm
   have Cx48 := hid (Cx47.out.goE hm)
   clear hm Cx47
   clear act E
   refine QSeq.pure rfl (.bool true) (fun E => ex_pick rfl (E.d 24 1) (E.d 25 0) rfl) ?_
   refine QSeq.pure rfl _ (fun E => ex_assign rfl (E.d 26 0)) ?_
   have Hx49 := hid (Hx46.out.mod HMu23_25.out (fun _ _ h => h))
   clear Hx46 HMu23_25
   refine QSeq.nil (t' := [_, _, _, _, _, _, _, _, _, _, _, _, _, _, _, _, _, _, _, _, _, _, _, _, _, _, _, _]) rfl ?_
   obtain rfl := HA0.out
   clear HA0 oe0 oe7 oe9 oe15
   simp only [pz, Act.put, List.setIfInBounds_toArray, List.set_cons_zero, List.set_cons_succ]
   go_wp2
   go_ret
   exact ⟨rfl, (((Km.out.trans Cx34.out (by intro k h1 h2; omega)).trans Cx43.out (by intro k h1 h2; omega)).trans Cx48.out (by intro k h1 h2; omega))⟩
end Go.Proofs.Ytbifincepglilaa

namespace Go.Proofs.Ytbifincepglilaa.stampEnd
open Go Go.RowKit Go.Gv Go.ChangeShapes Go.WideShapes Go.ChangeAt
open Go.ChangeMaps (open_string shut_string)

theorem own : ownKnob Try.prog.godebug = none := by kernel_rfl
theorem laidOut : laidOutB Try.prog = true := by kernel_rfl

theorem lifted (os : Os) (started : os.Started) (H : Type) (enc : TypeId × Value → H) :
    ReturnsInHanded {} Try.checked os 4 .any (Rows.stampEndSpec.pre6 enc Try.prog Try.f4 Rows.stampEndRow.domain false) (Rows.stampEndSpec.post enc Try.prog Try.f4 false true false false) := by
  refine returnsInHanded_of_change (C := Try.checked) own started (by kernel_rfl) Try.func4
    (ChangeSpec.witness6 (enc := enc) (C := Try.checked) false ⟨#[], #[.int .u64 0, .int .i64 0], []⟩ 8 (by kernel_rfl) (by kernel_rfl) (by kernel_rfl) (by kernel_rfl)) ?_
  intro W base args ds gs before hval0 hW hcnd _
  have hval : ∀ (j : Nat) t v, Try.f4.params[j]? = some t → args[j]? = some v → Value.okWide Try.prog W .any base t v := hval0
  have hW' := hW
  obtain ⟨p, q, hA0, hV, rfl, hfz, hnd⟩ := hW
  have hA : DataW.TrodAll enc Try.prog W 0 (fun _ => true) true Try.f4.params.toList args.toList ds p := hA0
  rw [Try.params4] at hA hval
  obtain ⟨v0, vs0, d0, ds0, p0, q0, hargs, rfl, rfl, h0, r0⟩ := trodAll_cons hA
  obtain ⟨v1, vs1, d1, ds1, p1, q1, rfl, rfl, rfl, h1, r1⟩ := trodAll_cons r0
  obtain ⟨rfl, rfl, rfl⟩ := trodAll_nil r1
  obtain rfl : args = #[v0, v1] := by cases args; simp_all
  obtain ⟨rfl, rfl⟩ := trodVars_none hV
  have k0 := h0
  have lt0 : ∀ x ∈ p0, x.block < W.heap.size := by obtain ⟨m, hm⟩ := k0; exact DataW.trod_lt m _ _ _ hm
  have k1 := h1
  have lt1 : ∀ x ∈ p1, x.block < W.heap.size := by obtain ⟨m, hm⟩ := k1; exact DataW.trod_lt m _ _ _ hm
  obtain ⟨a0, rfl, rfl, rfl, w0⟩ := open_int Try.underlying45 (hval 0 45 v0 rfl rfl) h0
  obtain ⟨a1, rfl, rfl, rfl, w1⟩ := open_int Try.underlying3 (hval 1 3 v1 rfl rfl) h1
  clear hA0 hval0
  obtain ⟨n0, hn0, e0⟩ : ∃ n : Nat, n < U64 ∧ a0 = (n : Nat) := ⟨a0.toNat, by have hw := w0; simp [Lit.wf, IntKind.min, IntKind.max, IntKind.signed, IntKind.bits] at hw; unfold U64; omega, by have hw := w0; simp [Lit.wf, IntKind.min, IntKind.max, IntKind.signed, IntKind.bits] at hw; omega⟩
  subst e0
  refine (StampEnd_walk n0 a1 W hn0 (i64_bd w1)).mono fun e W' ⟨he, hmod⟩ => ?_
  subst he
  have bel : Below W.heap.size W W' := hmod.below (Nat.le_refl _) (fun _ _ => id)
  exact ⟨_, rfl, _, _, _, [], _, [], hW', trodAll_mk1 (shut_bool Try.underlying4 _), (trodAll_cons_mk (Below.trod laidOut (by kernel_rfl) (of_decide_eq_true (by kernel_rfl)) k0 bel lt0) (trodAll_cons_mk (Below.trod laidOut (by kernel_rfl) (of_decide_eq_true (by kernel_rfl)) k1 bel lt1) trodAll_mk0)), rfl, bel.frame _, fun h => by cases h⟩

theorem over : Rows.stampEndRow.holds Try.pinned (OpenSpec.ofChange Rows.stampEndSpec) :=
  OpenClaim.holds_of_wide 4 Try.f4 rfl rfl rfl rfl rfl rfl rfl ⟨rfl, rfl, rfl, rfl, rfl⟩ rfl rfl rfl rfl rfl (by kernel_rfl) Try.func4 (by kernel_rfl)
    (of_decide_eq_true (by kernel_rfl)) (by unfold Func.isWrapper; first | (rw [if_pos (by decide +kernel)]; kernel_rfl) | (rw [if_neg (by decide +kernel)]; exact ⟨rfl, rfl⟩))
    (fun os started H enc _ => lifted os started H enc)

theorem proved : Rows.StampEndSaid := over
end Go.Proofs.Ytbifincepglilaa.stampEnd
