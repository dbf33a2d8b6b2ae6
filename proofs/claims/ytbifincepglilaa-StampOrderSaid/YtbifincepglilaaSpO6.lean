/- StampOrder: of two commitments the one that comes later has the later time from each replica, whatever its clock does in between: for every number, every ticks, floors and replicas the law returns true. No condition. -/
import Derived.Test.YtbifincepglilaaSpO5
import Derived.ProofKit
import Derived.OpenShut
import Derived.ChangeOld
set_option maxRecDepth 100000
set_option linter.unusedVariables false
/- gavellaw09.StampOrder. -/
namespace Go.Proofs.Ytbifincepglilaa
open Go Go.RowKit Go.Gv

theorem RefN_any (F C : Int) (h : -1000 ≤ F ∧ F ≤ 1000) (w : World) : Calls Try.prog 12 #[.agg #[.int .i64 F, .int .i64 C]] w fun e w' => e = .returned (.int .i64 (3 * F + 1)) ∧ Mod (fun _ => False) w w' := by
 change Calls _ _ #[.agg #[.int .i64 F, .int .i64 C]] _ _
 go_enter Try.func12, Try.ntmps12
 go_upto_region 1 with (fail)
 obtain ⟨w1, hw1⟩ : ∃ zz, zz = (w.alloc (.cells #[.int .i64 F, .int .i64 C] 26)) := ⟨_, rfl⟩
 change Code.wp _ _ _ _ (w.alloc (.cells #[.int .i64 F, .int .i64 C] 26))
 rw [← hw1]
 have HB1 := hid (show Cs w1 (w.heap.size) #[.int .i64 F, .int .i64 C] 26 by rw [hw1]; exact Cs.new _ _ _)
 have hm : Mod (fun _ => False) w w1 := by rw [hw1]; exact (Mod.refl _ _).alloc _
 have HM0 := hid (show Mod (fun _ => False) w w1 from hm.mono (fun _ _ h => h.elim))
 have hs1 : w1.heap.size = w.heap.size + 1 := by rw [hw1]; simp
 clear hw1 hm
 go_upto_region 1 with (fail)
 refine wp_region_U 7 [3, 4, 5, 6, 2] [0, 1, 2, 3, 4] (fun a0 HA0 => ?_)
 have oe1 := ev HA0 1 rfl
 refine QSeq.pure rfl (.pointer (some ⟨w.heap.size, 0, none⟩)) (fun E => ex_field rfl Try.underlying26 rfl (by kernel_rfl) (E.v oe1)) ?_
 refine QSeq.pure rfl _ (fun E => ex_load1 rfl Try.underlying3 rfl (E.d 0 0) (Cs.lit1 HB1.out rfl)) ?_
 refine QSeq.pure rfl (.int .i64 (3 * F)) (fun E => ex_binE rfl rfl (E.d 1 0) (guard_ints _ _ _ _ _ _) (run_mul_i _ _) (congrArg (Value.int .i64) (i64_eq (b := 3 * F) rfl (by omega) (by omega)))) ?_
 refine QSeq.pure rfl (.int .i64 (3 * F + 1)) (fun E => ex_binE rfl (E.d 2 0) rfl (guard_ints _ _ _ _ _ _) (run_add_i _ _ Try.underlying3) (congrArg (Value.int .i64) (i64_eq (b := 3 * F + 1) rfl (by omega) (by omega)))) ?_
 refine QSeq.pure rfl _ (fun E => ex_assign rfl (E.d 3 0)) ?_
 refine QSeq.nil (t' := [_, _, _, _, _]) rfl ?_
 obtain rfl := HA0.out
 clear HA0 oe1
 simp only [pz, Act.put, List.setIfInBounds_toArray, List.set_cons_zero, List.set_cons_succ]
 go_wp2
 go_ret
 exact ⟨rfl, HM0.out⟩
theorem mlook_one {k a : Int × Int} {y : St} (h : k.1 ≠ a.1) : mlook ([] ++ [(k, y)]) a = none := by
 rw [mlook_snoc, if_neg (fun e => h (by rw [e]))]; rfl
set_option maxHeartbeats 2000000 in
theorem StampOrder_walk (e0 : Int) (ts fs : List Nat) (l : List Int) (vt vf vi : Value) (w : World) (he0 : -9223372036854775808 ≤ e0 ∧ e0 ≤ 9223372036854775807) (ht : RdS UnR (fun k => k < w.heap.size) w vt ts) (hf : RdS UnR (fun k => k < w.heap.size) w vf fs) (hl : RdS InR (fun k => k < w.heap.size) w vi l) : Calls Try.prog 3 #[.int .i64 e0, vt, vf, vi] w fun e w' => e = .returned (.bool true) ∧ Mod (fun _ => False) w w' := by
 have hU : U64 = 18446744073709551616 := rfl
 obtain ⟨at_, capt, rfl⟩ := ht.shape
 obtain ⟨af, capf, rfl⟩ := hf.shape
 obtain ⟨ai, capi, rfl⟩ := hl.shape
 have HT := Lib.hid ht
 have HF := Lib.hid hf
 have HL := Lib.hid hl
 have HE0 := Lib.hid he0
 clear ht hf hl
 go_enter Try.func3, Try.ntmps3
 go_upto_region 1 with (fail)
 have HM0 := hid (Mod.refl (fun _ => False) w)
 obtain ⟨kf, hkf⟩ : ∃ m : Nat, within e0 3 = m := ⟨(within e0 3).toNat, by have := within_range e0 3 (by decide); omega⟩
 have hkfl := within_range e0 3 (by decide)
 have HW0 := hid (Within_any e0 3 (by decide) (by decide) HE0.out)
 rw [hkf] at HW0 hkfl
 obtain ⟨nF, hnF⟩ : ∃ x, x = 1 + kf := ⟨_, rfl⟩
 clear hkf
 go_upto_region 1 with (fail)
 refine wp_region_U 127 [20, 21, 22, 23, 9, 132] [0, 1, 2, 3, 4, 5] (fun a0 HA0 => ?_)
 have oe0 := ev HA0 0 rfl
 refine QSeq.pure rfl _ (fun E => ex_move rfl (E.v oe0)) ?_
 refine QSeq.go fun act E => ?_
 refine qc_callF (args := #[.int .i64 e0, .int .i64 3]) rfl (wanted_none rfl) rfl Try.func8 (args2 (E.d 0 0) rfl) (HW0.out _) ?_
 rintro e w2 ⟨rfl, hw2⟩
 obtain rfl : w = w2 := by first | exact hw2 | exact hw2.symm
 refine ⟨_, rfl, ?_⟩
 clear act E
 refine QSeq.pure rfl (.int .i64 ((nF : Nat) : Int)) (fun E => ex_binE rfl rfl (E.d 1 0) (guard_ints _ _ _ _ _ _) (run_add_i _ _ Try.underlying3) (congrArg (Value.int .i64) (i64_eq (b := ((nF : Nat) : Int)) (by omega) (by omega) (by omega)))) ?_
 refine QSeq.go fun act E => ?_
 refine qc_run rfl (wanted_none rfl) (v := .agg #[.int .i64 ((nF : Nat) : Int), .int .i64 2]) (ex_build rfl (z := [.int .i64 0, .int .i64 0]) (places := [(0, 1), (1, 1)]) (by kernel_rfl) (parts := [(0, .int .i64 ((nF : Nat) : Int)), (1, .int .i64 2)]) (by simp only [List.map_toArray, List.map_cons, List.map_nil, show act.eval (.tmp 22) = .int .i64 ((nF : Nat) : Int) from (E.d 2 0)]; try rfl) (r := [.int .i64 ((nF : Nat) : Int), .int .i64 2]) (by rfl)) ?_
 clear act E
 refine QSeq.go fun act E => ?_
 refine qc_alloc rfl (wanted_none rfl) rfl (z := [.int .i64 0, .int .i64 0]) (by kernel_rfl) ?_
 intro u1_4 qb9 hm
 have zl1_4 := qb9.lt
 have Hx1 := hid qb9
 have zu1_4 := hm.size
 have Cx2 := hid (show Mod (fun _ => False) w u1_4 from hm)
 clear hm
 clear act E qb9
 refine QSeq.go fun act E => ?_
 have hlz : (([.int .i64 ((nF : Nat) : Int), .int .i64 2] : List Value)).length = List.length ([.int .i64 0, .int .i64 0] : List Value) := rfl
 refine qc_store rfl (wanted_none rfl) rfl Hx1.out (off := 0) (vs := ([.int .i64 ((nF : Nat) : Int), .int .i64 2] : List Value)) (by rw [hlz]; kernel_rfl) (by intro u hu; simp only [List.mem_cons, List.not_mem_nil, or_false] at hu; rcases hu with rfl | rfl <;> rfl) (by rw [hlz]; exact Nat.le_of_eq (Nat.zero_add _)) (E.d 4 0) (ec (E.d 3 1)) ?_
 intro u1_5 qc0 hm
 have qb9 := qc0.eqv (b := (([.int .i64 ((nF : Nat) : Int), .int .i64 2] : List Value) : List Value).toArray) (lay_whole (#[.int .i64 0, .int .i64 0]) _ (by rw [hlz]; rfl))
 clear qc0 hlz
 have Hx3 := hid qb9
 have zu1_5 := hm.size
 have HMu1_5 := hid hm
 have Cx4 := hid (Mod.goS (S' := (fun _ => False)) Cx2.out hm (fun _ h => h) (by intro k h0 h2; omega))
 clear hm Cx2
 clear act E qb9 Hx1
 clear HMu1_5
 refine QSeq.nil (t' := [_, _, _, _, _, _]) rfl ?_
 obtain rfl := HA0.out
 clear HA0 oe0
 simp only [pz, Act.put, List.setIfInBounds_toArray, List.set_cons_zero, List.set_cons_succ, List.set_nil]
 go_upto_region 2 with (fail)
 refine wp_region_U 127 [24, 10] [0, 1] (fun a0 HA0 => ?_)
 refine QSeq.call rfl rfl Try.func9 (Book_new_Q _) (fun E => args0) ?_
 rintro e u2_0 ⟨g, rfl, qbk, hm⟩
 refine ⟨_, rfl, ?_⟩
 have Hx5 := hid qbk
 have zu2_0 := hm.size
 have Cx6 := hid (show Mod (fun _ => False) u1_5 u2_0 from hm)
 clear hm
 clear qbk
 refine QSeq.pure rfl _ (fun E => ex_assign rfl (E.d 0 0)) ?_
 refine QSeq.nil (t' := [_, _]) rfl ?_
 obtain rfl := HA0.out
 clear HA0
 simp only [pz, Act.put, List.setIfInBounds_toArray, List.set_cons_zero, List.set_cons_succ]
 go_upto_region 3 with (fail)
 refine wp_region_U 127 [25, 26] [0, 1] (fun a0 HA0 => ?_)
 have oe10 := ev HA0 10 rfl
 refine QSeq.pure rfl _ (fun E => ex_move rfl (E.v oe10)) ?_
 refine QSeq.pure rfl (.bool false) (fun E => ex_bin rfl (E.d 0 0) rfl (guard_ptr _ _ _ _ _ _ _) (run_eql_nil _ Try.underlying27 (by kernel_rfl) _)) ?_
 refine QSeq.nil (t' := [_, _]) rfl ?_
 obtain rfl := HA0.out
 clear HA0 oe10
 simp only [pz, Act.put, List.setIfInBounds_toArray, List.set_cons_zero, List.set_cons_succ]
 go_upto_region 5 with (fail)
 refine wp_region_U 127 [27, 28, 29, 30, 31, 11, 133] [0, 1, 2, 3, 4, 5, 6] (fun a0 HA0 => ?_)
 have oe10 := ev HA0 10 rfl
 refine QSeq.pure rfl _ (fun E => ex_move rfl (E.v oe10)) ?_
 refine QSeq.pure rfl (.agg #[.int .i64 0, .int .i64 1]) (fun E => ex_build rfl (z := [.int .i64 0, .int .i64 0]) (places := [(0, 1), (1, 1)]) (by kernel_rfl) (parts := [(0, .int .i64 0), (1, .int .i64 1)]) (by simp only [List.map_toArray, List.map_cons, List.map_nil]; try rfl) (r := [.int .i64 0, .int .i64 1]) (by rfl)) ?_
 refine QSeq.pure rfl (hv z32) (fun E => ex_build0 rfl (r := ((z32.map bv) : List Value).toArray) (by kernel_rfl)) ?_
 refine QSeq.go fun act E => ?_
 refine qc_bytes rfl (wanted_none rfl) rfl Try.underlying38 (by kernel_rfl) (by decide) (C := #[.int .u8 1]) (by simp only [List.map_toArray, List.map_cons, List.map_nil, Act.eval]; kernel_rfl) ?_
 intro u5_3 qr0 hm
 have qlit1 := own_litR (bs := [1]) (n := 1) (N := 900000) qr0 rfl (by intro y hy; simp at hy; omega) rfl (by decide) hm
 clear qr0 
 have Hx7 := hid qlit1
 have zu5_3 := hm.size
 have Cx8 := hid (show Mod (fun _ => False) u2_0 u5_3 from hm)
 clear hm
 clear act E qlit1
 refine QSeq.call rfl rfl Try.func10 (Make_B (Hx5.out.mod Cx8.out (fun _ _ h => h)) (by decide) 2 0 1 [1] (by decide) (by decide) (by decide) Hx7.out.rd (by decide)) (fun E => args4 (E.d 0 3) (E.d 1 2) (E.d 2 1) (E.d 3 0)) ?_
 rintro e u5_4 ⟨ca, La, rfl, qbk, hmd, hm⟩
 have HMDa := Lib.hid hmd
 clear hmd
 refine ⟨_, rfl, ?_⟩
 have Hx9 := hid qbk
 have zu5_4 := hm.size
 have HMu5_4 := hid hm
 have Cx10 := hid (Mod.goS (S' := (fun k => (New u1_5 u2_0 k))) Cx8.out hm (fun _ h => h.elim) (by intro k h0 h2; exact h2))
 clear hm Cx8
 clear qbk Hx5
 refine QSeq.go fun act E => ?_
 refine qc_alloc rfl (wanted_none rfl) rfl (z := [.int .i64 0, .int .i64 0, .int .u8 0, .int .u8 0, .int .u8 0, .int .u8 0, .int .u8 0, .int .u8 0, .int .u8 0, .int .u8 0, .int .u8 0, .int .u8 0, .int .u8 0, .int .u8 0, .int .u8 0, .int .u8 0, .int .u8 0, .int .u8 0, .int .u8 0, .int .u8 0, .int .u8 0, .int .u8 0, .int .u8 0, .int .u8 0, .int .u8 0, .int .u8 0, .int .u8 0, .int .u8 0, .int .u8 0, .int .u8 0, .int .u8 0, .int .u8 0, .int .u8 0, .int .u8 0, .int .i64 0, .int .i64 0, .int .i64 0]) (by kernel_rfl) ?_
 intro u5_5 qb11 hm
 have zl5_5 := qb11.lt
 have Hx11 := hid qb11
 have zu5_5 := hm.size
 have HMu5_5 := hid hm
 have Cx12 := hid (Cx10.out.goE hm)
 clear hm Cx10
 clear act E qb11
 refine QSeq.go fun act E => ?_
 have hlz : (ca.cells).length = List.length ([.int .i64 0, .int .i64 0, .int .u8 0, .int .u8 0, .int .u8 0, .int .u8 0, .int .u8 0, .int .u8 0, .int .u8 0, .int .u8 0, .int .u8 0, .int .u8 0, .int .u8 0, .int .u8 0, .int .u8 0, .int .u8 0, .int .u8 0, .int .u8 0, .int .u8 0, .int .u8 0, .int .u8 0, .int .u8 0, .int .u8 0, .int .u8 0, .int .u8 0, .int .u8 0, .int .u8 0, .int .u8 0, .int .u8 0, .int .u8 0, .int .u8 0, .int .u8 0, .int .u8 0, .int .u8 0, .int .i64 0, .int .i64 0, .int .i64 0] : List Value) := (by rw [Cm.len HMDa.out.ok.2.1]; rfl)
 refine qc_store rfl (wanted_none rfl) rfl Hx11.out (off := 0) (vs := ca.cells) (by rw [hlz]; kernel_rfl) (Cm.one ca) (by rw [hlz]; exact Nat.le_of_eq (Nat.zero_add _)) (E.d 5 0) (ec (E.d 4 1)) ?_
 intro u5_6 qc0 hm
 have qb11 := qc0.eqv (b := (ca.cells : List Value).toArray) (lay_whole (#[.int .i64 0, .int .i64 0, .int .u8 0, .int .u8 0, .int .u8 0, .int .u8 0, .int .u8 0, .int .u8 0, .int .u8 0, .int .u8 0, .int .u8 0, .int .u8 0, .int .u8 0, .int .u8 0, .int .u8 0, .int .u8 0, .int .u8 0, .int .u8 0, .int .u8 0, .int .u8 0, .int .u8 0, .int .u8 0, .int .u8 0, .int .u8 0, .int .u8 0, .int .u8 0, .int .u8 0, .int .u8 0, .int .u8 0, .int .u8 0, .int .u8 0, .int .u8 0, .int .u8 0, .int .u8 0, .int .i64 0, .int .i64 0, .int .i64 0]) _ (by rw [hlz]; rfl))
 clear qc0 hlz
 have Hx13 := hid qb11
 have zu5_6 := hm.size
 have HMu5_6 := hid hm
 have Cx14 := hid (Mod.goS (S' := (fun k => (New u1_5 u2_0 k))) Cx12.out hm (fun _ h => h) (by intro k h0 h2; omega))
 clear hm Cx12
 clear act E qb11 Hx11
 have Hx15 := hid ((Hx9.out.mod HMu5_5.out (fun _ _ h => h)).mod HMu5_6.out (by intro k h1 h2; omega))
 have Hx16 := hid (((Hx7.out.mod HMu5_4.out (by intro k h1 h2; omega)).mod HMu5_5.out (fun _ _ h => h)).mod HMu5_6.out (by intro k h1 h2; omega))
 clear Hx9 Hx7 HMu5_4 HMu5_5 HMu5_6
 refine QSeq.nil (t' := [_, _, _, _, _, _, _]) rfl ?_
 obtain rfl := HA0.out
 clear HA0 oe10
 simp only [pz, Act.put, List.setIfInBounds_toArray, List.set_cons_zero, List.set_cons_succ, List.set_nil]
 clear Hx16
 go_upto_region 6 with (fail)
 refine wp_region_U 127 [32, 33, 34, 35, 36, 12, 133] [0, 1, 2, 3, 4, 5, 6] (fun a0 HA0 => ?_)
 have oe10 := ev HA0 10 rfl
 refine QSeq.pure rfl _ (fun E => ex_move rfl (E.v oe10)) ?_
 refine QSeq.pure rfl (.agg #[.int .i64 1, .int .i64 1]) (fun E => ex_build rfl (z := [.int .i64 0, .int .i64 0]) (places := [(0, 1), (1, 1)]) (by kernel_rfl) (parts := [(0, .int .i64 1), (1, .int .i64 1)]) (by simp only [List.map_toArray, List.map_cons, List.map_nil]; try rfl) (r := [.int .i64 1, .int .i64 1]) (by rfl)) ?_
 refine QSeq.pure rfl (hv z32) (fun E => ex_build0 rfl (r := ((z32.map bv) : List Value).toArray) (by kernel_rfl)) ?_
 refine QSeq.go fun act E => ?_
 refine qc_bytes rfl (wanted_none rfl) rfl Try.underlying38 (by kernel_rfl) (by decide) (C := #[.int .u8 2]) (by simp only [List.map_toArray, List.map_cons, List.map_nil, Act.eval]; kernel_rfl) ?_
 intro u6_3 qr0 hm
 have qlit2 := own_litR (bs := [2]) (n := 1) (N := 900000) qr0 rfl (by intro y hy; simp at hy; omega) rfl (by decide) hm
 clear qr0 
 have Hx17 := hid qlit2
 have zu6_3 := hm.size
 have Cx18 := hid (show Mod (fun _ => False) u5_6 u6_3 from hm)
 clear hm
 clear act E qlit2
 refine QSeq.call rfl rfl Try.func10 (Make_B (Hx15.out.mod Cx18.out (fun _ _ h => h)) (Nat.le_trans HMDa.out.ln (by decide)) 2 1 1 [2] (by decide) (by decide) (by decide) Hx17.out.rd (by decide)) (fun E => args4 (E.d 0 3) (E.d 1 2) (E.d 2 1) (E.d 3 0)) ?_
 rintro e u6_4 ⟨cb, Lb, rfl, qbk, hmd, hm⟩
 have HMDb := Lib.hid hmd
 clear hmd
 refine ⟨_, rfl, ?_⟩
 have Hx19 := hid qbk
 have zu6_4 := hm.size
 have HMu6_4 := hid hm
 have Cx20 := hid (Mod.goS (S' := (fun k => (New u1_5 u2_0 k))) Cx18.out hm (fun _ h => h.elim) (by intro k h0 h2; exact h2))
 clear hm Cx18
 clear qbk Hx15
 refine QSeq.go fun act E => ?_
 refine qc_alloc rfl (wanted_none rfl) rfl (z := [.int .i64 0, .int .i64 0, .int .u8 0, .int .u8 0, .int .u8 0, .int .u8 0, .int .u8 0, .int .u8 0, .int .u8 0, .int .u8 0, .int .u8 0, .int .u8 0, .int .u8 0, .int .u8 0, .int .u8 0, .int .u8 0, .int .u8 0, .int .u8 0, .int .u8 0, .int .u8 0, .int .u8 0, .int .u8 0, .int .u8 0, .int .u8 0, .int .u8 0, .int .u8 0, .int .u8 0, .int .u8 0, .int .u8 0, .int .u8 0, .int .u8 0, .int .u8 0, .int .u8 0, .int .u8 0, .int .i64 0, .int .i64 0, .int .i64 0]) (by kernel_rfl) ?_
 intro u6_5 qb12 hm
 have zl6_5 := qb12.lt
 have Hx21 := hid qb12
 have zu6_5 := hm.size
 have HMu6_5 := hid hm
 have Cx22 := hid (Cx20.out.goE hm)
 clear hm Cx20
 clear act E qb12
 refine QSeq.go fun act E => ?_
 have hlz : (cb.cells).length = List.length ([.int .i64 0, .int .i64 0, .int .u8 0, .int .u8 0, .int .u8 0, .int .u8 0, .int .u8 0, .int .u8 0, .int .u8 0, .int .u8 0, .int .u8 0, .int .u8 0, .int .u8 0, .int .u8 0, .int .u8 0, .int .u8 0, .int .u8 0, .int .u8 0, .int .u8 0, .int .u8 0, .int .u8 0, .int .u8 0, .int .u8 0, .int .u8 0, .int .u8 0, .int .u8 0, .int .u8 0, .int .u8 0, .int .u8 0, .int .u8 0, .int .u8 0, .int .u8 0, .int .u8 0, .int .u8 0, .int .i64 0, .int .i64 0, .int .i64 0] : List Value) := (by rw [Cm.len HMDb.out.ok.2.1]; rfl)
 refine qc_store rfl (wanted_none rfl) rfl Hx21.out (off := 0) (vs := cb.cells) (by rw [hlz]; kernel_rfl) (Cm.one cb) (by rw [hlz]; exact Nat.le_of_eq (Nat.zero_add _)) (E.d 5 0) (ec (E.d 4 1)) ?_
 intro u6_6 qc0 hm
 have qb12 := qc0.eqv (b := (cb.cells : List Value).toArray) (lay_whole (#[.int .i64 0, .int .i64 0, .int .u8 0, .int .u8 0, .int .u8 0, .int .u8 0, .int .u8 0, .int .u8 0, .int .u8 0, .int .u8 0, .int .u8 0, .int .u8 0, .int .u8 0, .int .u8 0, .int .u8 0, .int .u8 0, .int .u8 0, .int .u8 0, .int .u8 0, .int .u8 0, .int .u8 0, .int .u8 0, .int .u8 0, .int .u8 0, .int .u8 0, .int .u8 0, .int .u8 0, .int .u8 0, .int .u8 0, .int .u8 0, .int .u8 0, .int .u8 0, .int .u8 0, .int .u8 0, .int .i64 0, .int .i64 0, .int .i64 0]) _ (by rw [hlz]; rfl))
 clear qc0 hlz
 have Hx23 := hid qb12
 have zu6_6 := hm.size
 have HMu6_6 := hid hm
 have Cx24 := hid (Mod.goS (S' := (fun k => (New u1_5 u2_0 k))) Cx22.out hm (fun _ h => h) (by intro k h0 h2; omega))
 clear hm Cx22
 clear act E qb12 Hx21
 have Hx25 := hid ((Hx19.out.mod HMu6_5.out (fun _ _ h => h)).mod HMu6_6.out (by intro k h1 h2; omega))
 have Hx26 := hid (((Hx17.out.mod HMu6_4.out (by intro k h1 h2; omega)).mod HMu6_5.out (fun _ _ h => h)).mod HMu6_6.out (by intro k h1 h2; omega))
 clear Hx19 Hx17 HMu6_4 HMu6_5 HMu6_6
 refine QSeq.nil (t' := [_, _, _, _, _, _, _]) rfl ?_
 obtain rfl := HA0.out
 clear HA0 oe10
 simp only [pz, Act.put, List.setIfInBounds_toArray, List.set_cons_zero, List.set_cons_succ, List.set_nil]
 clear Hx26
 go_upto_region 7 with (fail)
 refine wp_region_U 127 [13] [0] (fun a0 HA0 => ?_)
 refine QSeq.pure rfl (.int .i64 0) (fun E => ex_assign rfl rfl) ?_
 refine QSeq.nil (t' := [_]) rfl ?_
 obtain rfl := HA0.out
 clear HA0
 simp only [pz, Act.put, List.setIfInBounds_toArray, List.set_cons_zero, List.set_cons_succ]
 go_wp2
 go_loopw [13] (fun ti wr => ∃ (i : Nat) (L : List (Int × List Int)), ti = .int .i64 (i : Nat) ∧ i ≤ 6 ∧ L.length ≤ 2 + 2 * i ∧ rightC L 2 ca = true ∧ rightC L 2 cb = true ∧ u6_6.heap.size ≤ wr.heap.size ∧ BkR (fun k => (New u1_5 u2_0 k)) wr g L ∧ Cs wr (w.heap.size) #[.int .i64 ((nF : Nat) : Int), .int .i64 2] 26 ∧ Cs wr (u5_4.heap.size) ca.cells.toArray 36 ∧ Cs wr (u6_4.heap.size) cb.cells.toArray 36 ∧ RdS UnR (fun k => k < w.heap.size) wr (.slice at_ ts.length capt) ts ∧ RdS UnR (fun k => k < w.heap.size) wr (.slice af fs.length capf) fs ∧ RdS InR (fun k => k < w.heap.size) wr (.slice ai l.length capi) l ∧ Mod (fun _ => False) w wr) (fun ti _ => 7 - (intOf ti).toNat)
 case atStart => exact ⟨0, Lb, rfl, by omega, (by have h1 := HMDa.out.ln; have h2 := HMDb.out.ln; simp only [List.length_nil] at h1; omega), HMDb.out.gr _ _ HMDa.out.rt, HMDb.out.rt, Nat.le_refl _, Hx25.out, (((Hx3.out.mod Cx6.out (fun h => h)).mod Cx14.out (by intro h2; omega)).mod Cx24.out (by intro h2; omega)), (Hx13.out.mod Cx24.out (by intro h2; omega)), Hx23.out, ((((HT.out.mod Cx4.out (fun _ _ h => h)).mod Cx6.out (fun _ _ h => h)).mod Cx14.out (by intro k h1 h2; omega)).mod Cx24.out (by intro k h1 h2; omega)), ((((HF.out.mod Cx4.out (fun _ _ h => h)).mod Cx6.out (fun _ _ h => h)).mod Cx14.out (by intro k h1 h2; omega)).mod Cx24.out (by intro k h1 h2; omega)), ((((HL.out.mod Cx4.out (fun _ _ h => h)).mod Cx6.out (fun _ _ h => h)).mod Cx14.out (by intro k h1 h2; omega)).mod Cx24.out (by intro k h1 h2; omega)), ((((HM0.out.trans Cx4.out (fun _ _ h => h.elim)).trans Cx6.out (fun _ _ h => h.elim)).trans Cx14.out (by intro k h1 h2; omega)).trans Cx24.out (by intro k h1 h2; omega))⟩
 case round =>
  obtain ⟨i, L, rfl, hi6, hLl, hr1, hr2, hz, k1, k2, k3, k4, k5, k6, k7, k8⟩ := hrel
  obtain ⟨wl, rfl⟩ : ∃ x, x = wr := ⟨_, rfl⟩
  have K1 := Lib.hid k1
  have K2 := Lib.hid k2
  have K3 := Lib.hid k3
  have K4 := Lib.hid k4
  have K5 := Lib.hid k5
  have K6 := Lib.hid k6
  have K7 := Lib.hid k7
  have K8 := Lib.hid k8
  have KR1 := Lib.hid hr1
  have KR2 := Lib.hid hr2
  clear k1 k2 k3 k4 k5 k6 k7 k8 hr1 hr2 HT HF HL HM0 Hx3 Hx25 Hx13 Hx23
  go_upto_region 8 with (fail)
  refine wp_region_U 127 [37, 38, 39, 40, 41, 42, 43, 44] [0, 1, 2, 3, 4, 5, 6, 7] (fun a0 HA0 => ?_)
  have oe3 := ev HA0 3 rfl
  have oe13 := ev HA0 13 rfl
  refine QSeq.pure rfl _ (fun E => ex_move rfl (E.v oe13)) ?_
  refine QSeq.pure rfl _ (fun E => ex_move rfl (E.v oe3)) ?_
  refine QSeq.pure rfl (.int .i64 l.length) (fun E => ex_lenS rfl (E.d 1 0) Try.underlying23) ?_
  refine QSeq.pure rfl (.bool (decide (((i : Nat) : Int) < ((l.length : Nat) : Int)))) (fun E => ex_bin rfl (E.d 0 2) (E.d 2 0) (guard_ints _ _ _ _ _ _) (run_lss_i _ _ _ Try.underlying3)) ?_
  refine QSeq.pure rfl _ (fun E => ex_move rfl (E.d 3 0)) ?_
  refine QSeq.may (b := (decide (((i : Nat) : Int) < ((l.length : Nat) : Int)))) rfl (.int .i64 ((i : Nat) : Int)) (fun E => ((wanted_of rfl rfl (E.sz 41 (by decide)) (E.d 4 0)).trans (beq_t _))) (fun E hb => ex_move rfl (E.v oe13)) ?_
  intro v8_5 hw
  have hv8_5 := hid hw
  clear hw
  refine QSeq.may (b := (decide (((i : Nat) : Int) < ((l.length : Nat) : Int)))) rfl (.bool (decide (((i : Nat) : Int) < 6))) (fun E => ((wanted_of rfl rfl (E.sz 41 (by decide)) (E.d 4 1)).trans (beq_t _))) (fun E hb => ex_bin rfl ((E.q 5 0 hv8_5.out).1 hb) rfl (guard_ints _ _ _ _ _ _) (run_lss_i _ _ _ Try.underlying3)) ?_
  intro v8_6 hw
  have hv8_6 := hid hw
  clear hw
  obtain ⟨pb7, hb7⟩ : ∃ b : Bool, b = ((decide (((i : Nat) : Int) < ((l.length : Nat) : Int))) && (decide (((i : Nat) : Int) < 6))) := ⟨_, rfl⟩
  have HB7 := hid hb7
  clear hb7
  refine QSeq.pure rfl (.bool pb7) (fun E => ex_pickE rfl (E.d 4 2) rfl rfl ((and_val fun hb => (E.q 6 0 hv8_6.out).1 hb).trans (congrArg Value.bool HB7.out.symm))) ?_
  clear hv8_5 hv8_6
  refine QSeq.nil (t' := [_, _, _, _, _, _, _, _]) rfl ?_
  obtain rfl := HA0.out
  clear HA0 oe3 oe13
  simp only [pz, Act.put, List.setIfInBounds_toArray, List.set_cons_zero, List.set_cons_succ]
  by_cases hc : i < l.length ∧ i < 6
  ·obtain ⟨hc1, hc2⟩ := hc
   obtain rfl : pb7 = true := HB7.out.trans (by simp only [Bool.and_eq_true, decide_eq_true_eq]; omega)
   obtain ⟨g1, o1, cs1, ea1, hrg, hrd, hcs⟩ := K7.out.at hc1
   obtain ⟨rfl, hdd⟩ := hrd
   generalize l[i] = d at hcs hdd
   subst ea1
   have HAT1 := hid (show CellsAt (fun k => k < w.heap.size) wl g1 (o1 + i * 1) [.int .i64 d] from ⟨hrg, hcs⟩)
   clear hrg hcs
   have HDD := hid (show -9223372036854775808 ≤ d ∧ d ≤ 9223372036854775807 from hdd)
   clear hdd
   obtain ⟨kr, hkr⟩ : ∃ m : Nat, within d (3 * ((nF : Nat) : Int) + 1) = m := ⟨(within d (3 * ((nF : Nat) : Int) + 1)).toNat, by have := within_range d (3 * ((nF : Nat) : Int) + 1) (by omega); omega⟩
   have hkrl := within_range d (3 * ((nF : Nat) : Int) + 1) (by omega)
   have HW1 := hid (Within_any d (3 * ((nF : Nat) : Int) + 1) (by omega) (by omega) HDD.out)
   rw [hkr] at HW1 hkrl
   clear hkr
   go_upto_region 10 with (fail)
   generalize ha0 : Act.mk _ _ = a0
   have oe3 : a0.eval (.tmp 3) = .slice (some ⟨g1, o1, none⟩) l.length capi := by rw [← ha0]; rfl
   have oe9 : a0.eval (.tmp 9) = .pointer (some ⟨w.heap.size, 0, none⟩) := by rw [← ha0]; rfl
   have oe13 : a0.eval (.tmp 13) = .int .i64 ((i : Nat) : Int) := by rw [← ha0]; rfl
   have hsz0 : a0.tmps.size = 127 := by rw [← ha0]; rfl
   have HA0 := hid ha0
   clear ha0
   refine wp_region_Q0 127 hsz0 [48, 49, 50, 51, 52, 53, 54, 55, 56, 47, 57, 58, 14, 15] [qi (.agg #[.int .i64 ((nF : Nat) : Int), .int .i64 2]), qi (.slice (some ⟨g1, o1, none⟩) l.length capi), qi (.int .i64 ((i : Nat) : Int)), qi (.pointer (some ⟨g1, o1 + i * 1, none⟩)), qi (.int .i64 d), qi (.agg #[.int .i64 ((nF : Nat) : Int), .int .i64 2]), qi (.int .i64 (3 * ((nF : Nat) : Int) + 1)), qi (.int .i64 ((kr : Nat) : Int)), qw 0 (fun v => ∃ p0 : Nat, v = .tuple #[.pointer (some ⟨p0, 0, none⟩), .int .i64 0]), qw 0 (fun v => ∃ p0 : Nat, v = .tuple #[.pointer (some ⟨p0, 0, none⟩), .int .i64 0]), qv 1, qi (.int .i64 0), qv 1, qi (.int .i64 0)] ⟨qi_stable, qi_stable, qi_stable, qi_stable, qi_stable, qi_stable, qi_stable, qi_stable, qw_stable, qw_stable, qv_stable, qi_stable, qv_stable, qi_stable, trivial⟩ [8, 10] ⟨?_, ?_, ?_, ?_, ?_, ?_, ?_, ?_, ?_, ?_, ?_, ?_, ?_, ?_, trivial⟩ ?_
   ·exact stq (fun E => ex_loadA rfl Try.underlying26 rfl (off := 0) (cs := [.int .i64 ((nF : Nat) : Int), .int .i64 2]) (by kernel_rfl) (E.v oe9) (Cs.litA (K2.out.mod E.m.old (by intro h2; omega)) rfl))
   ·exact stq (fun E => ex_move rfl (E.v oe3))
   ·exact stq (fun E => ex_move rfl (E.v oe13))
   ·exact stq (fun E => ex_idxS (i := i) (s := 1) rfl Try.underlying23 (by kernel_rfl) (E.d 1) (E.d 2) (by omega))
   ·exact stq (fun E => ex_load1 rfl Try.underlying3 rfl (E.d 3) (((HAT1.out.mod E.m.old (by intro k h1 h2; omega))).2 0 _ rfl))
   ·exact stq (fun E => ex_loadA rfl Try.underlying26 rfl (off := 0) (cs := [.int .i64 ((nF : Nat) : Int), .int .i64 2]) (by kernel_rfl) (E.v oe9) (Cs.litA (K2.out.mod E.m.old (by intro h2; omega)) rfl))
   ·refine stepq_env rfl rfl rfl fun _ _ _ _ _ _ _ _ _ hd _ _ => ?_
    have h5 := hd ⟨5, .data⟩ (by simp) rfl _ rfl
    refine qe_callF (args := #[.agg #[.int .i64 ((nF : Nat) : Int), .int .i64 2]]) rfl (wanted_none rfl) rfl Try.func12 (args1 h5) (RefN_any ((nF : Nat) : Int) 2 (by omega) _) ?_
    rintro e w2 ⟨rfl, hm2⟩
    exact ⟨_, rfl, QE.still hm2, rfl⟩
   ·refine stepq_env rfl rfl rfl fun _ _ _ _ _ _ _ _ _ hd _ _ => ?_
    have h4 := hd ⟨4, .data⟩ (by simp) rfl _ rfl
    have h6 := hd ⟨6, .data⟩ (by simp) rfl _ rfl
    refine qe_callF (args := #[.int .i64 d, .int .i64 (3 * ((nF : Nat) : Int) + 1)]) rfl (wanted_none rfl) rfl Try.func8 (args2 h4 h6) (HW1.out _) ?_
    rintro e w2 ⟨rfl, rfl⟩
    exact ⟨_, rfl, QE.refl, rfl⟩
   ·exact stepq_chain rfl
   ·refine stepq_env rfl rfl rfl fun _ _ _ _ _ _ _ _ _ hd _ _ => ?_
    have h8 := hd ⟨8, .data⟩ (by simp) rfl _ rfl
    exact qe_run rfl (wanted_none rfl) (ex_move rfl rfl) QE.refl h8
   ·exact stepq_chain rfl
   ·refine stepq_env rfl rfl rfl fun _ _ _ _ _ _ _ _ _ hd _ _ => ?_
    have h9 := hd ⟨9, .data⟩ (by simp) rfl _ rfl
    obtain ⟨p0, hp0⟩ := h9.2
    exact qe_run rfl (wanted_none rfl) (ex_extract rfl hp0 rfl) QE.refl rfl
   ·refine stepq_env rfl rfl rfl fun _ _ _ _ _ _ _ _ _ hd _ _ => ?_
    have h10 := hd ⟨10, .data⟩ (by simp) rfl _ rfl
    exact qe_run rfl (wanted_none rfl) (ex_assign rfl rfl) QE.refl h10
   ·exact stq (fun E => ex_assign rfl (E.d 11))
   intro u10_0 hr
   have zu10_0 := hr.size
   have Cx27 := hid (hr.new (S := (fun _ => False)))
   clear hr
   refine QChain.go fun Z act E => ?_
   refine qc_callF (args := #[.agg #[.int .i64 ((nF : Nat) : Int), .int .i64 2], .int .i64 ((kr : Nat) : Int)]) rfl (wanted_none rfl) rfl Try.func11 (args2 (E.d 0) (E.d 7)) (New_Q (F := ((nF : Nat) : Int)) (C := 2) (r := ((kr : Nat) : Int)) (by omega) (by decide) (by omega) _) ?_
   rintro e u10_1a ⟨p, rfl, qsp, hm⟩
   have zu10_1a := hm.size
   refine ⟨_, rfl, hm.mono (fun _ _ h => h.elim), (fun _ => ⟨rfl, ⟨p, rfl⟩⟩), ?_⟩
   intro u10_1 hr
   have zu10_1 := hr.size
   have Hx28 := hid ((qsp.widen (R' := (fun k => (New u10_0 u10_1a k))) (fun _ h => h)).mod hr (by intro k h1 h2; omega))
   have Cx29 := hid (Cx27.out.go hm hr)
   clear Cx27 hm hr Z act E qsp
   refine QChain.go fun Z act E => ?_
   refine qc_run rfl (wanted_none rfl) (ex_extract rfl (chv (v := .tuple #[.pointer (some ⟨p, 0, none⟩), .int .i64 0]) (E.d 9).1) rfl) ⟨Mod.refl _ _, (fun _ => rfl), ?_⟩
   intro u10_2 hr
   have zu10_2 := hr.size
   have Hx30 := hid (Hx28.out.mod hr (by intro k h1 h2; omega))
   clear Hx28
   have Cx31 := hid (Cx29.out.goR hr)
   clear Cx29 hr Z act E
   refine QChain.nil fun vs hl hzz hrows hne => ?_
   obtain ⟨Z, hYZ, hZb, hV⟩ := hzz
   have f1 := fvi hV hl 1
   have f2 := fvi hV hl 2
   have f6 := fvi hV hl 6
   have f7 := fvi hV hl 7
   have f8 := fvw hV hl 8
   have f9 := fvw hV hl 9
   have f10 := fvc hV hl 10
   have f12 := fvc hV hl 12
   have f13 := fvi hV hl 13
   rw [show vs = [gw vs 0, gw vs 1, gw vs 2, gw vs 3, gw vs 4, gw vs 5, gw vs 6, gw vs 7, gw vs 8, gw vs 9, gw vs 10, gw vs 11, gw vs 12, gw vs 13] from (gw_eta hl).trans rfl]
   have ha0 := HA0.out
   subst ha0
   clear HA0 hV hYZ hZb hsz0 hrows hne oe3 oe9 oe13
   simp only [putAll, Act.put, List.setIfInBounds_toArray, List.set_cons_zero, List.set_cons_succ, f1, f2, f6, f7, f8, f9, f10, f12, f13]
   clear hl f1 f2 f6 f7 f8 f9 f10 f12 f13
   clear HAT1
   go_upto_region 11 with (fail)
   refine wp_region_U 127 [59, 60, 61, 62, 63, 64] [0, 1, 2, 3, 4, 5] (fun a0 HA0 => ?_)
   have oe14 := ev HA0 14 rfl
   have oe15 := ev HA0 15 rfl
   refine QSeq.pure rfl _ (fun E => ex_move rfl (E.v oe15)) ?_
   refine QSeq.pure rfl (.bool false) (fun E => ex_binE rfl (E.d 0 0) rfl (guard_ints _ _ _ _ _ _) (run_neq_i _ _ _ Try.underlying40) (congrArg Value.bool (show _ = false from rfl))) ?_
   refine QSeq.pure rfl _ (fun E => ex_move rfl (E.d 1 0)) ?_
   refine QSeq.pureG rfl (.pointer (some ⟨p, 0, none⟩)) (fun E => ((wanted_of rfl rfl (E.sz 61 (by decide)) (E.d 2 0)).trans rfl)) (fun E => ex_move rfl (E.v oe14)) ?_
   refine QSeq.pureG rfl (.bool false) (fun E => ((wanted_of rfl rfl (E.sz 61 (by decide)) (E.d 2 1)).trans rfl)) (fun E => ex_bin rfl (E.d 3 0) rfl (guard_ptr _ _ _ _ _ _ _) (run_eql_nil _ Try.underlying39 (by kernel_rfl) _)) ?_
   refine QSeq.pure rfl (.bool false) (fun E => ex_pick rfl (E.d 2 2) rfl (E.d 4 0)) ?_
   refine QSeq.nil (t' := [_, _, _, _, _, _]) rfl ?_
   obtain rfl := HA0.out
   clear HA0 oe14 oe15
   simp only [pz, Act.put, List.setIfInBounds_toArray, List.set_cons_zero, List.set_cons_succ]
   by_cases hct : i < ts.length
   ·skip
    go_upto_region 13 with (fail)
    refine wp_region_U 127 [65, 66, 67, 68] [0, 1, 2, 3] (fun a0 HA0 => ?_)
    have oe1 := ev HA0 1 rfl
    have oe13 := ev HA0 13 rfl
    refine QSeq.pure rfl _ (fun E => ex_move rfl (E.v oe13)) ?_
    refine QSeq.pure rfl _ (fun E => ex_move rfl (E.v oe1)) ?_
    refine QSeq.pure rfl (.int .i64 ts.length) (fun E => ex_lenS rfl (E.d 1 0) Try.underlying22) ?_
    refine QSeq.pure rfl (.bool true) (fun E => ex_binE rfl (E.d 0 2) (E.d 2 0) (guard_ints _ _ _ _ _ _) (run_lss_i _ _ _ Try.underlying3) (congrArg Value.bool (decide_eq_true (by omega)))) ?_
    refine QSeq.nil (t' := [_, _, _, _]) rfl ?_
    obtain rfl := HA0.out
    clear HA0 oe1 oe13
    simp only [pz, Act.put, List.setIfInBounds_toArray, List.set_cons_zero, List.set_cons_succ]
    obtain ⟨g2, o2, cs2, ea2, hrg, hrd, hcs⟩ := (K5.out.mod Cx31.out (fun _ _ h => h)).at hct
    obtain ⟨rfl, hu1⟩ := hrd
    generalize ts[i] = u1 at hcs hu1
    subst ea2
    have HAT2 := hid (show CellsAt (fun k => k < w.heap.size) u10_2 g2 (o2 + i * 1) [.int .u64 ((u1 : Nat) : Int)] from ⟨hrg, hcs⟩)
    clear hrg hcs
    have hu1' : u1 < U64 := hu1
    clear hu1
    obtain ⟨nw, hnw⟩ : ∃ x, x = u1 % 1000 := ⟨_, rfl⟩
    go_upto_region 14 with (fail)
    refine wp_region_U 127 [69, 70, 71, 72, 73, 74, 75] [0, 1, 2, 3, 4, 5, 6] (fun a0 HA0 => ?_)
    have oe1 := ev HA0 1 rfl
    have oe13 := ev HA0 13 rfl
    have oe14 := ev HA0 14 rfl
    refine QSeq.pure rfl _ (fun E => ex_move rfl (E.v oe14)) ?_
    refine QSeq.pure rfl _ (fun E => ex_move rfl (E.v oe1)) ?_
    refine QSeq.pure rfl _ (fun E => ex_move rfl (E.v oe13)) ?_
    refine QSeq.pure rfl (.pointer (some ⟨g2, o2 + i * 1, none⟩)) (fun E => ex_idxS (i := i) (s := 1) rfl Try.underlying22 (by kernel_rfl) (E.d 1 1) (E.d 2 0) (by omega)) ?_
    refine QSeq.pure rfl (.int .u64 ((u1 : Nat) : Int)) (fun E => ex_load1 rfl Try.underlying45 rfl (E.d 3 0) ((HAT2.out).2 0 _ rfl)) ?_
    refine QSeq.pure rfl (.int .u64 ((nw : Nat) : Int)) (fun E => ex_binE rfl (E.d 4 0) rfl (guard_ints _ _ _ _ _ _) (run_rem_i _ _ (by decide)) (congrArg (Value.int .u64) (show (((u1 : Nat) : Int)).tmod 1000 = ((nw : Nat) : Int) from (by rw [Int.tmod_eq_emod_of_nonneg (by omega)]; omega)))) ?_
    refine QSeq.call rfl rfl Try.func13 (Tick_Q (n := nw) Hx30.out (by intro k h1; omega) (by omega)) (fun E => args2 (E.d 0 5) (E.d 5 0)) ?_
    rintro e u14_6 ⟨rfl, qsp, hm⟩
    refine ⟨_, rfl, ?_⟩
    have Hx32 := hid qsp
    have zu14_6 := hm.size
    have Cx33 := hid (show Mod (fun k => (New u10_0 u10_1a k)) u10_2 u14_6 from hm)
    clear hm
    clear qsp Hx30
    refine QSeq.nil (t' := [_, _, _, _, _, _, _]) rfl ?_
    obtain rfl := HA0.out
    clear HA0 oe1 oe13 oe14
    simp only [pz, Act.put, List.setIfInBounds_toArray, List.set_cons_zero, List.set_cons_succ]
    clear HAT2
    have hq := Hx32.out
    rw [show tickS ss0 nw = ⟨nw, 0, 0, []⟩ from by unfold tickS ss0; simp only [SS.mk.injEq, and_true]; omega] at hq
    have HSPt := Lib.hid hq
    clear hq
    clear Hx32
    obtain ⟨t1, ht1⟩ : ∃ t, t = max (max nw 1) 1 := ⟨_, rfl⟩
    go_upto_region 15 with (fail)
    refine wp_region_U 127 [77, 78, 79, 80, 76, 81, 82, 16, 135, 17] [0, 1, 2, 3, 4, 5, 6, 7, 8, 9] (fun a0 HA0 => ?_)
    have oe10 := ev HA0 10 rfl
    have oe11 := ev HA0 11 rfl
    have oe14 := ev HA0 14 rfl
    refine QSeq.pure rfl _ (fun E => ex_move rfl (E.v oe14)) ?_
    refine QSeq.pure rfl _ (fun E => ex_move rfl (E.v oe10)) ?_
    refine QSeq.pure rfl _ (fun E => ex_loadA rfl Try.underlying36 rfl (off := 0) (cs := ca.cells) (by rw [Cm.len HMDa.out.ok.2.1]; exact size_commit) (E.v oe11) (Cs.whole ((K3.out.mod Cx31.out (fun h => h)).mod Cx33.out (by intro h2; omega)))) ?_
    refine QSeq.call rfl rfl Try.func14 (Stamp_B (t := t1) HSPt.out ((K1.out.mod Cx31.out (fun _ _ h => h)).mod Cx33.out (by intro k h1 h2; omega)) (by intro k h1; omega) (by intro k h1; omega) (by intro k h1 h2; omega) HMDa.out.ok HMDa.out.si KR1.out rfl ht1 (by omega) (by unfold I64; omega) (by omega)) (fun E => args3 (E.d 0 2) (E.d 1 1) (E.d 2 0)) ?_
    rintro e u15_3 ⟨ya, Ma, rfl, qsp, qbk, hst, hm⟩
    have HYFa := Lib.hid hst
    clear hst
    refine ⟨_, rfl, ?_⟩
    have Hx34 := hid qsp
    have Hx35 := hid qbk
    have zu15_3 := hm.size
    have Cx36 := hid (show Mod (fun k => (New u10_0 u10_1a k) ∨ (New u1_5 u2_0 k)) u14_6 u15_3 from hm)
    clear hm
    clear qsp qbk HSPt K1
    refine QSeq.pure rfl _ (fun E => ex_move rfl (E.d 3 0)) ?_
    refine QSeq.pure rfl (.agg ya.cells.toArray) (fun E => ex_extract rfl (E.d 4 0) rfl) ?_
    refine QSeq.pure rfl (.int .i64 0) (fun E => ex_extract rfl (E.d 4 1) rfl) ?_
    refine QSeq.go fun act E => ?_
    refine qc_alloc rfl (wanted_none rfl) rfl (z := [.int .i64 0, .int .i64 0, .int .i64 0, .int .u8 0, .int .u8 0, .int .u8 0, .int .u8 0, .int .u8 0, .int .u8 0, .int .u8 0, .int .u8 0, .int .u8 0, .int .u8 0, .int .u8 0, .int .u8 0, .int .u8 0, .int .u8 0, .int .u8 0, .int .u8 0, .int .u8 0, .int .u8 0, .int .u8 0, .int .u8 0, .int .u8 0, .int .u8 0, .int .u8 0, .int .u8 0, .int .u8 0, .int .u8 0, .int .u8 0, .int .u8 0, .int .u8 0, .int .u8 0, .int .u8 0, .int .u8 0, .int .u64 0, .int .i64 0, .int .i64 0]) (by kernel_rfl) ?_
    intro u15_7 qb16 hm
    have zl15_7 := qb16.lt
    have Hx37 := hid qb16
    have zu15_7 := hm.size
    have HMu15_7 := hid hm
    have Cx38 := hid (Cx36.out.goE hm)
    clear hm Cx36
    clear act E qb16
    refine QSeq.go fun act E => ?_
    have hlz : (ya.cells).length = List.length ([.int .i64 0, .int .i64 0, .int .i64 0, .int .u8 0, .int .u8 0, .int .u8 0, .int .u8 0, .int .u8 0, .int .u8 0, .int .u8 0, .int .u8 0, .int .u8 0, .int .u8 0, .int .u8 0, .int .u8 0, .int .u8 0, .int .u8 0, .int .u8 0, .int .u8 0, .int .u8 0, .int .u8 0, .int .u8 0, .int .u8 0, .int .u8 0, .int .u8 0, .int .u8 0, .int .u8 0, .int .u8 0, .int .u8 0, .int .u8 0, .int .u8 0, .int .u8 0, .int .u8 0, .int .u8 0, .int .u8 0, .int .u64 0, .int .i64 0, .int .i64 0] : List Value) := (by rw [St.len HYFa.out.ok]; rfl)
    refine qc_store rfl (wanted_none rfl) rfl Hx37.out (off := 0) (vs := ya.cells) (by rw [hlz]; kernel_rfl) (St.one ya) (by rw [hlz]; exact Nat.le_of_eq (Nat.zero_add _)) (E.d 7 0) (ec (E.d 5 2)) ?_
    intro u15_8 qc0 hm
    have qb16 := qc0.eqv (b := (ya.cells : List Value).toArray) (lay_whole (#[.int .i64 0, .int .i64 0, .int .i64 0, .int .u8 0, .int .u8 0, .int .u8 0, .int .u8 0, .int .u8 0, .int .u8 0, .int .u8 0, .int .u8 0, .int .u8 0, .int .u8 0, .int .u8 0, .int .u8 0, .int .u8 0, .int .u8 0, .int .u8 0, .int .u8 0, .int .u8 0, .int .u8 0, .int .u8 0, .int .u8 0, .int .u8 0, .int .u8 0, .int .u8 0, .int .u8 0, .int .u8 0, .int .u8 0, .int .u8 0, .int .u8 0, .int .u8 0, .int .u8 0, .int .u8 0, .int .u8 0, .int .u64 0, .int .i64 0, .int .i64 0]) _ (by rw [hlz]; rfl))
    clear qc0 hlz
    have Hx39 := hid qb16
    have zu15_8 := hm.size
    have HMu15_8 := hid hm
    have Cx40 := hid (Mod.goS (S' := (fun k => (New u10_0 u10_1a k) ∨ (New u1_5 u2_0 k))) Cx38.out hm (fun _ h => h) (by intro k h0 h2; omega))
    clear hm Cx38
    clear act E qb16 Hx37
    refine QSeq.pure rfl _ (fun E => ex_assign rfl (E.d 6 2)) ?_
    have Hx41 := hid ((Hx35.out.mod HMu15_7.out (fun _ _ h => h)).mod HMu15_8.out (by intro k h1 h2; omega))
    have Hx42 := hid ((Hx34.out.mod HMu15_7.out (fun _ _ h => h)).mod HMu15_8.out (by intro k h1 h2; omega))
    clear Hx35 Hx34 HMu15_7 HMu15_8
    refine QSeq.nil (t' := [_, _, _, _, _, _, _, _, _, _]) rfl ?_
    obtain rfl := HA0.out
    clear HA0 oe10 oe11 oe14
    simp only [pz, Act.put, List.setIfInBounds_toArray, List.set_cons_zero, List.set_cons_succ, List.set_nil]
    by_cases hcf : i < fs.length
    ·skip
     go_upto_region 16 with (fail)
     refine wp_region_U 127 [83, 84, 85, 86] [0, 1, 2, 3] (fun a0 HA0 => ?_)
     have oe2 := ev HA0 2 rfl
     have oe13 := ev HA0 13 rfl
     refine QSeq.pure rfl _ (fun E => ex_move rfl (E.v oe13)) ?_
     refine QSeq.pure rfl _ (fun E => ex_move rfl (E.v oe2)) ?_
     refine QSeq.pure rfl (.int .i64 fs.length) (fun E => ex_lenS rfl (E.d 1 0) Try.underlying22) ?_
     refine QSeq.pure rfl (.bool true) (fun E => ex_binE rfl (E.d 0 2) (E.d 2 0) (guard_ints _ _ _ _ _ _) (run_lss_i _ _ _ Try.underlying3) (congrArg Value.bool (decide_eq_true (by omega)))) ?_
     refine QSeq.nil (t' := [_, _, _, _]) rfl ?_
     obtain rfl := HA0.out
     clear HA0 oe2 oe13
     simp only [pz, Act.put, List.setIfInBounds_toArray, List.set_cons_zero, List.set_cons_succ]
     obtain ⟨g3, o3, cs3, ea3, hrg, hrd, hcs⟩ := (((K6.out.mod Cx31.out (fun _ _ h => h)).mod Cx33.out (by intro k h1 h2; omega)).mod Cx40.out (by intro k h1 h2; omega)).at hcf
     obtain ⟨rfl, hu2⟩ := hrd
     generalize fs[i] = u2 at hcs hu2
     subst ea3
     have HAT3 := hid (show CellsAt (fun k => k < w.heap.size) u15_8 g3 (o3 + i * 1) [.int .u64 ((u2 : Nat) : Int)] from ⟨hrg, hcs⟩)
     clear hrg hcs
     have hu2' : u2 < U64 := hu2
     clear hu2
     obtain ⟨fl, hfl⟩ : ∃ x, x = u2 % 2000 := ⟨_, rfl⟩
     go_upto_region 17 with (fail)
     refine wp_region_U 127 [87, 88, 89, 90, 91, 92, 93] [0, 1, 2, 3, 4, 5, 6] (fun a0 HA0 => ?_)
     have oe2 := ev HA0 2 rfl
     have oe13 := ev HA0 13 rfl
     have oe14 := ev HA0 14 rfl
     refine QSeq.pure rfl _ (fun E => ex_move rfl (E.v oe14)) ?_
     refine QSeq.pure rfl _ (fun E => ex_move rfl (E.v oe2)) ?_
     refine QSeq.pure rfl _ (fun E => ex_move rfl (E.v oe13)) ?_
     refine QSeq.pure rfl (.pointer (some ⟨g3, o3 + i * 1, none⟩)) (fun E => ex_idxS (i := i) (s := 1) rfl Try.underlying22 (by kernel_rfl) (E.d 1 1) (E.d 2 0) (by omega)) ?_
     refine QSeq.pure rfl (.int .u64 ((u2 : Nat) : Int)) (fun E => ex_load1 rfl Try.underlying45 rfl (E.d 3 0) ((HAT3.out).2 0 _ rfl)) ?_
     refine QSeq.pure rfl (.int .u64 ((fl : Nat) : Int)) (fun E => ex_binE rfl (E.d 4 0) rfl (guard_ints _ _ _ _ _ _) (run_rem_i _ _ (by decide)) (congrArg (Value.int .u64) (show (((u2 : Nat) : Int)).tmod 2000 = ((fl : Nat) : Int) from (by rw [Int.tmod_eq_emod_of_nonneg (by omega)]; omega)))) ?_
     refine QSeq.call rfl rfl Try.func15 (Raise_Q (n := fl) Hx42.out (by intro k h1; omega) (by omega)) (fun E => args2 (E.d 0 5) (E.d 5 0)) ?_
     rintro e u17_6 ⟨rfl, qsp, hm⟩
     refine ⟨_, rfl, ?_⟩
     have Hx43 := hid qsp
     have zu17_6 := hm.size
     have Cx44 := hid (show Mod (fun k => (New u10_0 u10_1a k)) u15_8 u17_6 from hm)
     clear hm
     clear qsp Hx42
     refine QSeq.nil (t' := [_, _, _, _, _, _, _]) rfl ?_
     obtain rfl := HA0.out
     clear HA0 oe2 oe13 oe14
     simp only [pz, Act.put, List.setIfInBounds_toArray, List.set_cons_zero, List.set_cons_succ]
     clear HAT3
     have hq := Hx43.out
     rw [show raiseS ⟨nw, 0, t1, [] ++ [((ca.cl, ca.sq), ya)]⟩ fl = ⟨nw, fl, t1, [] ++ [((ca.cl, ca.sq), ya)]⟩ from by unfold raiseS; simp only [SS.mk.injEq, and_true, true_and]; omega] at hq
     have HSPr := Lib.hid hq
     clear hq
     clear Hx43
     obtain ⟨t2, ht2⟩ : ∃ t, t = max (max nw (fl + 1)) (t1 + 1) := ⟨_, rfl⟩
     go_upto_region 18 with (fail)
     refine wp_region_U 127 [95, 96, 97, 98, 94, 99, 100, 18, 135, 19] [0, 1, 2, 3, 4, 5, 6, 7, 8, 9] (fun a0 HA0 => ?_)
     have oe10 := ev HA0 10 rfl
     have oe12 := ev HA0 12 rfl
     have oe14 := ev HA0 14 rfl
     refine QSeq.pure rfl _ (fun E => ex_move rfl (E.v oe14)) ?_
     refine QSeq.pure rfl _ (fun E => ex_move rfl (E.v oe10)) ?_
     refine QSeq.pure rfl _ (fun E => ex_loadA rfl Try.underlying36 rfl (off := 0) (cs := cb.cells) (by rw [Cm.len HMDb.out.ok.2.1]; exact size_commit) (E.v oe12) (Cs.whole ((((K4.out.mod Cx31.out (fun h => h)).mod Cx33.out (by intro h2; omega)).mod Cx40.out (by intro h2; omega)).mod Cx44.out (by intro h2; omega)))) ?_
     refine QSeq.call rfl rfl Try.func14 (Stamp_B (t := t2) HSPr.out (Hx41.out.mod Cx44.out (by intro k h1 h2; omega)) (by intro k h1; omega) (by intro k h1; omega) (by intro k h1 h2; omega) HMDb.out.ok HMDb.out.si (HYFa.out.gr _ _ KR2.out) (mlook_one (by rw [HMDa.out.cl, HMDb.out.cl]; show (0 : Int) ≠ 1; decide)) ht2 (by omega) (by unfold I64; omega) (by have := HYFa.out.ln; omega)) (fun E => args3 (E.d 0 2) (E.d 1 1) (E.d 2 0)) ?_
     rintro e u18_3 ⟨yb, Mb, rfl, qsp, qbk, hst, hm⟩
     have HYFb := Lib.hid hst
     clear hst
     refine ⟨_, rfl, ?_⟩
     have Hx45 := hid qsp
     have Hx46 := hid qbk
     have zu18_3 := hm.size
     have Cx47 := hid (show Mod (fun k => (New u10_0 u10_1a k) ∨ (New u1_5 u2_0 k)) u17_6 u18_3 from hm)
     clear hm
     clear qsp qbk HSPr Hx41
     refine QSeq.pure rfl _ (fun E => ex_move rfl (E.d 3 0)) ?_
     refine QSeq.pure rfl (.agg yb.cells.toArray) (fun E => ex_extract rfl (E.d 4 0) rfl) ?_
     refine QSeq.pure rfl (.int .i64 0) (fun E => ex_extract rfl (E.d 4 1) rfl) ?_
     refine QSeq.go fun act E => ?_
     refine qc_alloc rfl (wanted_none rfl) rfl (z := [.int .i64 0, .int .i64 0, .int .i64 0, .int .u8 0, .int .u8 0, .int .u8 0, .int .u8 0, .int .u8 0, .int .u8 0, .int .u8 0, .int .u8 0, .int .u8 0, .int .u8 0, .int .u8 0, .int .u8 0, .int .u8 0, .int .u8 0, .int .u8 0, .int .u8 0, .int .u8 0, .int .u8 0, .int .u8 0, .int .u8 0, .int .u8 0, .int .u8 0, .int .u8 0, .int .u8 0, .int .u8 0, .int .u8 0, .int .u8 0, .int .u8 0, .int .u8 0, .int .u8 0, .int .u8 0, .int .u8 0, .int .u64 0, .int .i64 0, .int .i64 0]) (by kernel_rfl) ?_
     intro u18_7 qb18 hm
     have zl18_7 := qb18.lt
     have Hx48 := hid qb18
     have zu18_7 := hm.size
     have HMu18_7 := hid hm
     have Cx49 := hid (Cx47.out.goE hm)
     clear hm Cx47
     clear act E qb18
     refine QSeq.go fun act E => ?_
     have hlz : (yb.cells).length = List.length ([.int .i64 0, .int .i64 0, .int .i64 0, .int .u8 0, .int .u8 0, .int .u8 0, .int .u8 0, .int .u8 0, .int .u8 0, .int .u8 0, .int .u8 0, .int .u8 0, .int .u8 0, .int .u8 0, .int .u8 0, .int .u8 0, .int .u8 0, .int .u8 0, .int .u8 0, .int .u8 0, .int .u8 0, .int .u8 0, .int .u8 0, .int .u8 0, .int .u8 0, .int .u8 0, .int .u8 0, .int .u8 0, .int .u8 0, .int .u8 0, .int .u8 0, .int .u8 0, .int .u8 0, .int .u8 0, .int .u8 0, .int .u64 0, .int .i64 0, .int .i64 0] : List Value) := (by rw [St.len HYFb.out.ok]; rfl)
     refine qc_store rfl (wanted_none rfl) rfl Hx48.out (off := 0) (vs := yb.cells) (by rw [hlz]; kernel_rfl) (St.one yb) (by rw [hlz]; exact Nat.le_of_eq (Nat.zero_add _)) (E.d 7 0) (ec (E.d 5 2)) ?_
     intro u18_8 qc0 hm
     have qb18 := qc0.eqv (b := (yb.cells : List Value).toArray) (lay_whole (#[.int .i64 0, .int .i64 0, .int .i64 0, .int .u8 0, .int .u8 0, .int .u8 0, .int .u8 0, .int .u8 0, .int .u8 0, .int .u8 0, .int .u8 0, .int .u8 0, .int .u8 0, .int .u8 0, .int .u8 0, .int .u8 0, .int .u8 0, .int .u8 0, .int .u8 0, .int .u8 0, .int .u8 0, .int .u8 0, .int .u8 0, .int .u8 0, .int .u8 0, .int .u8 0, .int .u8 0, .int .u8 0, .int .u8 0, .int .u8 0, .int .u8 0, .int .u8 0, .int .u8 0, .int .u8 0, .int .u8 0, .int .u64 0, .int .i64 0, .int .i64 0]) _ (by rw [hlz]; rfl))
     clear qc0 hlz
     have Hx50 := hid qb18
     have zu18_8 := hm.size
     have HMu18_8 := hid hm
     have Cx51 := hid (Mod.goS (S' := (fun k => (New u10_0 u10_1a k) ∨ (New u1_5 u2_0 k))) Cx49.out hm (fun _ h => h) (by intro k h0 h2; omega))
     clear hm Cx49
     clear act E qb18 Hx48
     refine QSeq.pure rfl _ (fun E => ex_assign rfl (E.d 6 2)) ?_
     have Hx52 := hid ((Hx46.out.mod HMu18_7.out (fun _ _ h => h)).mod HMu18_8.out (by intro k h1 h2; omega))
     have Hx53 := hid ((Hx45.out.mod HMu18_7.out (fun _ _ h => h)).mod HMu18_8.out (by intro k h1 h2; omega))
     clear Hx46 Hx45 HMu18_7 HMu18_8
     refine QSeq.nil (t' := [_, _, _, _, _, _, _, _, _, _]) rfl ?_
     obtain rfl := HA0.out
     clear HA0 oe10 oe12 oe14
     simp only [pz, Act.put, List.setIfInBounds_toArray, List.set_cons_zero, List.set_cons_succ, List.set_nil]
     have htb := HYFb.out.tm
     have hta := HYFa.out.tm
     go_upto_region 19 with (fail)
     generalize ha0 : Act.mk _ _ = a0
     have oe14 : a0.eval (.tmp 14) = .pointer (some ⟨p, 0, none⟩) := by rw [← ha0]; rfl
     have oe16 : a0.eval (.tmp 16) = .pointer (some ⟨u15_3.heap.size, 0, none⟩) := by rw [← ha0]; rfl
     have oe17 : a0.eval (.tmp 17) = .int .i64 0 := by rw [← ha0]; rfl
     have oe18 : a0.eval (.tmp 18) = .pointer (some ⟨u18_3.heap.size, 0, none⟩) := by rw [← ha0]; rfl
     have oe19 : a0.eval (.tmp 19) = .int .i64 0 := by rw [← ha0]; rfl
     have hsz0 : a0.tmps.size = 127 := by rw [← ha0]; rfl
     have HA0 := hid ha0
     clear ha0
     refine wp_region_Q0 127 hsz0 [101, 102, 103, 104, 105, 106, 107, 108, 109, 110, 111, 112, 113, 114, 115, 116, 117, 118, 119, 120, 121, 122, 123, 124, 125] [qi (.int .i64 0), qi (.bool false), qi (.bool false), qi (.int .i64 0), qi (.bool false), qi (.bool false), qi (.bool false), qi (.pointer (some ⟨u15_3.heap.size, 35, none⟩)), qi (.int .u64 (ya.tm : Nat)), qi (.pointer (some ⟨u18_3.heap.size, 35, none⟩)), qi (.int .u64 (yb.tm : Nat)), qi (.bool false), qi (.bool false), qi (.bool false), qi (.pointer (some ⟨u18_3.heap.size, 35, none⟩)), qi (.int .u64 (yb.tm : Nat)), qi (.pointer (some ⟨p, 0, none⟩)), qi (.int .u64 ((fl : Nat) : Int)), qi (.bool false), qi (.bool false), qi (.bool false), qi (.pointer (some ⟨p, 0, none⟩)), qi (.int .i64 2), qi (.bool false), qi (.bool false)] ⟨qi_stable, qi_stable, qi_stable, qi_stable, qi_stable, qi_stable, qi_stable, qi_stable, qi_stable, qi_stable, qi_stable, qi_stable, qi_stable, qi_stable, qi_stable, qi_stable, qi_stable, qi_stable, qi_stable, qi_stable, qi_stable, qi_stable, qi_stable, qi_stable, qi_stable, trivial⟩ [] ⟨?_, ?_, ?_, ?_, ?_, ?_, ?_, ?_, ?_, ?_, ?_, ?_, ?_, ?_, ?_, ?_, ?_, ?_, ?_, ?_, ?_, ?_, ?_, ?_, ?_, trivial⟩ ?_
     ·exact stq (fun E => ex_move rfl (E.v oe17))
     ·exact stq (fun E => ex_binE rfl (E.d 0) rfl (guard_ints _ _ _ _ _ _) (run_neq_i _ _ _ Try.underlying40) (congrArg Value.bool (show _ = false from rfl)))
     ·exact stq (fun E => ex_move rfl (E.d 1))
     ·refine stepq_env rfl rfl rfl fun _ _ _ _ _ _ _ hout hsz hd _ _ => ?_
      have h2 := hd ⟨2, .guard⟩ (by simp) rfl _ rfl
      refine qe_run rfl ((wanted_of rfl rfl (hsz 103 (by decide)) h2).trans rfl) (ex_move rfl ((hout 19 (by decide)).trans oe19)) QE.refl ?_
      rfl
     ·refine stepq_env rfl rfl rfl fun _ _ _ _ _ _ _ _ hsz hd _ _ => ?_
      have h2 := hd ⟨2, .guard⟩ (by simp) rfl _ rfl
      have h3 := hd ⟨3, .data⟩ (by simp) rfl _ rfl
      refine qe_run rfl ((wanted_of rfl rfl (hsz 103 (by decide)) h2).trans rfl) (ex_binE rfl h3 rfl (guard_ints _ _ _ _ _ _) (run_neq_i _ _ _ Try.underlying40) (congrArg Value.bool (show _ = false from rfl))) QE.refl ?_
      rfl
     ·exact stq (fun E => ex_pick rfl (E.d 2) rfl (E.d 4))
     ·exact stq (fun E => ex_move rfl (E.d 5))
     ·refine stepq_env rfl rfl rfl fun _ _ _ _ _ _ _ hout hsz hd _ _ => ?_
      have h6 := hd ⟨6, .guard⟩ (by simp) rfl _ rfl
      refine qe_run rfl ((wanted_of rfl rfl (hsz 107 (by decide)) h6).trans rfl) (ex_field rfl Try.underlying47 rfl (by kernel_rfl) ((hout 16 (by decide)).trans oe16)) QE.refl ?_
      rfl
     ·refine stepq_env rfl rfl rfl fun _ _ _ _ _ hm _ _ hsz hd _ _ => ?_
      have h6 := hd ⟨6, .guard⟩ (by simp) rfl _ rfl
      have h7 := hd ⟨7, .data⟩ (by simp) rfl _ rfl
      refine qe_run rfl ((wanted_of rfl rfl (hsz 107 (by decide)) h6).trans rfl) (ex_load1 rfl Try.underlying45 rfl h7 (Cs.post1 (m := 32) (k := 0) (((Hx39.out.mod Cx44.out (by intro h2; omega)).mod Cx51.out (by intro h2; omega)).mod hm.old (by intro h2; omega)) (by rw [List.length_map]; exact HYFa.out.ok.h.1) rfl rfl)) QE.refl ?_
      rfl
     ·refine stepq_env rfl rfl rfl fun _ _ _ _ _ _ _ hout hsz hd _ _ => ?_
      have h6 := hd ⟨6, .guard⟩ (by simp) rfl _ rfl
      refine qe_run rfl ((wanted_of rfl rfl (hsz 107 (by decide)) h6).trans rfl) (ex_field rfl Try.underlying47 rfl (by kernel_rfl) ((hout 18 (by decide)).trans oe18)) QE.refl ?_
      rfl
     ·refine stepq_env rfl rfl rfl fun _ _ _ _ _ hm _ _ hsz hd _ _ => ?_
      have h6 := hd ⟨6, .guard⟩ (by simp) rfl _ rfl
      have h9 := hd ⟨9, .data⟩ (by simp) rfl _ rfl
      refine qe_run rfl ((wanted_of rfl rfl (hsz 107 (by decide)) h6).trans rfl) (ex_load1 rfl Try.underlying45 rfl h9 (Cs.post1 (m := 32) (k := 0) (Hx50.out.mod hm.old (by intro h2; omega)) (by rw [List.length_map]; exact HYFb.out.ok.h.1) rfl rfl)) QE.refl ?_
      rfl
     ·refine stepq_env rfl rfl rfl fun _ _ _ _ _ _ _ _ hsz hd _ _ => ?_
      have h6 := hd ⟨6, .guard⟩ (by simp) rfl _ rfl
      have h8 := hd ⟨8, .data⟩ (by simp) rfl _ rfl
      have h10 := hd ⟨10, .data⟩ (by simp) rfl _ rfl
      refine qe_run rfl ((wanted_of rfl rfl (hsz 107 (by decide)) h6).trans rfl) (ex_binE rfl h8 h10 (guard_ints _ _ _ _ _ _) (run_geq_i _ _ _ Try.underlying45) (congrArg Value.bool (decide_eq_false (by omega)))) QE.refl ?_
      rfl
     ·exact stq (fun E => ex_pick rfl (E.d 6) rfl (E.d 11))
     ·exact stq (fun E => ex_move rfl (E.d 12))
     ·refine stepq_env rfl rfl rfl fun _ _ _ _ _ _ _ hout hsz hd _ _ => ?_
      have h13 := hd ⟨13, .guard⟩ (by simp) rfl _ rfl
      refine qe_run rfl ((wanted_of rfl rfl (hsz 114 (by decide)) h13).trans rfl) (ex_field rfl Try.underlying47 rfl (by kernel_rfl) ((hout 18 (by decide)).trans oe18)) QE.refl ?_
      rfl
     ·refine stepq_env rfl rfl rfl fun _ _ _ _ _ hm _ _ hsz hd _ _ => ?_
      have h13 := hd ⟨13, .guard⟩ (by simp) rfl _ rfl
      have h14 := hd ⟨14, .data⟩ (by simp) rfl _ rfl
      refine qe_run rfl ((wanted_of rfl rfl (hsz 114 (by decide)) h13).trans rfl) (ex_load1 rfl Try.underlying45 rfl h14 (Cs.post1 (m := 32) (k := 0) (Hx50.out.mod hm.old (by intro h2; omega)) (by rw [List.length_map]; exact HYFb.out.ok.h.1) rfl rfl)) QE.refl ?_
      rfl
     ·refine stepq_env rfl rfl rfl fun _ _ _ _ _ _ _ hout hsz hd _ _ => ?_
      have h13 := hd ⟨13, .guard⟩ (by simp) rfl _ rfl
      refine qe_run rfl ((wanted_of rfl rfl (hsz 114 (by decide)) h13).trans rfl) (ex_move rfl ((hout 14 (by decide)).trans oe14)) QE.refl ?_
      rfl
     ·refine stepq_env rfl rfl rfl fun _ _ _ _ _ hm _ _ hsz hd _ _ => ?_
      have h13 := hd ⟨13, .chain⟩ (by simp) rfl _ rfl
      have h16 := hd ⟨16, .data⟩ (by simp) rfl _ rfl
      refine qe_callF (args := #[.pointer (some ⟨p, 0, none⟩)]) rfl ((wanted_of rfl rfl (hsz 114 (by decide)) h13).trans rfl) rfl Try.func16 (args1 h16) (Floor_Q (Hx53.out.mod hm.old (by intro k h1 h2; omega))) ?_
      rintro e w2 ⟨rfl, rfl⟩
      exact ⟨_, rfl, QE.refl, rfl⟩
     ·refine stepq_env rfl rfl rfl fun _ _ _ _ _ _ _ _ hsz hd _ _ => ?_
      have h13 := hd ⟨13, .guard⟩ (by simp) rfl _ rfl
      have h15 := hd ⟨15, .data⟩ (by simp) rfl _ rfl
      have h17 := hd ⟨17, .data⟩ (by simp) rfl _ rfl
      refine qe_run rfl ((wanted_of rfl rfl (hsz 114 (by decide)) h13).trans rfl) (ex_binE rfl h15 h17 (guard_ints _ _ _ _ _ _) (run_leq_i _ _ _ Try.underlying45) (congrArg Value.bool (decide_eq_false (by omega)))) QE.refl ?_
      rfl
     ·exact stq (fun E => ex_pick rfl (E.d 13) rfl (E.d 18))
     ·exact stq (fun E => ex_move rfl (E.d 19))
     ·refine stepq_env rfl rfl rfl fun _ _ _ _ _ _ _ hout hsz hd _ _ => ?_
      have h20 := hd ⟨20, .guard⟩ (by simp) rfl _ rfl
      refine qe_run rfl ((wanted_of rfl rfl (hsz 121 (by decide)) h20).trans rfl) (ex_move rfl ((hout 14 (by decide)).trans oe14)) QE.refl ?_
      rfl
     ·refine stepq_env rfl rfl rfl fun _ _ _ _ _ hm _ _ hsz hd _ _ => ?_
      have h20 := hd ⟨20, .chain⟩ (by simp) rfl _ rfl
      have h21 := hd ⟨21, .data⟩ (by simp) rfl _ rfl
      refine qe_callF (args := #[.pointer (some ⟨p, 0, none⟩)]) rfl ((wanted_of rfl rfl (hsz 121 (by decide)) h20).trans rfl) rfl Try.func17 (args1 h21) (SLen_Q (Hx53.out.mod hm.old (by intro k h1 h2; omega))) ?_
      rintro e w2 ⟨rfl, rfl⟩
      exact ⟨_, rfl, QE.refl, rfl⟩
     ·refine stepq_env rfl rfl rfl fun _ _ _ _ _ _ _ _ hsz hd _ _ => ?_
      have h20 := hd ⟨20, .guard⟩ (by simp) rfl _ rfl
      have h22 := hd ⟨22, .data⟩ (by simp) rfl _ rfl
      refine qe_run rfl ((wanted_of rfl rfl (hsz 121 (by decide)) h20).trans rfl) (ex_binE rfl h22 rfl (guard_ints _ _ _ _ _ _) (run_neq_i _ _ _ Try.underlying3) (congrArg Value.bool (ne_ff rfl))) QE.refl ?_
      rfl
     ·exact stq (fun E => ex_pick rfl (E.d 20) rfl (E.d 23))
     intro u19_0 hr
     have zu19_0 := hr.size
     have Cx54 := hid (hr.new (S := (fun _ => False)))
     clear hr
     refine QChain.nil fun vs hl hzz hrows hne => ?_
     obtain ⟨Z, hYZ, hZb, hV⟩ := hzz
     have f0 := fvi hV hl 0
     have f2 := fvi hV hl 2
     have f3 := fvi hV hl 3
     have f6 := fvi hV hl 6
     have f13 := fvi hV hl 13
     have f16 := fvi hV hl 16
     have f17 := fvi hV hl 17
     have f20 := fvi hV hl 20
     have f21 := fvi hV hl 21
     have f22 := fvi hV hl 22
     have f24 := fvi hV hl 24
     rw [show vs = [gw vs 0, gw vs 1, gw vs 2, gw vs 3, gw vs 4, gw vs 5, gw vs 6, gw vs 7, gw vs 8, gw vs 9, gw vs 10, gw vs 11, gw vs 12, gw vs 13, gw vs 14, gw vs 15, gw vs 16, gw vs 17, gw vs 18, gw vs 19, gw vs 20, gw vs 21, gw vs 22, gw vs 23, gw vs 24] from (gw_eta hl).trans rfl]
     have ha0 := HA0.out
     subst ha0
     clear HA0 hV hYZ hZb hsz0 hrows hne oe14 oe16 oe17 oe18 oe19
     simp only [putAll, Act.put, List.setIfInBounds_toArray, List.set_cons_zero, List.set_cons_succ, f0, f2, f3, f6, f13, f16, f17, f20, f21, f22, f24]
     clear hl f0 f2 f3 f6 f13 f16 f17 f20 f21 f22 f24
     clear Hx39
     clear Hx50
     clear Hx53
     go_upto_region 9 with (fail)
     refine wp_region_U 127 [45, 46, 13] [0, 1, 2] (fun a0 HA0 => ?_)
     have oe13 := ev HA0 13 rfl
     refine QSeq.pure rfl _ (fun E => ex_move rfl (E.y 2 oe13)) ?_
     refine QSeq.pure rfl (.int .i64 (((i + 1) : Nat) : Int)) (fun E => ex_binE rfl (E.d 0 0) rfl (guard_ints _ _ _ _ _ _) (run_add_i _ _ Try.underlying3) (congrArg (Value.int .i64) (i64_eq (b := (((i + 1) : Nat) : Int)) (by omega) (by omega) (by omega)))) ?_
     refine QSeq.pure rfl _ (fun E => ex_assign rfl (E.d 1 0)) ?_
     refine QSeq.nil (t' := [_, _, _]) rfl ?_
     obtain rfl := HA0.out
     clear HA0 oe13
     simp only [pz, Act.put, List.setIfInBounds_toArray, List.set_cons_zero, List.set_cons_succ]
     go_wp2
     go_roundw
     case rel => exact ⟨i + 1, Mb, rfl, by omega, (by have := HYFa.out.ln; have := HYFb.out.ln; omega), HYFb.out.gr _ _ (HYFa.out.gr _ _ KR1.out), HYFb.out.gr _ _ (HYFa.out.gr _ _ KR2.out), by omega, (Hx52.out.mod Cx54.out (fun _ _ h => h)), ((((((K2.out.mod Cx31.out (fun h => h)).mod Cx33.out (by intro h2; omega)).mod Cx40.out (by intro h2; omega)).mod Cx44.out (by intro h2; omega)).mod Cx51.out (by intro h2; omega)).mod Cx54.out (fun h => h)), ((((((K3.out.mod Cx31.out (fun h => h)).mod Cx33.out (by intro h2; omega)).mod Cx40.out (by intro h2; omega)).mod Cx44.out (by intro h2; omega)).mod Cx51.out (by intro h2; omega)).mod Cx54.out (fun h => h)), ((((((K4.out.mod Cx31.out (fun h => h)).mod Cx33.out (by intro h2; omega)).mod Cx40.out (by intro h2; omega)).mod Cx44.out (by intro h2; omega)).mod Cx51.out (by intro h2; omega)).mod Cx54.out (fun h => h)), ((((((K5.out.mod Cx31.out (fun _ _ h => h)).mod Cx33.out (by intro k h1 h2; omega)).mod Cx40.out (by intro k h1 h2; omega)).mod Cx44.out (by intro k h1 h2; omega)).mod Cx51.out (by intro k h1 h2; omega)).mod Cx54.out (fun _ _ h => h)), ((((((K6.out.mod Cx31.out (fun _ _ h => h)).mod Cx33.out (by intro k h1 h2; omega)).mod Cx40.out (by intro k h1 h2; omega)).mod Cx44.out (by intro k h1 h2; omega)).mod Cx51.out (by intro k h1 h2; omega)).mod Cx54.out (fun _ _ h => h)), ((((((K7.out.mod Cx31.out (fun _ _ h => h)).mod Cx33.out (by intro k h1 h2; omega)).mod Cx40.out (by intro k h1 h2; omega)).mod Cx44.out (by intro k h1 h2; omega)).mod Cx51.out (by intro k h1 h2; omega)).mod Cx54.out (fun _ _ h => h)), ((((((K8.out.trans Cx31.out (fun _ _ h => h.elim)).trans Cx33.out (by intro k h1 h2; omega)).trans Cx40.out (by intro k h1 h2; omega)).trans Cx44.out (by intro k h1 h2; omega)).trans Cx51.out (by intro k h1 h2; omega)).trans Cx54.out (fun _ _ h => h.elim))⟩
     case measure => simp [intOf]; omega
    ·obtain ⟨fl, hfl⟩ : ∃ x : Nat, x = 0 := ⟨_, rfl⟩
     go_upto_region 16 with (fail)
     refine wp_region_U 127 [83, 84, 85, 86] [0, 1, 2, 3] (fun a0 HA0 => ?_)
     have oe2 := ev HA0 2 rfl
     have oe13 := ev HA0 13 rfl
     refine QSeq.pure rfl _ (fun E => ex_move rfl (E.v oe13)) ?_
     refine QSeq.pure rfl _ (fun E => ex_move rfl (E.v oe2)) ?_
     refine QSeq.pure rfl (.int .i64 fs.length) (fun E => ex_lenS rfl (E.d 1 0) Try.underlying22) ?_
     refine QSeq.pure rfl (.bool false) (fun E => ex_binE rfl (E.d 0 2) (E.d 2 0) (guard_ints _ _ _ _ _ _) (run_lss_i _ _ _ Try.underlying3) (congrArg Value.bool (decide_eq_false (by omega)))) ?_
     refine QSeq.nil (t' := [_, _, _, _]) rfl ?_
     obtain rfl := HA0.out
     clear HA0 oe2 oe13
     simp only [pz, Act.put, List.setIfInBounds_toArray, List.set_cons_zero, List.set_cons_succ]
     have hq := Hx42.out
     rw [show (⟨nw, 0, t1, [] ++ [((ca.cl, ca.sq), ya)]⟩ : SS) = ⟨nw, fl, t1, [] ++ [((ca.cl, ca.sq), ya)]⟩ from by rw [hfl]] at hq
     have HSPr := Lib.hid hq
     clear hq
     clear Hx42
     obtain ⟨t2, ht2⟩ : ∃ t, t = max (max nw (fl + 1)) (t1 + 1) := ⟨_, rfl⟩
     go_upto_region 18 with (fail)
     refine wp_region_U 127 [95, 96, 97, 98, 94, 99, 100, 18, 135, 19] [0, 1, 2, 3, 4, 5, 6, 7, 8, 9] (fun a0 HA0 => ?_)
     have oe10 := ev HA0 10 rfl
     have oe12 := ev HA0 12 rfl
     have oe14 := ev HA0 14 rfl
     refine QSeq.pure rfl _ (fun E => ex_move rfl (E.v oe14)) ?_
     refine QSeq.pure rfl _ (fun E => ex_move rfl (E.v oe10)) ?_
     refine QSeq.pure rfl _ (fun E => ex_loadA rfl Try.underlying36 rfl (off := 0) (cs := cb.cells) (by rw [Cm.len HMDb.out.ok.2.1]; exact size_commit) (E.v oe12) (Cs.whole (((K4.out.mod Cx31.out (fun h => h)).mod Cx33.out (by intro h2; omega)).mod Cx40.out (by intro h2; omega)))) ?_
     refine QSeq.call rfl rfl Try.func14 (Stamp_B (t := t2) HSPr.out Hx41.out (by intro k h1; omega) (by intro k h1; omega) (by intro k h1 h2; omega) HMDb.out.ok HMDb.out.si (HYFa.out.gr _ _ KR2.out) (mlook_one (by rw [HMDa.out.cl, HMDb.out.cl]; show (0 : Int) ≠ 1; decide)) ht2 (by omega) (by unfold I64; omega) (by have := HYFa.out.ln; omega)) (fun E => args3 (E.d 0 2) (E.d 1 1) (E.d 2 0)) ?_
     rintro e u18_3 ⟨yb, Mb, rfl, qsp, qbk, hst, hm⟩
     have HYFb := Lib.hid hst
     clear hst
     refine ⟨_, rfl, ?_⟩
     have Hx55 := hid qsp
     have Hx56 := hid qbk
     have zu18_3 := hm.size
     have Cx57 := hid (show Mod (fun k => (New u10_0 u10_1a k) ∨ (New u1_5 u2_0 k)) u15_8 u18_3 from hm)
     clear hm
     clear qsp qbk HSPr Hx41
     refine QSeq.pure rfl _ (fun E => ex_move rfl (E.d 3 0)) ?_
     refine QSeq.pure rfl (.agg yb.cells.toArray) (fun E => ex_extract rfl (E.d 4 0) rfl) ?_
     refine QSeq.pure rfl (.int .i64 0) (fun E => ex_extract rfl (E.d 4 1) rfl) ?_
     refine QSeq.go fun act E => ?_
     refine qc_alloc rfl (wanted_none rfl) rfl (z := [.int .i64 0, .int .i64 0, .int .i64 0, .int .u8 0, .int .u8 0, .int .u8 0, .int .u8 0, .int .u8 0, .int .u8 0, .int .u8 0, .int .u8 0, .int .u8 0, .int .u8 0, .int .u8 0, .int .u8 0, .int .u8 0, .int .u8 0, .int .u8 0, .int .u8 0, .int .u8 0, .int .u8 0, .int .u8 0, .int .u8 0, .int .u8 0, .int .u8 0, .int .u8 0, .int .u8 0, .int .u8 0, .int .u8 0, .int .u8 0, .int .u8 0, .int .u8 0, .int .u8 0, .int .u8 0, .int .u8 0, .int .u64 0, .int .i64 0, .int .i64 0]) (by kernel_rfl) ?_
     intro u18_7 qb18 hm
     have zl18_7 := qb18.lt
     have Hx58 := hid qb18
     have zu18_7 := hm.size
     have HMu18_7 := hid hm
     have Cx59 := hid (Cx57.out.goE hm)
     clear hm Cx57
     clear act E qb18
     refine QSeq.go fun act E => ?_
     have hlz : (yb.cells).length = List.length ([.int .i64 0, .int .i64 0, .int .i64 0, .int .u8 0, .int .u8 0, .int .u8 0, .int .u8 0, .int .u8 0, .int .u8 0, .int .u8 0, .int .u8 0, .int .u8 0, .int .u8 0, .int .u8 0, .int .u8 0, .int .u8 0, .int .u8 0, .int .u8 0, .int .u8 0, .int .u8 0, .int .u8 0, .int .u8 0, .int .u8 0, .int .u8 0, .int .u8 0, .int .u8 0, .int .u8 0, .int .u8 0, .int .u8 0, .int .u8 0, .int .u8 0, .int .u8 0, .int .u8 0, .int .u8 0, .int .u8 0, .int .u64 0, .int .i64 0, .int .i64 0] : List Value) := (by rw [St.len HYFb.out.ok]; rfl)
     refine qc_store rfl (wanted_none rfl) rfl Hx58.out (off := 0) (vs := yb.cells) (by rw [hlz]; kernel_rfl) (St.one yb) (by rw [hlz]; exact Nat.le_of_eq (Nat.zero_add _)) (E.d 7 0) (ec (E.d 5 2)) ?_
     intro u18_8 qc0 hm
     have qb18 := qc0.eqv (b := (yb.cells : List Value).toArray) (lay_whole (#[.int .i64 0, .int .i64 0, .int .i64 0, .int .u8 0, .int .u8 0, .int .u8 0, .int .u8 0, .int .u8 0, .int .u8 0, .int .u8 0, .int .u8 0, .int .u8 0, .int .u8 0, .int .u8 0, .int .u8 0, .int .u8 0, .int .u8 0, .int .u8 0, .int .u8 0, .int .u8 0, .int .u8 0, .int .u8 0, .int .u8 0, .int .u8 0, .int .u8 0, .int .u8 0, .int .u8 0, .int .u8 0, .int .u8 0, .int .u8 0, .int .u8 0, .int .u8 0, .int .u8 0, .int .u8 0, .int .u8 0, .int .u64 0, .int .i64 0, .int .i64 0]) _ (by rw [hlz]; rfl))
     clear qc0 hlz
     have Hx60 := hid qb18
     have zu18_8 := hm.size
     have HMu18_8 := hid hm
     have Cx61 := hid (Mod.goS (S' := (fun k => (New u10_0 u10_1a k) ∨ (New u1_5 u2_0 k))) Cx59.out hm (fun _ h => h) (by intro k h0 h2; omega))
     clear hm Cx59
     clear act E qb18 Hx58
     refine QSeq.pure rfl _ (fun E => ex_assign rfl (E.d 6 2)) ?_
     have Hx62 := hid ((Hx56.out.mod HMu18_7.out (fun _ _ h => h)).mod HMu18_8.out (by intro k h1 h2; omega))
     have Hx63 := hid ((Hx55.out.mod HMu18_7.out (fun _ _ h => h)).mod HMu18_8.out (by intro k h1 h2; omega))
     clear Hx56 Hx55 HMu18_7 HMu18_8
     refine QSeq.nil (t' := [_, _, _, _, _, _, _, _, _, _]) rfl ?_
     obtain rfl := HA0.out
     clear HA0 oe10 oe12 oe14
     simp only [pz, Act.put, List.setIfInBounds_toArray, List.set_cons_zero, List.set_cons_succ, List.set_nil]
     have htb := HYFb.out.tm
     have hta := HYFa.out.tm
     go_upto_region 19 with (fail)
     generalize ha0 : Act.mk _ _ = a0
     have oe14 : a0.eval (.tmp 14) = .pointer (some ⟨p, 0, none⟩) := by rw [← ha0]; rfl
     have oe16 : a0.eval (.tmp 16) = .pointer (some ⟨u15_3.heap.size, 0, none⟩) := by rw [← ha0]; rfl
     have oe17 : a0.eval (.tmp 17) = .int .i64 0 := by rw [← ha0]; rfl
     have oe18 : a0.eval (.tmp 18) = .pointer (some ⟨u18_3.heap.size, 0, none⟩) := by rw [← ha0]; rfl
     have oe19 : a0.eval (.tmp 19) = .int .i64 0 := by rw [← ha0]; rfl
     have hsz0 : a0.tmps.size = 127 := by rw [← ha0]; rfl
     have HA0 := hid ha0
     clear ha0
     refine wp_region_Q0 127 hsz0 [101, 102, 103, 104, 105, 106, 107, 108, 109, 110, 111, 112, 113, 114, 115, 116, 117, 118, 119, 120, 121, 122, 123, 124, 125] [qi (.int .i64 0), qi (.bool false), qi (.bool false), qi (.int .i64 0), qi (.bool false), qi (.bool false), qi (.bool false), qi (.pointer (some ⟨u15_3.heap.size, 35, none⟩)), qi (.int .u64 (ya.tm : Nat)), qi (.pointer (some ⟨u18_3.heap.size, 35, none⟩)), qi (.int .u64 (yb.tm : Nat)), qi (.bool false), qi (.bool false), qi (.bool false), qi (.pointer (some ⟨u18_3.heap.size, 35, none⟩)), qi (.int .u64 (yb.tm : Nat)), qi (.pointer (some ⟨p, 0, none⟩)), qi (.int .u64 ((fl : Nat) : Int)), qi (.bool false), qi (.bool false), qi (.bool false), qi (.pointer (some ⟨p, 0, none⟩)), qi (.int .i64 2), qi (.bool false), qi (.bool false)] ⟨qi_stable, qi_stable, qi_stable, qi_stable, qi_stable, qi_stable, qi_stable, qi_stable, qi_stable, qi_stable, qi_stable, qi_stable, qi_stable, qi_stable, qi_stable, qi_stable, qi_stable, qi_stable, qi_stable, qi_stable, qi_stable, qi_stable, qi_stable, qi_stable, qi_stable, trivial⟩ [] ⟨?_, ?_, ?_, ?_, ?_, ?_, ?_, ?_, ?_, ?_, ?_, ?_, ?_, ?_, ?_, ?_, ?_, ?_, ?_, ?_, ?_, ?_, ?_, ?_, ?_, trivial⟩ ?_
     ·exact stq (fun E => ex_move rfl (E.v oe17))
     ·exact stq (fun E => ex_binE rfl (E.d 0) rfl (guard_ints _ _ _ _ _ _) (run_neq_i _ _ _ Try.underlying40) (congrArg Value.bool (show _ = false from rfl)))
     ·exact stq (fun E => ex_move rfl (E.d 1))
     ·refine stepq_env rfl rfl rfl fun _ _ _ _ _ _ _ hout hsz hd _ _ => ?_
      have h2 := hd ⟨2, .guard⟩ (by simp) rfl _ rfl
      refine qe_run rfl ((wanted_of rfl rfl (hsz 103 (by decide)) h2).trans rfl) (ex_move rfl ((hout 19 (by decide)).trans oe19)) QE.refl ?_
      rfl
     ·refine stepq_env rfl rfl rfl fun _ _ _ _ _ _ _ _ hsz hd _ _ => ?_
      have h2 := hd ⟨2, .guard⟩ (by simp) rfl _ rfl
      have h3 := hd ⟨3, .data⟩ (by simp) rfl _ rfl
      refine qe_run rfl ((wanted_of rfl rfl (hsz 103 (by decide)) h2).trans rfl) (ex_binE rfl h3 rfl (guard_ints _ _ _ _ _ _) (run_neq_i _ _ _ Try.underlying40) (congrArg Value.bool (show _ = false from rfl))) QE.refl ?_
      rfl
     ·exact stq (fun E => ex_pick rfl (E.d 2) rfl (E.d 4))
     ·exact stq (fun E => ex_move rfl (E.d 5))
     ·refine stepq_env rfl rfl rfl fun _ _ _ _ _ _ _ hout hsz hd _ _ => ?_
      have h6 := hd ⟨6, .guard⟩ (by simp) rfl _ rfl
      refine qe_run rfl ((wanted_of rfl rfl (hsz 107 (by decide)) h6).trans rfl) (ex_field rfl Try.underlying47 rfl (by kernel_rfl) ((hout 16 (by decide)).trans oe16)) QE.refl ?_
      rfl
     ·refine stepq_env rfl rfl rfl fun _ _ _ _ _ hm _ _ hsz hd _ _ => ?_
      have h6 := hd ⟨6, .guard⟩ (by simp) rfl _ rfl
      have h7 := hd ⟨7, .data⟩ (by simp) rfl _ rfl
      refine qe_run rfl ((wanted_of rfl rfl (hsz 107 (by decide)) h6).trans rfl) (ex_load1 rfl Try.underlying45 rfl h7 (Cs.post1 (m := 32) (k := 0) ((Hx39.out.mod Cx61.out (by intro h2; omega)).mod hm.old (by intro h2; omega)) (by rw [List.length_map]; exact HYFa.out.ok.h.1) rfl rfl)) QE.refl ?_
      rfl
     ·refine stepq_env rfl rfl rfl fun _ _ _ _ _ _ _ hout hsz hd _ _ => ?_
      have h6 := hd ⟨6, .guard⟩ (by simp) rfl _ rfl
      refine qe_run rfl ((wanted_of rfl rfl (hsz 107 (by decide)) h6).trans rfl) (ex_field rfl Try.underlying47 rfl (by kernel_rfl) ((hout 18 (by decide)).trans oe18)) QE.refl ?_
      rfl
     ·refine stepq_env rfl rfl rfl fun _ _ _ _ _ hm _ _ hsz hd _ _ => ?_
      have h6 := hd ⟨6, .guard⟩ (by simp) rfl _ rfl
      have h9 := hd ⟨9, .data⟩ (by simp) rfl _ rfl
      refine qe_run rfl ((wanted_of rfl rfl (hsz 107 (by decide)) h6).trans rfl) (ex_load1 rfl Try.underlying45 rfl h9 (Cs.post1 (m := 32) (k := 0) (Hx60.out.mod hm.old (by intro h2; omega)) (by rw [List.length_map]; exact HYFb.out.ok.h.1) rfl rfl)) QE.refl ?_
      rfl
     ·refine stepq_env rfl rfl rfl fun _ _ _ _ _ _ _ _ hsz hd _ _ => ?_
      have h6 := hd ⟨6, .guard⟩ (by simp) rfl _ rfl
      have h8 := hd ⟨8, .data⟩ (by simp) rfl _ rfl
      have h10 := hd ⟨10, .data⟩ (by simp) rfl _ rfl
      refine qe_run rfl ((wanted_of rfl rfl (hsz 107 (by decide)) h6).trans rfl) (ex_binE rfl h8 h10 (guard_ints _ _ _ _ _ _) (run_geq_i _ _ _ Try.underlying45) (congrArg Value.bool (decide_eq_false (by omega)))) QE.refl ?_
      rfl
     ·exact stq (fun E => ex_pick rfl (E.d 6) rfl (E.d 11))
     ·exact stq (fun E => ex_move rfl (E.d 12))
     ·refine stepq_env rfl rfl rfl fun _ _ _ _ _ _ _ hout hsz hd _ _ => ?_
      have h13 := hd ⟨13, .guard⟩ (by simp) rfl _ rfl
      refine qe_run rfl ((wanted_of rfl rfl (hsz 114 (by decide)) h13).trans rfl) (ex_field rfl Try.underlying47 rfl (by kernel_rfl) ((hout 18 (by decide)).trans oe18)) QE.refl ?_
      rfl
     ·refine stepq_env rfl rfl rfl fun _ _ _ _ _ hm _ _ hsz hd _ _ => ?_
      have h13 := hd ⟨13, .guard⟩ (by simp) rfl _ rfl
      have h14 := hd ⟨14, .data⟩ (by simp) rfl _ rfl
      refine qe_run rfl ((wanted_of rfl rfl (hsz 114 (by decide)) h13).trans rfl) (ex_load1 rfl Try.underlying45 rfl h14 (Cs.post1 (m := 32) (k := 0) (Hx60.out.mod hm.old (by intro h2; omega)) (by rw [List.length_map]; exact HYFb.out.ok.h.1) rfl rfl)) QE.refl ?_
      rfl
     ·refine stepq_env rfl rfl rfl fun _ _ _ _ _ _ _ hout hsz hd _ _ => ?_
      have h13 := hd ⟨13, .guard⟩ (by simp) rfl _ rfl
      refine qe_run rfl ((wanted_of rfl rfl (hsz 114 (by decide)) h13).trans rfl) (ex_move rfl ((hout 14 (by decide)).trans oe14)) QE.refl ?_
      rfl
     ·refine stepq_env rfl rfl rfl fun _ _ _ _ _ hm _ _ hsz hd _ _ => ?_
      have h13 := hd ⟨13, .chain⟩ (by simp) rfl _ rfl
      have h16 := hd ⟨16, .data⟩ (by simp) rfl _ rfl
      refine qe_callF (args := #[.pointer (some ⟨p, 0, none⟩)]) rfl ((wanted_of rfl rfl (hsz 114 (by decide)) h13).trans rfl) rfl Try.func16 (args1 h16) (Floor_Q (Hx63.out.mod hm.old (by intro k h1 h2; omega))) ?_
      rintro e w2 ⟨rfl, rfl⟩
      exact ⟨_, rfl, QE.refl, rfl⟩
     ·refine stepq_env rfl rfl rfl fun _ _ _ _ _ _ _ _ hsz hd _ _ => ?_
      have h13 := hd ⟨13, .guard⟩ (by simp) rfl _ rfl
      have h15 := hd ⟨15, .data⟩ (by simp) rfl _ rfl
      have h17 := hd ⟨17, .data⟩ (by simp) rfl _ rfl
      refine qe_run rfl ((wanted_of rfl rfl (hsz 114 (by decide)) h13).trans rfl) (ex_binE rfl h15 h17 (guard_ints _ _ _ _ _ _) (run_leq_i _ _ _ Try.underlying45) (congrArg Value.bool (decide_eq_false (by omega)))) QE.refl ?_
      rfl
     ·exact stq (fun E => ex_pick rfl (E.d 13) rfl (E.d 18))
     ·exact stq (fun E => ex_move rfl (E.d 19))
     ·refine stepq_env rfl rfl rfl fun _ _ _ _ _ _ _ hout hsz hd _ _ => ?_
      have h20 := hd ⟨20, .guard⟩ (by simp) rfl _ rfl
      refine qe_run rfl ((wanted_of rfl rfl (hsz 121 (by decide)) h20).trans rfl) (ex_move rfl ((hout 14 (by decide)).trans oe14)) QE.refl ?_
      rfl
     ·refine stepq_env rfl rfl rfl fun _ _ _ _ _ hm _ _ hsz hd _ _ => ?_
      have h20 := hd ⟨20, .chain⟩ (by simp) rfl _ rfl
      have h21 := hd ⟨21, .data⟩ (by simp) rfl _ rfl
      refine qe_callF (args := #[.pointer (some ⟨p, 0, none⟩)]) rfl ((wanted_of rfl rfl (hsz 121 (by decide)) h20).trans rfl) rfl Try.func17 (args1 h21) (SLen_Q (Hx63.out.mod hm.old (by intro k h1 h2; omega))) ?_
      rintro e w2 ⟨rfl, rfl⟩
      exact ⟨_, rfl, QE.refl, rfl⟩
     ·refine stepq_env rfl rfl rfl fun _ _ _ _ _ _ _ _ hsz hd _ _ => ?_
      have h20 := hd ⟨20, .guard⟩ (by simp) rfl _ rfl
      have h22 := hd ⟨22, .data⟩ (by simp) rfl _ rfl
      refine qe_run rfl ((wanted_of rfl rfl (hsz 121 (by decide)) h20).trans rfl) (ex_binE rfl h22 rfl (guard_ints _ _ _ _ _ _) (run_neq_i _ _ _ Try.underlying3) (congrArg Value.bool (ne_ff rfl))) QE.refl ?_
      rfl
     ·exact stq (fun E => ex_pick rfl (E.d 20) rfl (E.d 23))
     intro u19_0 hr
     have zu19_0 := hr.size
     have Cx64 := hid (hr.new (S := (fun _ => False)))
     clear hr
     refine QChain.nil fun vs hl hzz hrows hne => ?_
     obtain ⟨Z, hYZ, hZb, hV⟩ := hzz
     have f0 := fvi hV hl 0
     have f2 := fvi hV hl 2
     have f3 := fvi hV hl 3
     have f6 := fvi hV hl 6
     have f13 := fvi hV hl 13
     have f16 := fvi hV hl 16
     have f17 := fvi hV hl 17
     have f20 := fvi hV hl 20
     have f21 := fvi hV hl 21
     have f22 := fvi hV hl 22
     have f24 := fvi hV hl 24
     rw [show vs = [gw vs 0, gw vs 1, gw vs 2, gw vs 3, gw vs 4, gw vs 5, gw vs 6, gw vs 7, gw vs 8, gw vs 9, gw vs 10, gw vs 11, gw vs 12, gw vs 13, gw vs 14, gw vs 15, gw vs 16, gw vs 17, gw vs 18, gw vs 19, gw vs 20, gw vs 21, gw vs 22, gw vs 23, gw vs 24] from (gw_eta hl).trans rfl]
     have ha0 := HA0.out
     subst ha0
     clear HA0 hV hYZ hZb hsz0 hrows hne oe14 oe16 oe17 oe18 oe19
     simp only [putAll, Act.put, List.setIfInBounds_toArray, List.set_cons_zero, List.set_cons_succ, f0, f2, f3, f6, f13, f16, f17, f20, f21, f22, f24]
     clear hl f0 f2 f3 f6 f13 f16 f17 f20 f21 f22 f24
     clear Hx39
     clear Hx60
     clear Hx63
     go_upto_region 9 with (fail)
     refine wp_region_U 127 [45, 46, 13] [0, 1, 2] (fun a0 HA0 => ?_)
     have oe13 := ev HA0 13 rfl
     refine QSeq.pure rfl _ (fun E => ex_move rfl (E.y 2 oe13)) ?_
     refine QSeq.pure rfl (.int .i64 (((i + 1) : Nat) : Int)) (fun E => ex_binE rfl (E.d 0 0) rfl (guard_ints _ _ _ _ _ _) (run_add_i _ _ Try.underlying3) (congrArg (Value.int .i64) (i64_eq (b := (((i + 1) : Nat) : Int)) (by omega) (by omega) (by omega)))) ?_
     refine QSeq.pure rfl _ (fun E => ex_assign rfl (E.d 1 0)) ?_
     refine QSeq.nil (t' := [_, _, _]) rfl ?_
     obtain rfl := HA0.out
     clear HA0 oe13
     simp only [pz, Act.put, List.setIfInBounds_toArray, List.set_cons_zero, List.set_cons_succ]
     go_wp2
     go_roundw
     case rel => exact ⟨i + 1, Mb, rfl, by omega, (by have := HYFa.out.ln; have := HYFb.out.ln; omega), HYFb.out.gr _ _ (HYFa.out.gr _ _ KR1.out), HYFb.out.gr _ _ (HYFa.out.gr _ _ KR2.out), by omega, (Hx62.out.mod Cx64.out (fun _ _ h => h)), (((((K2.out.mod Cx31.out (fun h => h)).mod Cx33.out (by intro h2; omega)).mod Cx40.out (by intro h2; omega)).mod Cx61.out (by intro h2; omega)).mod Cx64.out (fun h => h)), (((((K3.out.mod Cx31.out (fun h => h)).mod Cx33.out (by intro h2; omega)).mod Cx40.out (by intro h2; omega)).mod Cx61.out (by intro h2; omega)).mod Cx64.out (fun h => h)), (((((K4.out.mod Cx31.out (fun h => h)).mod Cx33.out (by intro h2; omega)).mod Cx40.out (by intro h2; omega)).mod Cx61.out (by intro h2; omega)).mod Cx64.out (fun h => h)), (((((K5.out.mod Cx31.out (fun _ _ h => h)).mod Cx33.out (by intro k h1 h2; omega)).mod Cx40.out (by intro k h1 h2; omega)).mod Cx61.out (by intro k h1 h2; omega)).mod Cx64.out (fun _ _ h => h)), (((((K6.out.mod Cx31.out (fun _ _ h => h)).mod Cx33.out (by intro k h1 h2; omega)).mod Cx40.out (by intro k h1 h2; omega)).mod Cx61.out (by intro k h1 h2; omega)).mod Cx64.out (fun _ _ h => h)), (((((K7.out.mod Cx31.out (fun _ _ h => h)).mod Cx33.out (by intro k h1 h2; omega)).mod Cx40.out (by intro k h1 h2; omega)).mod Cx61.out (by intro k h1 h2; omega)).mod Cx64.out (fun _ _ h => h)), (((((K8.out.trans Cx31.out (fun _ _ h => h.elim)).trans Cx33.out (by intro k h1 h2; omega)).trans Cx40.out (by intro k h1 h2; omega)).trans Cx61.out (by intro k h1 h2; omega)).trans Cx64.out (fun _ _ h => h.elim))⟩
     case measure => simp [intOf]; omega
   ·obtain ⟨nw, hnw⟩ : ∃ x : Nat, x = 0 := ⟨_, rfl⟩
    go_upto_region 13 with (fail)
    refine wp_region_U 127 [65, 66, 67, 68] [0, 1, 2, 3] (fun a0 HA0 => ?_)
    have oe1 := ev HA0 1 rfl
    have oe13 := ev HA0 13 rfl
    refine QSeq.pure rfl _ (fun E => ex_move rfl (E.v oe13)) ?_
    refine QSeq.pure rfl _ (fun E => ex_move rfl (E.v oe1)) ?_
    refine QSeq.pure rfl (.int .i64 ts.length) (fun E => ex_lenS rfl (E.d 1 0) Try.underlying22) ?_
    refine QSeq.pure rfl (.bool false) (fun E => ex_binE rfl (E.d 0 2) (E.d 2 0) (guard_ints _ _ _ _ _ _) (run_lss_i _ _ _ Try.underlying3) (congrArg Value.bool (decide_eq_false (by omega)))) ?_
    refine QSeq.nil (t' := [_, _, _, _]) rfl ?_
    obtain rfl := HA0.out
    clear HA0 oe1 oe13
    simp only [pz, Act.put, List.setIfInBounds_toArray, List.set_cons_zero, List.set_cons_succ]
    have hq := Hx30.out
    rw [show ss0 = ⟨nw, 0, 0, []⟩ from by rw [hnw]; rfl] at hq
    have HSPt := Lib.hid hq
    clear hq
    clear Hx30
    obtain ⟨t1, ht1⟩ : ∃ t, t = max (max nw 1) 1 := ⟨_, rfl⟩
    go_upto_region 15 with (fail)
    refine wp_region_U 127 [77, 78, 79, 80, 76, 81, 82, 16, 135, 17] [0, 1, 2, 3, 4, 5, 6, 7, 8, 9] (fun a0 HA0 => ?_)
    have oe10 := ev HA0 10 rfl
    have oe11 := ev HA0 11 rfl
    have oe14 := ev HA0 14 rfl
    refine QSeq.pure rfl _ (fun E => ex_move rfl (E.v oe14)) ?_
    refine QSeq.pure rfl _ (fun E => ex_move rfl (E.v oe10)) ?_
    refine QSeq.pure rfl _ (fun E => ex_loadA rfl Try.underlying36 rfl (off := 0) (cs := ca.cells) (by rw [Cm.len HMDa.out.ok.2.1]; exact size_commit) (E.v oe11) (Cs.whole (K3.out.mod Cx31.out (fun h => h)))) ?_
    refine QSeq.call rfl rfl Try.func14 (Stamp_B (t := t1) HSPt.out (K1.out.mod Cx31.out (fun _ _ h => h)) (by intro k h1; omega) (by intro k h1; omega) (by intro k h1 h2; omega) HMDa.out.ok HMDa.out.si KR1.out rfl ht1 (by omega) (by unfold I64; omega) (by omega)) (fun E => args3 (E.d 0 2) (E.d 1 1) (E.d 2 0)) ?_
    rintro e u15_3 ⟨ya, Ma, rfl, qsp, qbk, hst, hm⟩
    have HYFa := Lib.hid hst
    clear hst
    refine ⟨_, rfl, ?_⟩
    have Hx65 := hid qsp
    have Hx66 := hid qbk
    have zu15_3 := hm.size
    have Cx67 := hid (show Mod (fun k => (New u10_0 u10_1a k) ∨ (New u1_5 u2_0 k)) u10_2 u15_3 from hm)
    clear hm
    clear qsp qbk HSPt K1
    refine QSeq.pure rfl _ (fun E => ex_move rfl (E.d 3 0)) ?_
    refine QSeq.pure rfl (.agg ya.cells.toArray) (fun E => ex_extract rfl (E.d 4 0) rfl) ?_
    refine QSeq.pure rfl (.int .i64 0) (fun E => ex_extract rfl (E.d 4 1) rfl) ?_
    refine QSeq.go fun act E => ?_
    refine qc_alloc rfl (wanted_none rfl) rfl (z := [.int .i64 0, .int .i64 0, .int .i64 0, .int .u8 0, .int .u8 0, .int .u8 0, .int .u8 0, .int .u8 0, .int .u8 0, .int .u8 0, .int .u8 0, .int .u8 0, .int .u8 0, .int .u8 0, .int .u8 0, .int .u8 0, .int .u8 0, .int .u8 0, .int .u8 0, .int .u8 0, .int .u8 0, .int .u8 0, .int .u8 0, .int .u8 0, .int .u8 0, .int .u8 0, .int .u8 0, .int .u8 0, .int .u8 0, .int .u8 0, .int .u8 0, .int .u8 0, .int .u8 0, .int .u8 0, .int .u8 0, .int .u64 0, .int .i64 0, .int .i64 0]) (by kernel_rfl) ?_
    intro u15_7 qb16 hm
    have zl15_7 := qb16.lt
    have Hx68 := hid qb16
    have zu15_7 := hm.size
    have HMu15_7 := hid hm
    have Cx69 := hid (Cx67.out.goE hm)
    clear hm Cx67
    clear act E qb16
    refine QSeq.go fun act E => ?_
    have hlz : (ya.cells).length = List.length ([.int .i64 0, .int .i64 0, .int .i64 0, .int .u8 0, .int .u8 0, .int .u8 0, .int .u8 0, .int .u8 0, .int .u8 0, .int .u8 0, .int .u8 0, .int .u8 0, .int .u8 0, .int .u8 0, .int .u8 0, .int .u8 0, .int .u8 0, .int .u8 0, .int .u8 0, .int .u8 0, .int .u8 0, .int .u8 0, .int .u8 0, .int .u8 0, .int .u8 0, .int .u8 0, .int .u8 0, .int .u8 0, .int .u8 0, .int .u8 0, .int .u8 0, .int .u8 0, .int .u8 0, .int .u8 0, .int .u8 0, .int .u64 0, .int .i64 0, .int .i64 0] : List Value) := (by rw [St.len HYFa.out.ok]; rfl)
    refine qc_store rfl (wanted_none rfl) rfl Hx68.out (off := 0) (vs := ya.cells) (by rw [hlz]; kernel_rfl) (St.one ya) (by rw [hlz]; exact Nat.le_of_eq (Nat.zero_add _)) (E.d 7 0) (ec (E.d 5 2)) ?_
    intro u15_8 qc0 hm
    have qb16 := qc0.eqv (b := (ya.cells : List Value).toArray) (lay_whole (#[.int .i64 0, .int .i64 0, .int .i64 0, .int .u8 0, .int .u8 0, .int .u8 0, .int .u8 0, .int .u8 0, .int .u8 0, .int .u8 0, .int .u8 0, .int .u8 0, .int .u8 0, .int .u8 0, .int .u8 0, .int .u8 0, .int .u8 0, .int .u8 0, .int .u8 0, .int .u8 0, .int .u8 0, .int .u8 0, .int .u8 0, .int .u8 0, .int .u8 0, .int .u8 0, .int .u8 0, .int .u8 0, .int .u8 0, .int .u8 0, .int .u8 0, .int .u8 0, .int .u8 0, .int .u8 0, .int .u8 0, .int .u64 0, .int .i64 0, .int .i64 0]) _ (by rw [hlz]; rfl))
    clear qc0 hlz
    have Hx70 := hid qb16
    have zu15_8 := hm.size
    have HMu15_8 := hid hm
    have Cx71 := hid (Mod.goS (S' := (fun k => (New u10_0 u10_1a k) ∨ (New u1_5 u2_0 k))) Cx69.out hm (fun _ h => h) (by intro k h0 h2; omega))
    clear hm Cx69
    clear act E qb16 Hx68
    refine QSeq.pure rfl _ (fun E => ex_assign rfl (E.d 6 2)) ?_
    have Hx72 := hid ((Hx66.out.mod HMu15_7.out (fun _ _ h => h)).mod HMu15_8.out (by intro k h1 h2; omega))
    have Hx73 := hid ((Hx65.out.mod HMu15_7.out (fun _ _ h => h)).mod HMu15_8.out (by intro k h1 h2; omega))
    clear Hx66 Hx65 HMu15_7 HMu15_8
    refine QSeq.nil (t' := [_, _, _, _, _, _, _, _, _, _]) rfl ?_
    obtain rfl := HA0.out
    clear HA0 oe10 oe11 oe14
    simp only [pz, Act.put, List.setIfInBounds_toArray, List.set_cons_zero, List.set_cons_succ, List.set_nil]
    by_cases hcf : i < fs.length
    ·skip
     go_upto_region 16 with (fail)
     refine wp_region_U 127 [83, 84, 85, 86] [0, 1, 2, 3] (fun a0 HA0 => ?_)
     have oe2 := ev HA0 2 rfl
     have oe13 := ev HA0 13 rfl
     refine QSeq.pure rfl _ (fun E => ex_move rfl (E.v oe13)) ?_
     refine QSeq.pure rfl _ (fun E => ex_move rfl (E.v oe2)) ?_
     refine QSeq.pure rfl (.int .i64 fs.length) (fun E => ex_lenS rfl (E.d 1 0) Try.underlying22) ?_
     refine QSeq.pure rfl (.bool true) (fun E => ex_binE rfl (E.d 0 2) (E.d 2 0) (guard_ints _ _ _ _ _ _) (run_lss_i _ _ _ Try.underlying3) (congrArg Value.bool (decide_eq_true (by omega)))) ?_
     refine QSeq.nil (t' := [_, _, _, _]) rfl ?_
     obtain rfl := HA0.out
     clear HA0 oe2 oe13
     simp only [pz, Act.put, List.setIfInBounds_toArray, List.set_cons_zero, List.set_cons_succ]
     obtain ⟨g3, o3, cs3, ea3, hrg, hrd, hcs⟩ := ((K6.out.mod Cx31.out (fun _ _ h => h)).mod Cx71.out (by intro k h1 h2; omega)).at hcf
     obtain ⟨rfl, hu2⟩ := hrd
     generalize fs[i] = u2 at hcs hu2
     subst ea3
     have HAT3 := hid (show CellsAt (fun k => k < w.heap.size) u15_8 g3 (o3 + i * 1) [.int .u64 ((u2 : Nat) : Int)] from ⟨hrg, hcs⟩)
     clear hrg hcs
     have hu2' : u2 < U64 := hu2
     clear hu2
     obtain ⟨fl, hfl⟩ : ∃ x, x = u2 % 2000 := ⟨_, rfl⟩
     go_upto_region 17 with (fail)
     refine wp_region_U 127 [87, 88, 89, 90, 91, 92, 93] [0, 1, 2, 3, 4, 5, 6] (fun a0 HA0 => ?_)
     have oe2 := ev HA0 2 rfl
     have oe13 := ev HA0 13 rfl
     have oe14 := ev HA0 14 rfl
     refine QSeq.pure rfl _ (fun E => ex_move rfl (E.v oe14)) ?_
     refine QSeq.pure rfl _ (fun E => ex_move rfl (E.v oe2)) ?_
     refine QSeq.pure rfl _ (fun E => ex_move rfl (E.v oe13)) ?_
     refine QSeq.pure rfl (.pointer (some ⟨g3, o3 + i * 1, none⟩)) (fun E => ex_idxS (i := i) (s := 1) rfl Try.underlying22 (by kernel_rfl) (E.d 1 1) (E.d 2 0) (by omega)) ?_
     refine QSeq.pure rfl (.int .u64 ((u2 : Nat) : Int)) (fun E => ex_load1 rfl Try.underlying45 rfl (E.d 3 0) ((HAT3.out).2 0 _ rfl)) ?_
     refine QSeq.pure rfl (.int .u64 ((fl : Nat) : Int)) (fun E => ex_binE rfl (E.d 4 0) rfl (guard_ints _ _ _ _ _ _) (run_rem_i _ _ (by decide)) (congrArg (Value.int .u64) (show (((u2 : Nat) : Int)).tmod 2000 = ((fl : Nat) : Int) from (by rw [Int.tmod_eq_emod_of_nonneg (by omega)]; omega)))) ?_
     refine QSeq.call rfl rfl Try.func15 (Raise_Q (n := fl) Hx73.out (by intro k h1; omega) (by omega)) (fun E => args2 (E.d 0 5) (E.d 5 0)) ?_
     rintro e u17_6 ⟨rfl, qsp, hm⟩
     refine ⟨_, rfl, ?_⟩
     have Hx74 := hid qsp
     have zu17_6 := hm.size
     have Cx75 := hid (show Mod (fun k => (New u10_0 u10_1a k)) u15_8 u17_6 from hm)
     clear hm
     clear qsp Hx73
     refine QSeq.nil (t' := [_, _, _, _, _, _, _]) rfl ?_
     obtain rfl := HA0.out
     clear HA0 oe2 oe13 oe14
     simp only [pz, Act.put, List.setIfInBounds_toArray, List.set_cons_zero, List.set_cons_succ]
     clear HAT3
     have hq := Hx74.out
     rw [show raiseS ⟨nw, 0, t1, [] ++ [((ca.cl, ca.sq), ya)]⟩ fl = ⟨nw, fl, t1, [] ++ [((ca.cl, ca.sq), ya)]⟩ from by unfold raiseS; simp only [SS.mk.injEq, and_true, true_and]; omega] at hq
     have HSPr := Lib.hid hq
     clear hq
     clear Hx74
     obtain ⟨t2, ht2⟩ : ∃ t, t = max (max nw (fl + 1)) (t1 + 1) := ⟨_, rfl⟩
     go_upto_region 18 with (fail)
     refine wp_region_U 127 [95, 96, 97, 98, 94, 99, 100, 18, 135, 19] [0, 1, 2, 3, 4, 5, 6, 7, 8, 9] (fun a0 HA0 => ?_)
     have oe10 := ev HA0 10 rfl
     have oe12 := ev HA0 12 rfl
     have oe14 := ev HA0 14 rfl
     refine QSeq.pure rfl _ (fun E => ex_move rfl (E.v oe14)) ?_
     refine QSeq.pure rfl _ (fun E => ex_move rfl (E.v oe10)) ?_
     refine QSeq.pure rfl _ (fun E => ex_loadA rfl Try.underlying36 rfl (off := 0) (cs := cb.cells) (by rw [Cm.len HMDb.out.ok.2.1]; exact size_commit) (E.v oe12) (Cs.whole (((K4.out.mod Cx31.out (fun h => h)).mod Cx71.out (by intro h2; omega)).mod Cx75.out (by intro h2; omega)))) ?_
     refine QSeq.call rfl rfl Try.func14 (Stamp_B (t := t2) HSPr.out (Hx72.out.mod Cx75.out (by intro k h1 h2; omega)) (by intro k h1; omega) (by intro k h1; omega) (by intro k h1 h2; omega) HMDb.out.ok HMDb.out.si (HYFa.out.gr _ _ KR2.out) (mlook_one (by rw [HMDa.out.cl, HMDb.out.cl]; show (0 : Int) ≠ 1; decide)) ht2 (by omega) (by unfold I64; omega) (by have := HYFa.out.ln; omega)) (fun E => args3 (E.d 0 2) (E.d 1 1) (E.d 2 0)) ?_
     rintro e u18_3 ⟨yb, Mb, rfl, qsp, qbk, hst, hm⟩
     have HYFb := Lib.hid hst
     clear hst
     refine ⟨_, rfl, ?_⟩
     have Hx76 := hid qsp
     have Hx77 := hid qbk
     have zu18_3 := hm.size
     have Cx78 := hid (show Mod (fun k => (New u10_0 u10_1a k) ∨ (New u1_5 u2_0 k)) u17_6 u18_3 from hm)
     clear hm
     clear qsp qbk HSPr Hx72
     refine QSeq.pure rfl _ (fun E => ex_move rfl (E.d 3 0)) ?_
     refine QSeq.pure rfl (.agg yb.cells.toArray) (fun E => ex_extract rfl (E.d 4 0) rfl) ?_
     refine QSeq.pure rfl (.int .i64 0) (fun E => ex_extract rfl (E.d 4 1) rfl) ?_
     refine QSeq.go fun act E => ?_
     refine qc_alloc rfl (wanted_none rfl) rfl (z := [.int .i64 0, .int .i64 0, .int .i64 0, .int .u8 0, .int .u8 0, .int .u8 0, .int .u8 0, .int .u8 0, .int .u8 0, .int .u8 0, .int .u8 0, .int .u8 0, .int .u8 0, .int .u8 0, .int .u8 0, .int .u8 0, .int .u8 0, .int .u8 0, .int .u8 0, .int .u8 0, .int .u8 0, .int .u8 0, .int .u8 0, .int .u8 0, .int .u8 0, .int .u8 0, .int .u8 0, .int .u8 0, .int .u8 0, .int .u8 0, .int .u8 0, .int .u8 0, .int .u8 0, .int .u8 0, .int .u8 0, .int .u64 0, .int .i64 0, .int .i64 0]) (by kernel_rfl) ?_
     intro u18_7 qb18 hm
     have zl18_7 := qb18.lt
     have Hx79 := hid qb18
     have zu18_7 := hm.size
     have HMu18_7 := hid hm
     have Cx80 := hid (Cx78.out.goE hm)
     clear hm Cx78
     clear act E qb18
     refine QSeq.go fun act E => ?_
     have hlz : (yb.cells).length = List.length ([.int .i64 0, .int .i64 0, .int .i64 0, .int .u8 0, .int .u8 0, .int .u8 0, .int .u8 0, .int .u8 0, .int .u8 0, .int .u8 0, .int .u8 0, .int .u8 0, .int .u8 0, .int .u8 0, .int .u8 0, .int .u8 0, .int .u8 0, .int .u8 0, .int .u8 0, .int .u8 0, .int .u8 0, .int .u8 0, .int .u8 0, .int .u8 0, .int .u8 0, .int .u8 0, .int .u8 0, .int .u8 0, .int .u8 0, .int .u8 0, .int .u8 0, .int .u8 0, .int .u8 0, .int .u8 0, .int .u8 0, .int .u64 0, .int .i64 0, .int .i64 0] : List Value) := (by rw [St.len HYFb.out.ok]; rfl)
     refine qc_store rfl (wanted_none rfl) rfl Hx79.out (off := 0) (vs := yb.cells) (by rw [hlz]; kernel_rfl) (St.one yb) (by rw [hlz]; exact Nat.le_of_eq (Nat.zero_add _)) (E.d 7 0) (ec (E.d 5 2)) ?_
     intro u18_8 qc0 hm
     have qb18 := qc0.eqv (b := (yb.cells : List Value).toArray) (lay_whole (#[.int .i64 0, .int .i64 0, .int .i64 0, .int .u8 0, .int .u8 0, .int .u8 0, .int .u8 0, .int .u8 0, .int .u8 0, .int .u8 0, .int .u8 0, .int .u8 0, .int .u8 0, .int .u8 0, .int .u8 0, .int .u8 0, .int .u8 0, .int .u8 0, .int .u8 0, .int .u8 0, .int .u8 0, .int .u8 0, .int .u8 0, .int .u8 0, .int .u8 0, .int .u8 0, .int .u8 0, .int .u8 0, .int .u8 0, .int .u8 0, .int .u8 0, .int .u8 0, .int .u8 0, .int .u8 0, .int .u8 0, .int .u64 0, .int .i64 0, .int .i64 0]) _ (by rw [hlz]; rfl))
     clear qc0 hlz
     have Hx81 := hid qb18
     have zu18_8 := hm.size
     have HMu18_8 := hid hm
     have Cx82 := hid (Mod.goS (S' := (fun k => (New u10_0 u10_1a k) ∨ (New u1_5 u2_0 k))) Cx80.out hm (fun _ h => h) (by intro k h0 h2; omega))
     clear hm Cx80
     clear act E qb18 Hx79
     refine QSeq.pure rfl _ (fun E => ex_assign rfl (E.d 6 2)) ?_
     have Hx83 := hid ((Hx77.out.mod HMu18_7.out (fun _ _ h => h)).mod HMu18_8.out (by intro k h1 h2; omega))
     have Hx84 := hid ((Hx76.out.mod HMu18_7.out (fun _ _ h => h)).mod HMu18_8.out (by intro k h1 h2; omega))
     clear Hx77 Hx76 HMu18_7 HMu18_8
     refine QSeq.nil (t' := [_, _, _, _, _, _, _, _, _, _]) rfl ?_
     obtain rfl := HA0.out
     clear HA0 oe10 oe12 oe14
     simp only [pz, Act.put, List.setIfInBounds_toArray, List.set_cons_zero, List.set_cons_succ, List.set_nil]
     have htb := HYFb.out.tm
     have hta := HYFa.out.tm
     go_upto_region 19 with (fail)
     generalize ha0 : Act.mk _ _ = a0
     have oe14 : a0.eval (.tmp 14) = .pointer (some ⟨p, 0, none⟩) := by rw [← ha0]; rfl
     have oe16 : a0.eval (.tmp 16) = .pointer (some ⟨u15_3.heap.size, 0, none⟩) := by rw [← ha0]; rfl
     have oe17 : a0.eval (.tmp 17) = .int .i64 0 := by rw [← ha0]; rfl
     have oe18 : a0.eval (.tmp 18) = .pointer (some ⟨u18_3.heap.size, 0, none⟩) := by rw [← ha0]; rfl
     have oe19 : a0.eval (.tmp 19) = .int .i64 0 := by rw [← ha0]; rfl
     have hsz0 : a0.tmps.size = 127 := by rw [← ha0]; rfl
     have HA0 := hid ha0
     clear ha0
     refine wp_region_Q0 127 hsz0 [101, 102, 103, 104, 105, 106, 107, 108, 109, 110, 111, 112, 113, 114, 115, 116, 117, 118, 119, 120, 121, 122, 123, 124, 125] [qi (.int .i64 0), qi (.bool false), qi (.bool false), qi (.int .i64 0), qi (.bool false), qi (.bool false), qi (.bool false), qi (.pointer (some ⟨u15_3.heap.size, 35, none⟩)), qi (.int .u64 (ya.tm : Nat)), qi (.pointer (some ⟨u18_3.heap.size, 35, none⟩)), qi (.int .u64 (yb.tm : Nat)), qi (.bool false), qi (.bool false), qi (.bool false), qi (.pointer (some ⟨u18_3.heap.size, 35, none⟩)), qi (.int .u64 (yb.tm : Nat)), qi (.pointer (some ⟨p, 0, none⟩)), qi (.int .u64 ((fl : Nat) : Int)), qi (.bool false), qi (.bool false), qi (.bool false), qi (.pointer (some ⟨p, 0, none⟩)), qi (.int .i64 2), qi (.bool false), qi (.bool false)] ⟨qi_stable, qi_stable, qi_stable, qi_stable, qi_stable, qi_stable, qi_stable, qi_stable, qi_stable, qi_stable, qi_stable, qi_stable, qi_stable, qi_stable, qi_stable, qi_stable, qi_stable, qi_stable, qi_stable, qi_stable, qi_stable, qi_stable, qi_stable, qi_stable, qi_stable, trivial⟩ [] ⟨?_, ?_, ?_, ?_, ?_, ?_, ?_, ?_, ?_, ?_, ?_, ?_, ?_, ?_, ?_, ?_, ?_, ?_, ?_, ?_, ?_, ?_, ?_, ?_, ?_, trivial⟩ ?_
     ·exact stq (fun E => ex_move rfl (E.v oe17))
     ·exact stq (fun E => ex_binE rfl (E.d 0) rfl (guard_ints _ _ _ _ _ _) (run_neq_i _ _ _ Try.underlying40) (congrArg Value.bool (show _ = false from rfl)))
     ·exact stq (fun E => ex_move rfl (E.d 1))
     ·refine stepq_env rfl rfl rfl fun _ _ _ _ _ _ _ hout hsz hd _ _ => ?_
      have h2 := hd ⟨2, .guard⟩ (by simp) rfl _ rfl
      refine qe_run rfl ((wanted_of rfl rfl (hsz 103 (by decide)) h2).trans rfl) (ex_move rfl ((hout 19 (by decide)).trans oe19)) QE.refl ?_
      rfl
     ·refine stepq_env rfl rfl rfl fun _ _ _ _ _ _ _ _ hsz hd _ _ => ?_
      have h2 := hd ⟨2, .guard⟩ (by simp) rfl _ rfl
      have h3 := hd ⟨3, .data⟩ (by simp) rfl _ rfl
      refine qe_run rfl ((wanted_of rfl rfl (hsz 103 (by decide)) h2).trans rfl) (ex_binE rfl h3 rfl (guard_ints _ _ _ _ _ _) (run_neq_i _ _ _ Try.underlying40) (congrArg Value.bool (show _ = false from rfl))) QE.refl ?_
      rfl
     ·exact stq (fun E => ex_pick rfl (E.d 2) rfl (E.d 4))
     ·exact stq (fun E => ex_move rfl (E.d 5))
     ·refine stepq_env rfl rfl rfl fun _ _ _ _ _ _ _ hout hsz hd _ _ => ?_
      have h6 := hd ⟨6, .guard⟩ (by simp) rfl _ rfl
      refine qe_run rfl ((wanted_of rfl rfl (hsz 107 (by decide)) h6).trans rfl) (ex_field rfl Try.underlying47 rfl (by kernel_rfl) ((hout 16 (by decide)).trans oe16)) QE.refl ?_
      rfl
     ·refine stepq_env rfl rfl rfl fun _ _ _ _ _ hm _ _ hsz hd _ _ => ?_
      have h6 := hd ⟨6, .guard⟩ (by simp) rfl _ rfl
      have h7 := hd ⟨7, .data⟩ (by simp) rfl _ rfl
      refine qe_run rfl ((wanted_of rfl rfl (hsz 107 (by decide)) h6).trans rfl) (ex_load1 rfl Try.underlying45 rfl h7 (Cs.post1 (m := 32) (k := 0) (((Hx70.out.mod Cx75.out (by intro h2; omega)).mod Cx82.out (by intro h2; omega)).mod hm.old (by intro h2; omega)) (by rw [List.length_map]; exact HYFa.out.ok.h.1) rfl rfl)) QE.refl ?_
      rfl
     ·refine stepq_env rfl rfl rfl fun _ _ _ _ _ _ _ hout hsz hd _ _ => ?_
      have h6 := hd ⟨6, .guard⟩ (by simp) rfl _ rfl
      refine qe_run rfl ((wanted_of rfl rfl (hsz 107 (by decide)) h6).trans rfl) (ex_field rfl Try.underlying47 rfl (by kernel_rfl) ((hout 18 (by decide)).trans oe18)) QE.refl ?_
      rfl
     ·refine stepq_env rfl rfl rfl fun _ _ _ _ _ hm _ _ hsz hd _ _ => ?_
      have h6 := hd ⟨6, .guard⟩ (by simp) rfl _ rfl
      have h9 := hd ⟨9, .data⟩ (by simp) rfl _ rfl
      refine qe_run rfl ((wanted_of rfl rfl (hsz 107 (by decide)) h6).trans rfl) (ex_load1 rfl Try.underlying45 rfl h9 (Cs.post1 (m := 32) (k := 0) (Hx81.out.mod hm.old (by intro h2; omega)) (by rw [List.length_map]; exact HYFb.out.ok.h.1) rfl rfl)) QE.refl ?_
      rfl
     ·refine stepq_env rfl rfl rfl fun _ _ _ _ _ _ _ _ hsz hd _ _ => ?_
      have h6 := hd ⟨6, .guard⟩ (by simp) rfl _ rfl
      have h8 := hd ⟨8, .data⟩ (by simp) rfl _ rfl
      have h10 := hd ⟨10, .data⟩ (by simp) rfl _ rfl
      refine qe_run rfl ((wanted_of rfl rfl (hsz 107 (by decide)) h6).trans rfl) (ex_binE rfl h8 h10 (guard_ints _ _ _ _ _ _) (run_geq_i _ _ _ Try.underlying45) (congrArg Value.bool (decide_eq_false (by omega)))) QE.refl ?_
      rfl
     ·exact stq (fun E => ex_pick rfl (E.d 6) rfl (E.d 11))
     ·exact stq (fun E => ex_move rfl (E.d 12))
     ·refine stepq_env rfl rfl rfl fun _ _ _ _ _ _ _ hout hsz hd _ _ => ?_
      have h13 := hd ⟨13, .guard⟩ (by simp) rfl _ rfl
      refine qe_run rfl ((wanted_of rfl rfl (hsz 114 (by decide)) h13).trans rfl) (ex_field rfl Try.underlying47 rfl (by kernel_rfl) ((hout 18 (by decide)).trans oe18)) QE.refl ?_
      rfl
     ·refine stepq_env rfl rfl rfl fun _ _ _ _ _ hm _ _ hsz hd _ _ => ?_
      have h13 := hd ⟨13, .guard⟩ (by simp) rfl _ rfl
      have h14 := hd ⟨14, .data⟩ (by simp) rfl _ rfl
      refine qe_run rfl ((wanted_of rfl rfl (hsz 114 (by decide)) h13).trans rfl) (ex_load1 rfl Try.underlying45 rfl h14 (Cs.post1 (m := 32) (k := 0) (Hx81.out.mod hm.old (by intro h2; omega)) (by rw [List.length_map]; exact HYFb.out.ok.h.1) rfl rfl)) QE.refl ?_
      rfl
     ·refine stepq_env rfl rfl rfl fun _ _ _ _ _ _ _ hout hsz hd _ _ => ?_
      have h13 := hd ⟨13, .guard⟩ (by simp) rfl _ rfl
      refine qe_run rfl ((wanted_of rfl rfl (hsz 114 (by decide)) h13).trans rfl) (ex_move rfl ((hout 14 (by decide)).trans oe14)) QE.refl ?_
      rfl
     ·refine stepq_env rfl rfl rfl fun _ _ _ _ _ hm _ _ hsz hd _ _ => ?_
      have h13 := hd ⟨13, .chain⟩ (by simp) rfl _ rfl
      have h16 := hd ⟨16, .data⟩ (by simp) rfl _ rfl
      refine qe_callF (args := #[.pointer (some ⟨p, 0, none⟩)]) rfl ((wanted_of rfl rfl (hsz 114 (by decide)) h13).trans rfl) rfl Try.func16 (args1 h16) (Floor_Q (Hx84.out.mod hm.old (by intro k h1 h2; omega))) ?_
      rintro e w2 ⟨rfl, rfl⟩
      exact ⟨_, rfl, QE.refl, rfl⟩
     ·refine stepq_env rfl rfl rfl fun _ _ _ _ _ _ _ _ hsz hd _ _ => ?_
      have h13 := hd ⟨13, .guard⟩ (by simp) rfl _ rfl
      have h15 := hd ⟨15, .data⟩ (by simp) rfl _ rfl
      have h17 := hd ⟨17, .data⟩ (by simp) rfl _ rfl
      refine qe_run rfl ((wanted_of rfl rfl (hsz 114 (by decide)) h13).trans rfl) (ex_binE rfl h15 h17 (guard_ints _ _ _ _ _ _) (run_leq_i _ _ _ Try.underlying45) (congrArg Value.bool (decide_eq_false (by omega)))) QE.refl ?_
      rfl
     ·exact stq (fun E => ex_pick rfl (E.d 13) rfl (E.d 18))
     ·exact stq (fun E => ex_move rfl (E.d 19))
     ·refine stepq_env rfl rfl rfl fun _ _ _ _ _ _ _ hout hsz hd _ _ => ?_
      have h20 := hd ⟨20, .guard⟩ (by simp) rfl _ rfl
      refine qe_run rfl ((wanted_of rfl rfl (hsz 121 (by decide)) h20).trans rfl) (ex_move rfl ((hout 14 (by decide)).trans oe14)) QE.refl ?_
      rfl
     ·refine stepq_env rfl rfl rfl fun _ _ _ _ _ hm _ _ hsz hd _ _ => ?_
      have h20 := hd ⟨20, .chain⟩ (by simp) rfl _ rfl
      have h21 := hd ⟨21, .data⟩ (by simp) rfl _ rfl
      refine qe_callF (args := #[.pointer (some ⟨p, 0, none⟩)]) rfl ((wanted_of rfl rfl (hsz 121 (by decide)) h20).trans rfl) rfl Try.func17 (args1 h21) (SLen_Q (Hx84.out.mod hm.old (by intro k h1 h2; omega))) ?_
      rintro e w2 ⟨rfl, rfl⟩
      exact ⟨_, rfl, QE.refl, rfl⟩
     ·refine stepq_env rfl rfl rfl fun _ _ _ _ _ _ _ _ hsz hd _ _ => ?_
      have h20 := hd ⟨20, .guard⟩ (by simp) rfl _ rfl
      have h22 := hd ⟨22, .data⟩ (by simp) rfl _ rfl
      refine qe_run rfl ((wanted_of rfl rfl (hsz 121 (by decide)) h20).trans rfl) (ex_binE rfl h22 rfl (guard_ints _ _ _ _ _ _) (run_neq_i _ _ _ Try.underlying3) (congrArg Value.bool (ne_ff rfl))) QE.refl ?_
      rfl
     ·exact stq (fun E => ex_pick rfl (E.d 20) rfl (E.d 23))
     intro u19_0 hr
     have zu19_0 := hr.size
     have Cx85 := hid (hr.new (S := (fun _ => False)))
     clear hr
     refine QChain.nil fun vs hl hzz hrows hne => ?_
     obtain ⟨Z, hYZ, hZb, hV⟩ := hzz
     have f0 := fvi hV hl 0
     have f2 := fvi hV hl 2
     have f3 := fvi hV hl 3
     have f6 := fvi hV hl 6
     have f13 := fvi hV hl 13
     have f16 := fvi hV hl 16
     have f17 := fvi hV hl 17
     have f20 := fvi hV hl 20
     have f21 := fvi hV hl 21
     have f22 := fvi hV hl 22
     have f24 := fvi hV hl 24
     rw [show vs = [gw vs 0, gw vs 1, gw vs 2, gw vs 3, gw vs 4, gw vs 5, gw vs 6, gw vs 7, gw vs 8, gw vs 9, gw vs 10, gw vs 11, gw vs 12, gw vs 13, gw vs 14, gw vs 15, gw vs 16, gw vs 17, gw vs 18, gw vs 19, gw vs 20, gw vs 21, gw vs 22, gw vs 23, gw vs 24] from (gw_eta hl).trans rfl]
     have ha0 := HA0.out
     subst ha0
     clear HA0 hV hYZ hZb hsz0 hrows hne oe14 oe16 oe17 oe18 oe19
     simp only [putAll, Act.put, List.setIfInBounds_toArray, List.set_cons_zero, List.set_cons_succ, f0, f2, f3, f6, f13, f16, f17, f20, f21, f22, f24]
     clear hl f0 f2 f3 f6 f13 f16 f17 f20 f21 f22 f24
     clear Hx70
     clear Hx81
     clear Hx84
     go_upto_region 9 with (fail)
     refine wp_region_U 127 [45, 46, 13] [0, 1, 2] (fun a0 HA0 => ?_)
     have oe13 := ev HA0 13 rfl
     refine QSeq.pure rfl _ (fun E => ex_move rfl (E.y 2 oe13)) ?_
     refine QSeq.pure rfl (.int .i64 (((i + 1) : Nat) : Int)) (fun E => ex_binE rfl (E.d 0 0) rfl (guard_ints _ _ _ _ _ _) (run_add_i _ _ Try.underlying3) (congrArg (Value.int .i64) (i64_eq (b := (((i + 1) : Nat) : Int)) (by omega) (by omega) (by omega)))) ?_
     refine QSeq.pure rfl _ (fun E => ex_assign rfl (E.d 1 0)) ?_
     refine QSeq.nil (t' := [_, _, _]) rfl ?_
     obtain rfl := HA0.out
     clear HA0 oe13
     simp only [pz, Act.put, List.setIfInBounds_toArray, List.set_cons_zero, List.set_cons_succ]
     go_wp2
     go_roundw
     case rel => exact ⟨i + 1, Mb, rfl, by omega, (by have := HYFa.out.ln; have := HYFb.out.ln; omega), HYFb.out.gr _ _ (HYFa.out.gr _ _ KR1.out), HYFb.out.gr _ _ (HYFa.out.gr _ _ KR2.out), by omega, (Hx83.out.mod Cx85.out (fun _ _ h => h)), (((((K2.out.mod Cx31.out (fun h => h)).mod Cx71.out (by intro h2; omega)).mod Cx75.out (by intro h2; omega)).mod Cx82.out (by intro h2; omega)).mod Cx85.out (fun h => h)), (((((K3.out.mod Cx31.out (fun h => h)).mod Cx71.out (by intro h2; omega)).mod Cx75.out (by intro h2; omega)).mod Cx82.out (by intro h2; omega)).mod Cx85.out (fun h => h)), (((((K4.out.mod Cx31.out (fun h => h)).mod Cx71.out (by intro h2; omega)).mod Cx75.out (by intro h2; omega)).mod Cx82.out (by intro h2; omega)).mod Cx85.out (fun h => h)), (((((K5.out.mod Cx31.out (fun _ _ h => h)).mod Cx71.out (by intro k h1 h2; omega)).mod Cx75.out (by intro k h1 h2; omega)).mod Cx82.out (by intro k h1 h2; omega)).mod Cx85.out (fun _ _ h => h)), (((((K6.out.mod Cx31.out (fun _ _ h => h)).mod Cx71.out (by intro k h1 h2; omega)).mod Cx75.out (by intro k h1 h2; omega)).mod Cx82.out (by intro k h1 h2; omega)).mod Cx85.out (fun _ _ h => h)), (((((K7.out.mod Cx31.out (fun _ _ h => h)).mod Cx71.out (by intro k h1 h2; omega)).mod Cx75.out (by intro k h1 h2; omega)).mod Cx82.out (by intro k h1 h2; omega)).mod Cx85.out (fun _ _ h => h)), (((((K8.out.trans Cx31.out (fun _ _ h => h.elim)).trans Cx71.out (by intro k h1 h2; omega)).trans Cx75.out (by intro k h1 h2; omega)).trans Cx82.out (by intro k h1 h2; omega)).trans Cx85.out (fun _ _ h => h.elim))⟩
     case measure => simp [intOf]; omega
    ·obtain ⟨fl, hfl⟩ : ∃ x : Nat, x = 0 := ⟨_, rfl⟩
     go_upto_region 16 with (fail)
     refine wp_region_U 127 [83, 84, 85, 86] [0, 1, 2, 3] (fun a0 HA0 => ?_)
     have oe2 := ev HA0 2 rfl
     have oe13 := ev HA0 13 rfl
     refine QSeq.pure rfl _ (fun E => ex_move rfl (E.v oe13)) ?_
     refine QSeq.pure rfl _ (fun E => ex_move rfl (E.v oe2)) ?_
     refine QSeq.pure rfl (.int .i64 fs.length) (fun E => ex_lenS rfl (E.d 1 0) Try.underlying22) ?_
     refine QSeq.pure rfl (.bool false) (fun E => ex_binE rfl (E.d 0 2) (E.d 2 0) (guard_ints _ _ _ _ _ _) (run_lss_i _ _ _ Try.underlying3) (congrArg Value.bool (decide_eq_false (by omega)))) ?_
     refine QSeq.nil (t' := [_, _, _, _]) rfl ?_
     obtain rfl := HA0.out
     clear HA0 oe2 oe13
     simp only [pz, Act.put, List.setIfInBounds_toArray, List.set_cons_zero, List.set_cons_succ]
     have hq := Hx73.out
     rw [show (⟨nw, 0, t1, [] ++ [((ca.cl, ca.sq), ya)]⟩ : SS) = ⟨nw, fl, t1, [] ++ [((ca.cl, ca.sq), ya)]⟩ from by rw [hfl]] at hq
     have HSPr := Lib.hid hq
     clear hq
     clear Hx73
     obtain ⟨t2, ht2⟩ : ∃ t, t = max (max nw (fl + 1)) (t1 + 1) := ⟨_, rfl⟩
     go_upto_region 18 with (fail)
     refine wp_region_U 127 [95, 96, 97, 98, 94, 99, 100, 18, 135, 19] [0, 1, 2, 3, 4, 5, 6, 7, 8, 9] (fun a0 HA0 => ?_)
     have oe10 := ev HA0 10 rfl
     have oe12 := ev HA0 12 rfl
     have oe14 := ev HA0 14 rfl
     refine QSeq.pure rfl _ (fun E => ex_move rfl (E.v oe14)) ?_
     refine QSeq.pure rfl _ (fun E => ex_move rfl (E.v oe10)) ?_
     refine QSeq.pure rfl _ (fun E => ex_loadA rfl Try.underlying36 rfl (off := 0) (cs := cb.cells) (by rw [Cm.len HMDb.out.ok.2.1]; exact size_commit) (E.v oe12) (Cs.whole ((K4.out.mod Cx31.out (fun h => h)).mod Cx71.out (by intro h2; omega)))) ?_
     refine QSeq.call rfl rfl Try.func14 (Stamp_B (t := t2) HSPr.out Hx72.out (by intro k h1; omega) (by intro k h1; omega) (by intro k h1 h2; omega) HMDb.out.ok HMDb.out.si (HYFa.out.gr _ _ KR2.out) (mlook_one (by rw [HMDa.out.cl, HMDb.out.cl]; show (0 : Int) ≠ 1; decide)) ht2 (by omega) (by unfold I64; omega) (by have := HYFa.out.ln; omega)) (fun E => args3 (E.d 0 2) (E.d 1 1) (E.d 2 0)) ?_
     rintro e u18_3 ⟨yb, Mb, rfl, qsp, qbk, hst, hm⟩
     have HYFb := Lib.hid hst
     clear hst
     refine ⟨_, rfl, ?_⟩
     have Hx86 := hid qsp
     have Hx87 := hid qbk
     have zu18_3 := hm.size
     have Cx88 := hid (show Mod (fun k => (New u10_0 u10_1a k) ∨ (New u1_5 u2_0 k)) u15_8 u18_3 from hm)
     clear hm
     clear qsp qbk HSPr Hx72
     refine QSeq.pure rfl _ (fun E => ex_move rfl (E.d 3 0)) ?_
     refine QSeq.pure rfl (.agg yb.cells.toArray) (fun E => ex_extract rfl (E.d 4 0) rfl) ?_
     refine QSeq.pure rfl (.int .i64 0) (fun E => ex_extract rfl (E.d 4 1) rfl) ?_
     refine QSeq.go fun act E => ?_
     refine qc_alloc rfl (wanted_none rfl) rfl (z := [.int .i64 0, .int .i64 0, .int .i64 0, .int .u8 0, .int .u8 0, .int .u8 0, .int .u8 0, .int .u8 0, .int .u8 0, .int .u8 0, .int .u8 0, .int .u8 0, .int .u8 0, .int .u8 0, .int .u8 0, .int .u8 0, .int .u8 0, .int .u8 0, .int .u8 0, .int .u8 0, .int .u8 0, .int .u8 0, .int .u8 0, .int .u8 0, .int .u8 0, .int .u8 0, .int .u8 0, .int .u8 0, .int .u8 0, .int .u8 0, .int .u8 0, .int .u8 0, .int .u8 0, .int .u8 0, .int .u8 0, .int .u64 0, .int .i64 0, .int .i64 0]) (by kernel_rfl) ?_
     intro u18_7 qb18 hm
     have zl18_7 := qb18.lt
     have Hx89 := hid qb18
     have zu18_7 := hm.size
     have HMu18_7 := hid hm
     have Cx90 := hid (Cx88.out.goE hm)
     clear hm Cx88
     clear act E qb18
     refine QSeq.go fun act E => ?_
     have hlz : (yb.cells).length = List.length ([.int .i64 0, .int .i64 0, .int .i64 0, .int .u8 0, .int .u8 0, .int .u8 0, .int .u8 0, .int .u8 0, .int .u8 0, .int .u8 0, .int .u8 0, .int .u8 0, .int .u8 0, .int .u8 0, .int .u8 0, .int .u8 0, .int .u8 0, .int .u8 0, .int .u8 0, .int .u8 0, .int .u8 0, .int .u8 0, .int .u8 0, .int .u8 0, .int .u8 0, .int .u8 0, .int .u8 0, .int .u8 0, .int .u8 0, .int .u8 0, .int .u8 0, .int .u8 0, .int .u8 0, .int .u8 0, .int .u8 0, .int .u64 0, .int .i64 0, .int .i64 0] : List Value) := (by rw [St.len HYFb.out.ok]; rfl)
     refine qc_store rfl (wanted_none rfl) rfl Hx89.out (off := 0) (vs := yb.cells) (by rw [hlz]; kernel_rfl) (St.one yb) (by rw [hlz]; exact Nat.le_of_eq (Nat.zero_add _)) (E.d 7 0) (ec (E.d 5 2)) ?_
     intro u18_8 qc0 hm
     have qb18 := qc0.eqv (b := (yb.cells : List Value).toArray) (lay_whole (#[.int .i64 0, .int .i64 0, .int .i64 0, .int .u8 0, .int .u8 0, .int .u8 0, .int .u8 0, .int .u8 0, .int .u8 0, .int .u8 0, .int .u8 0, .int .u8 0, .int .u8 0, .int .u8 0, .int .u8 0, .int .u8 0, .int .u8 0, .int .u8 0, .int .u8 0, .int .u8 0, .int .u8 0, .int .u8 0, .int .u8 0, .int .u8 0, .int .u8 0, .int .u8 0, .int .u8 0, .int .u8 0, .int .u8 0, .int .u8 0, .int .u8 0, .int .u8 0, .int .u8 0, .int .u8 0, .int .u8 0, .int .u64 0, .int .i64 0, .int .i64 0]) _ (by rw [hlz]; rfl))
     clear qc0 hlz
     have Hx91 := hid qb18
     have zu18_8 := hm.size
     have HMu18_8 := hid hm
     have Cx92 := hid (Mod.goS (S' := (fun k => (New u10_0 u10_1a k) ∨ (New u1_5 u2_0 k))) Cx90.out hm (fun _ h => h) (by intro k h0 h2; omega))
     clear hm Cx90
     clear act E qb18 Hx89
     refine QSeq.pure rfl _ (fun E => ex_assign rfl (E.d 6 2)) ?_
     have Hx93 := hid ((Hx87.out.mod HMu18_7.out (fun _ _ h => h)).mod HMu18_8.out (by intro k h1 h2; omega))
     have Hx94 := hid ((Hx86.out.mod HMu18_7.out (fun _ _ h => h)).mod HMu18_8.out (by intro k h1 h2; omega))
     clear Hx87 Hx86 HMu18_7 HMu18_8
     refine QSeq.nil (t' := [_, _, _, _, _, _, _, _, _, _]) rfl ?_
     obtain rfl := HA0.out
     clear HA0 oe10 oe12 oe14
     simp only [pz, Act.put, List.setIfInBounds_toArray, List.set_cons_zero, List.set_cons_succ, List.set_nil]
     have htb := HYFb.out.tm
     have hta := HYFa.out.tm
     go_upto_region 19 with (fail)
     generalize ha0 : Act.mk _ _ = a0
     have oe14 : a0.eval (.tmp 14) = .pointer (some ⟨p, 0, none⟩) := by rw [← ha0]; rfl
     have oe16 : a0.eval (.tmp 16) = .pointer (some ⟨u15_3.heap.size, 0, none⟩) := by rw [← ha0]; rfl
     have oe17 : a0.eval (.tmp 17) = .int .i64 0 := by rw [← ha0]; rfl
     have oe18 : a0.eval (.tmp 18) = .pointer (some ⟨u18_3.heap.size, 0, none⟩) := by rw [← ha0]; rfl
     have oe19 : a0.eval (.tmp 19) = .int .i64 0 := by rw [← ha0]; rfl
     have hsz0 : a0.tmps.size = 127 := by rw [← ha0]; rfl
     have HA0 := hid ha0
     clear ha0
     refine wp_region_Q0 127 hsz0 [101, 102, 103, 104, 105, 106, 107, 108, 109, 110, 111, 112, 113, 114, 115, 116, 117, 118, 119, 120, 121, 122, 123, 124, 125] [qi (.int .i64 0), qi (.bool false), qi (.bool false), qi (.int .i64 0), qi (.bool false), qi (.bool false), qi (.bool false), qi (.pointer (some ⟨u15_3.heap.size, 35, none⟩)), qi (.int .u64 (ya.tm : Nat)), qi (.pointer (some ⟨u18_3.heap.size, 35, none⟩)), qi (.int .u64 (yb.tm : Nat)), qi (.bool false), qi (.bool false), qi (.bool false), qi (.pointer (some ⟨u18_3.heap.size, 35, none⟩)), qi (.int .u64 (yb.tm : Nat)), qi (.pointer (some ⟨p, 0, none⟩)), qi (.int .u64 ((fl : Nat) : Int)), qi (.bool false), qi (.bool false), qi (.bool false), qi (.pointer (some ⟨p, 0, none⟩)), qi (.int .i64 2), qi (.bool false), qi (.bool false)] ⟨qi_stable, qi_stable, qi_stable, qi_stable, qi_stable, qi_stable, qi_stable, qi_stable, qi_stable, qi_stable, qi_stable, qi_stable, qi_stable, qi_stable, qi_stable, qi_stable, qi_stable, qi_stable, qi_stable, qi_stable, qi_stable, qi_stable, qi_stable, qi_stable, qi_stable, trivial⟩ [] ⟨?_, ?_, ?_, ?_, ?_, ?_, ?_, ?_, ?_, ?_, ?_, ?_, ?_, ?_, ?_, ?_, ?_, ?_, ?_, ?_, ?_, ?_, ?_, ?_, ?_, trivial⟩ ?_
     ·exact stq (fun E => ex_move rfl (E.v oe17))
     ·exact stq (fun E => ex_binE rfl (E.d 0) rfl (guard_ints _ _ _ _ _ _) (run_neq_i _ _ _ Try.underlying40) (congrArg Value.bool (show _ = false from rfl)))
     ·exact stq (fun E => ex_move rfl (E.d 1))
     ·refine stepq_env rfl rfl rfl fun _ _ _ _ _ _ _ hout hsz hd _ _ => ?_
      have h2 := hd ⟨2, .guard⟩ (by simp) rfl _ rfl
      refine qe_run rfl ((wanted_of rfl rfl (hsz 103 (by decide)) h2).trans rfl) (ex_move rfl ((hout 19 (by decide)).trans oe19)) QE.refl ?_
      rfl
     ·refine stepq_env rfl rfl rfl fun _ _ _ _ _ _ _ _ hsz hd _ _ => ?_
      have h2 := hd ⟨2, .guard⟩ (by simp) rfl _ rfl
      have h3 := hd ⟨3, .data⟩ (by simp) rfl _ rfl
      refine qe_run rfl ((wanted_of rfl rfl (hsz 103 (by decide)) h2).trans rfl) (ex_binE rfl h3 rfl (guard_ints _ _ _ _ _ _) (run_neq_i _ _ _ Try.underlying40) (congrArg Value.bool (show _ = false from rfl))) QE.refl ?_
      rfl
     ·exact stq (fun E => ex_pick rfl (E.d 2) rfl (E.d 4))
     ·exact stq (fun E => ex_move rfl (E.d 5))
     ·refine stepq_env rfl rfl rfl fun _ _ _ _ _ _ _ hout hsz hd _ _ => ?_
      have h6 := hd ⟨6, .guard⟩ (by simp) rfl _ rfl
      refine qe_run rfl ((wanted_of rfl rfl (hsz 107 (by decide)) h6).trans rfl) (ex_field rfl Try.underlying47 rfl (by kernel_rfl) ((hout 16 (by decide)).trans oe16)) QE.refl ?_
      rfl
     ·refine stepq_env rfl rfl rfl fun _ _ _ _ _ hm _ _ hsz hd _ _ => ?_
      have h6 := hd ⟨6, .guard⟩ (by simp) rfl _ rfl
      have h7 := hd ⟨7, .data⟩ (by simp) rfl _ rfl
      refine qe_run rfl ((wanted_of rfl rfl (hsz 107 (by decide)) h6).trans rfl) (ex_load1 rfl Try.underlying45 rfl h7 (Cs.post1 (m := 32) (k := 0) ((Hx70.out.mod Cx92.out (by intro h2; omega)).mod hm.old (by intro h2; omega)) (by rw [List.length_map]; exact HYFa.out.ok.h.1) rfl rfl)) QE.refl ?_
      rfl
     ·refine stepq_env rfl rfl rfl fun _ _ _ _ _ _ _ hout hsz hd _ _ => ?_
      have h6 := hd ⟨6, .guard⟩ (by simp) rfl _ rfl
      refine qe_run rfl ((wanted_of rfl rfl (hsz 107 (by decide)) h6).trans rfl) (ex_field rfl Try.underlying47 rfl (by kernel_rfl) ((hout 18 (by decide)).trans oe18)) QE.refl ?_
      rfl
     ·refine stepq_env rfl rfl rfl fun _ _ _ _ _ hm _ _ hsz hd _ _ => ?_
      have h6 := hd ⟨6, .guard⟩ (by simp) rfl _ rfl
      have h9 := hd ⟨9, .data⟩ (by simp) rfl _ rfl
      refine qe_run rfl ((wanted_of rfl rfl (hsz 107 (by decide)) h6).trans rfl) (ex_load1 rfl Try.underlying45 rfl h9 (Cs.post1 (m := 32) (k := 0) (Hx91.out.mod hm.old (by intro h2; omega)) (by rw [List.length_map]; exact HYFb.out.ok.h.1) rfl rfl)) QE.refl ?_
      rfl
     ·refine stepq_env rfl rfl rfl fun _ _ _ _ _ _ _ _ hsz hd _ _ => ?_
      have h6 := hd ⟨6, .guard⟩ (by simp) rfl _ rfl
      have h8 := hd ⟨8, .data⟩ (by simp) rfl _ rfl
      have h10 := hd ⟨10, .data⟩ (by simp) rfl _ rfl
      refine qe_run rfl ((wanted_of rfl rfl (hsz 107 (by decide)) h6).trans rfl) (ex_binE rfl h8 h10 (guard_ints _ _ _ _ _ _) (run_geq_i _ _ _ Try.underlying45) (congrArg Value.bool (decide_eq_false (by omega)))) QE.refl ?_
      rfl
     ·exact stq (fun E => ex_pick rfl (E.d 6) rfl (E.d 11))
     ·exact stq (fun E => ex_move rfl (E.d 12))
     ·refine stepq_env rfl rfl rfl fun _ _ _ _ _ _ _ hout hsz hd _ _ => ?_
      have h13 := hd ⟨13, .guard⟩ (by simp) rfl _ rfl
      refine qe_run rfl ((wanted_of rfl rfl (hsz 114 (by decide)) h13).trans rfl) (ex_field rfl Try.underlying47 rfl (by kernel_rfl) ((hout 18 (by decide)).trans oe18)) QE.refl ?_
      rfl
     ·refine stepq_env rfl rfl rfl fun _ _ _ _ _ hm _ _ hsz hd _ _ => ?_
      have h13 := hd ⟨13, .guard⟩ (by simp) rfl _ rfl
      have h14 := hd ⟨14, .data⟩ (by simp) rfl _ rfl
      refine qe_run rfl ((wanted_of rfl rfl (hsz 114 (by decide)) h13).trans rfl) (ex_load1 rfl Try.underlying45 rfl h14 (Cs.post1 (m := 32) (k := 0) (Hx91.out.mod hm.old (by intro h2; omega)) (by rw [List.length_map]; exact HYFb.out.ok.h.1) rfl rfl)) QE.refl ?_
      rfl
     ·refine stepq_env rfl rfl rfl fun _ _ _ _ _ _ _ hout hsz hd _ _ => ?_
      have h13 := hd ⟨13, .guard⟩ (by simp) rfl _ rfl
      refine qe_run rfl ((wanted_of rfl rfl (hsz 114 (by decide)) h13).trans rfl) (ex_move rfl ((hout 14 (by decide)).trans oe14)) QE.refl ?_
      rfl
     ·refine stepq_env rfl rfl rfl fun _ _ _ _ _ hm _ _ hsz hd _ _ => ?_
      have h13 := hd ⟨13, .chain⟩ (by simp) rfl _ rfl
      have h16 := hd ⟨16, .data⟩ (by simp) rfl _ rfl
      refine qe_callF (args := #[.pointer (some ⟨p, 0, none⟩)]) rfl ((wanted_of rfl rfl (hsz 114 (by decide)) h13).trans rfl) rfl Try.func16 (args1 h16) (Floor_Q (Hx94.out.mod hm.old (by intro k h1 h2; omega))) ?_
      rintro e w2 ⟨rfl, rfl⟩
      exact ⟨_, rfl, QE.refl, rfl⟩
     ·refine stepq_env rfl rfl rfl fun _ _ _ _ _ _ _ _ hsz hd _ _ => ?_
      have h13 := hd ⟨13, .guard⟩ (by simp) rfl _ rfl
      have h15 := hd ⟨15, .data⟩ (by simp) rfl _ rfl
      have h17 := hd ⟨17, .data⟩ (by simp) rfl _ rfl
      refine qe_run rfl ((wanted_of rfl rfl (hsz 114 (by decide)) h13).trans rfl) (ex_binE rfl h15 h17 (guard_ints _ _ _ _ _ _) (run_leq_i _ _ _ Try.underlying45) (congrArg Value.bool (decide_eq_false (by omega)))) QE.refl ?_
      rfl
     ·exact stq (fun E => ex_pick rfl (E.d 13) rfl (E.d 18))
     ·exact stq (fun E => ex_move rfl (E.d 19))
     ·refine stepq_env rfl rfl rfl fun _ _ _ _ _ _ _ hout hsz hd _ _ => ?_
      have h20 := hd ⟨20, .guard⟩ (by simp) rfl _ rfl
      refine qe_run rfl ((wanted_of rfl rfl (hsz 121 (by decide)) h20).trans rfl) (ex_move rfl ((hout 14 (by decide)).trans oe14)) QE.refl ?_
      rfl
     ·refine stepq_env rfl rfl rfl fun _ _ _ _ _ hm _ _ hsz hd _ _ => ?_
      have h20 := hd ⟨20, .chain⟩ (by simp) rfl _ rfl
      have h21 := hd ⟨21, .data⟩ (by simp) rfl _ rfl
      refine qe_callF (args := #[.pointer (some ⟨p, 0, none⟩)]) rfl ((wanted_of rfl rfl (hsz 121 (by decide)) h20).trans rfl) rfl Try.func17 (args1 h21) (SLen_Q (Hx94.out.mod hm.old (by intro k h1 h2; omega))) ?_
      rintro e w2 ⟨rfl, rfl⟩
      exact ⟨_, rfl, QE.refl, rfl⟩
     ·refine stepq_env rfl rfl rfl fun _ _ _ _ _ _ _ _ hsz hd _ _ => ?_
      have h20 := hd ⟨20, .guard⟩ (by simp) rfl _ rfl
      have h22 := hd ⟨22, .data⟩ (by simp) rfl _ rfl
      refine qe_run rfl ((wanted_of rfl rfl (hsz 121 (by decide)) h20).trans rfl) (ex_binE rfl h22 rfl (guard_ints _ _ _ _ _ _) (run_neq_i _ _ _ Try.underlying3) (congrArg Value.bool (ne_ff rfl))) QE.refl ?_
      rfl
     ·exact stq (fun E => ex_pick rfl (E.d 20) rfl (E.d 23))
     intro u19_0 hr
     have zu19_0 := hr.size
     have Cx95 := hid (hr.new (S := (fun _ => False)))
     clear hr
     refine QChain.nil fun vs hl hzz hrows hne => ?_
     obtain ⟨Z, hYZ, hZb, hV⟩ := hzz
     have f0 := fvi hV hl 0
     have f2 := fvi hV hl 2
     have f3 := fvi hV hl 3
     have f6 := fvi hV hl 6
     have f13 := fvi hV hl 13
     have f16 := fvi hV hl 16
     have f17 := fvi hV hl 17
     have f20 := fvi hV hl 20
     have f21 := fvi hV hl 21
     have f22 := fvi hV hl 22
     have f24 := fvi hV hl 24
     rw [show vs = [gw vs 0, gw vs 1, gw vs 2, gw vs 3, gw vs 4, gw vs 5, gw vs 6, gw vs 7, gw vs 8, gw vs 9, gw vs 10, gw vs 11, gw vs 12, gw vs 13, gw vs 14, gw vs 15, gw vs 16, gw vs 17, gw vs 18, gw vs 19, gw vs 20, gw vs 21, gw vs 22, gw vs 23, gw vs 24] from (gw_eta hl).trans rfl]
     have ha0 := HA0.out
     subst ha0
     clear HA0 hV hYZ hZb hsz0 hrows hne oe14 oe16 oe17 oe18 oe19
     simp only [putAll, Act.put, List.setIfInBounds_toArray, List.set_cons_zero, List.set_cons_succ, f0, f2, f3, f6, f13, f16, f17, f20, f21, f22, f24]
     clear hl f0 f2 f3 f6 f13 f16 f17 f20 f21 f22 f24
     clear Hx70
     clear Hx91
     clear Hx94
     go_upto_region 9 with (fail)
     refine wp_region_U 127 [45, 46, 13] [0, 1, 2] (fun a0 HA0 => ?_)
     have oe13 := ev HA0 13 rfl
     refine QSeq.pure rfl _ (fun E => ex_move rfl (E.y 2 oe13)) ?_
     refine QSeq.pure rfl (.int .i64 (((i + 1) : Nat) : Int)) (fun E => ex_binE rfl (E.d 0 0) rfl (guard_ints _ _ _ _ _ _) (run_add_i _ _ Try.underlying3) (congrArg (Value.int .i64) (i64_eq (b := (((i + 1) : Nat) : Int)) (by omega) (by omega) (by omega)))) ?_
     refine QSeq.pure rfl _ (fun E => ex_assign rfl (E.d 1 0)) ?_
     refine QSeq.nil (t' := [_, _, _]) rfl ?_
     obtain rfl := HA0.out
     clear HA0 oe13
     simp only [pz, Act.put, List.setIfInBounds_toArray, List.set_cons_zero, List.set_cons_succ]
     go_wp2
     go_roundw
     case rel => exact ⟨i + 1, Mb, rfl, by omega, (by have := HYFa.out.ln; have := HYFb.out.ln; omega), HYFb.out.gr _ _ (HYFa.out.gr _ _ KR1.out), HYFb.out.gr _ _ (HYFa.out.gr _ _ KR2.out), by omega, (Hx93.out.mod Cx95.out (fun _ _ h => h)), ((((K2.out.mod Cx31.out (fun h => h)).mod Cx71.out (by intro h2; omega)).mod Cx92.out (by intro h2; omega)).mod Cx95.out (fun h => h)), ((((K3.out.mod Cx31.out (fun h => h)).mod Cx71.out (by intro h2; omega)).mod Cx92.out (by intro h2; omega)).mod Cx95.out (fun h => h)), ((((K4.out.mod Cx31.out (fun h => h)).mod Cx71.out (by intro h2; omega)).mod Cx92.out (by intro h2; omega)).mod Cx95.out (fun h => h)), ((((K5.out.mod Cx31.out (fun _ _ h => h)).mod Cx71.out (by intro k h1 h2; omega)).mod Cx92.out (by intro k h1 h2; omega)).mod Cx95.out (fun _ _ h => h)), ((((K6.out.mod Cx31.out (fun _ _ h => h)).mod Cx71.out (by intro k h1 h2; omega)).mod Cx92.out (by intro k h1 h2; omega)).mod Cx95.out (fun _ _ h => h)), ((((K7.out.mod Cx31.out (fun _ _ h => h)).mod Cx71.out (by intro k h1 h2; omega)).mod Cx92.out (by intro k h1 h2; omega)).mod Cx95.out (fun _ _ h => h)), ((((K8.out.trans Cx31.out (fun _ _ h => h.elim)).trans Cx71.out (by intro k h1 h2; omega)).trans Cx92.out (by intro k h1 h2; omega)).trans Cx95.out (fun _ _ h => h.elim))⟩
     case measure => simp [intOf]; omega
  ·obtain rfl : pb7 = false := HB7.out.trans (by rw [Bool.eq_false_iff]; intro h; simp only [Bool.and_eq_true, decide_eq_true_eq] at h; omega)
   go_upto_region 21 with (fail)
   refine wp_region_U 127 [126, 8] [0, 1] (fun a0 HA0 => ?_)
   refine QSeq.call rfl rfl Try.func18 (wakes09 _) (fun E => args0) ?_
   rintro e u21_0 ⟨rfl, hm⟩
   refine ⟨_, rfl, ?_⟩
   have zu21_0 := hm.size
   have Cx96 := hid (show Mod (fun _ => False) wl u21_0 from hm)
   clear hm
   refine QSeq.pure rfl _ (fun E => ex_assign rfl (E.d 0 0)) ?_
   refine QSeq.nil (t' := [_, _]) rfl ?_
   obtain rfl := HA0.out
   clear HA0
   simp only [pz, Act.put, List.setIfInBounds_toArray, List.set_cons_zero, List.set_cons_succ]
   go_wp2
   go_ret
   exact ⟨rfl, (K8.out.trans Cx96.out (fun _ _ h => h.elim))⟩
end Go.Proofs.Ytbifincepglilaa

namespace Go.Proofs.Ytbifincepglilaa.stampOrder
open Go Go.RowKit Go.Gv Go.ChangeShapes Go.WideShapes Go.ChangeAt
open Go.ChangeMaps (open_string shut_string)

theorem own : ownKnob Try.prog.godebug = none := by kernel_rfl
theorem laidOut : laidOutB Try.prog = true := by kernel_rfl

theorem lifted (os : Os) (started : os.Started) (H : Type) (enc : TypeId × Value → H) :
    ReturnsInHanded {} Try.checked os 3 .any (Rows.stampOrderSpec.pre6 enc Try.prog Try.f3 Rows.stampOrderRow.domain false) (Rows.stampOrderSpec.post enc Try.prog Try.f3 false true false false) := by
  refine returnsInHanded_of_change (C := Try.checked) own started (by kernel_rfl) Try.func3
    (ChangeSpec.witness6 (enc := enc) (C := Try.checked) false ⟨#[], #[.int .i64 0, .slice none 0 0, .slice none 0 0, .slice none 0 0], []⟩ 8 (by kernel_rfl) (by kernel_rfl) (by kernel_rfl) (by kernel_rfl)) ?_
  intro W base args ds gs before hval0 hW hcnd _
  have hval : ∀ (j : Nat) t v, Try.f3.params[j]? = some t → args[j]? = some v → Value.okWide Try.prog W .any base t v := hval0
  have hW' := hW
  obtain ⟨p, q, hA0, hV, rfl, hfz, hnd⟩ := hW
  have hA : DataW.TrodAll enc Try.prog W 0 (fun _ => true) true Try.f3.params.toList args.toList ds p := hA0
  rw [Try.params3] at hA hval
  obtain ⟨v0, vs0, d0, ds0, p0, q0, hargs, rfl, rfl, h0, r0⟩ := trodAll_cons hA
  obtain ⟨v1, vs1, d1, ds1, p1, q1, rfl, rfl, rfl, h1, r1⟩ := trodAll_cons r0
  obtain ⟨v2, vs2, d2, ds2, p2, q2, rfl, rfl, rfl, h2, r2⟩ := trodAll_cons r1
  obtain ⟨v3, vs3, d3, ds3, p3, q3, rfl, rfl, rfl, h3, r3⟩ := trodAll_cons r2
  obtain ⟨rfl, rfl, rfl⟩ := trodAll_nil r3
  obtain rfl : args = #[v0, v1, v2, v3] := by cases args; simp_all
  obtain ⟨rfl, rfl⟩ := trodVars_none hV
  have k0 := h0
  have lt0 : ∀ x ∈ p0, x.block < W.heap.size := by obtain ⟨m, hm⟩ := k0; exact DataW.trod_lt m _ _ _ hm
  have k1 := h1
  have lt1 : ∀ x ∈ p1, x.block < W.heap.size := by obtain ⟨m, hm⟩ := k1; exact DataW.trod_lt m _ _ _ hm
  have k2 := h2
  have lt2 : ∀ x ∈ p2, x.block < W.heap.size := by obtain ⟨m, hm⟩ := k2; exact DataW.trod_lt m _ _ _ hm
  have k3 := h3
  have lt3 : ∀ x ∈ p3, x.block < W.heap.size := by obtain ⟨m, hm⟩ := k3; exact DataW.trod_lt m _ _ _ hm
  obtain ⟨a0, rfl, rfl, rfl, w0⟩ := open_int Try.underlying3 (hval 0 3 v0 rfl rfl) h0
  obtain ⟨l1, e1⟩ := slice_arg reads_uint Try.underlying22 (by kernel_rfl) k1 (hval 1 22 v1 rfl rfl)
  obtain ⟨l2, e2⟩ := slice_arg reads_uint Try.underlying22 (by kernel_rfl) k2 (hval 2 22 v2 rfl rfl)
  obtain ⟨l3, e3⟩ := slice_arg reads_int Try.underlying23 (by kernel_rfl) k3 (hval 3 23 v3 rfl rfl)
  clear hA0 hval0
  refine (StampOrder_walk a0 l1 l2 l3 v1 v2 v3 W (i64_bd w0) e1 e2 e3).mono fun e W' ⟨he, hmod⟩ => ?_
  subst he
  have bel : Below W.heap.size W W' := hmod.below (Nat.le_refl _) (fun _ _ => id)
  exact ⟨_, rfl, _, _, _, [], _, [], hW', trodAll_mk1 (shut_bool Try.underlying4 _), (trodAll_cons_mk (Below.trod laidOut (by kernel_rfl) (of_decide_eq_true (by kernel_rfl)) k0 bel lt0) (trodAll_cons_mk (Below.trod laidOut (by kernel_rfl) (of_decide_eq_true (by kernel_rfl)) k1 bel lt1) (trodAll_cons_mk (Below.trod laidOut (by kernel_rfl) (of_decide_eq_true (by kernel_rfl)) k2 bel lt2) (trodAll_cons_mk (Below.trod laidOut (by kernel_rfl) (of_decide_eq_true (by kernel_rfl)) k3 bel lt3) trodAll_mk0)))), rfl, bel.frame _, fun h => by cases h⟩

theorem over : Rows.stampOrderRow.holds Try.pinned (OpenSpec.ofChange Rows.stampOrderSpec) :=
  OpenClaim.holds_of_wide 3 Try.f3 rfl rfl rfl rfl rfl rfl rfl ⟨rfl, rfl, rfl, rfl, rfl⟩ rfl rfl rfl rfl rfl (by kernel_rfl) Try.func3 (by kernel_rfl)
    (of_decide_eq_true (by kernel_rfl)) (by unfold Func.isWrapper; first | (rw [if_pos (by decide +kernel)]; kernel_rfl) | (rw [if_neg (by decide +kernel)]; exact ⟨rfl, rfl⟩))
    (fun os started H enc _ => lifted os started H enc)

theorem proved : Rows.StampOrderSaid := over
end Go.Proofs.Ytbifincepglilaa.stampOrder
