/- Texts that are built one behind the other: XPy1, XPy2, XNt9. No condition. -/
import Derived.Test.YtekbmpjdombedaaNpP6
set_option maxRecDepth 100000
set_option linter.unusedVariables false
open List renaming setIfInBounds_toArray → sIB, set_cons_zero → sCZ, set_cons_succ → sCS
/- Certificates, promises, batches of a play. -/
namespace Go.Proofs.Ytekbmpjdombedaa
open Go Go.RowKit Go.Gv


/-- what the play leaves of a certificate, a promise, an opening, a tombstone, a batch -/
def pcCe (x : Ce) : Ce := { x with l := x.l.take 6 }
def pcPm (x : Pm) : Pm := { x with l := (x.l.take 3).map pcCe }
def pcOp (x : Op) : Op := { x with pl := x.pl.take 60 }
def pcTb (x : Tb) : Tb := { x with l := x.l.take 6 }
def pcBa (x : Ba) : Ba := { x with ps := (x.ps.take 6).map pcPm, os := (x.os.take 3).map pcOp, ts := (x.ts.take 3).map pcTb }
set_option maxHeartbeats 4000000 in
theorem PCert_c : CutR CeR 45 pcCe := by
 intro R2 x cs w hx hB2
 obtain ⟨v_l, rfl, hok, hs0⟩ := hx
 obtain ⟨ao, cap, rfl⟩ := hs0.shape
 have HS := Lib.hid hs0
 have HBT := Lib.hid hB2
 have HOK := Lib.hid hok
 clear hs0 hB2 hok
 go_enter Try.func45, Try.ntmps45
 go_upto_region 1 with (fail)
 obtain ⟨w1, hw1⟩ : ∃ zz, zz = ((w.alloc (.cells (x.cells (.slice ao x.l.length cap) : List Value).toArray 41)).alloc (.cells #[.int .i64 0, .int .i64 0, .int .u8 0, .int .u8 0, .int .u8 0, .int .u8 0, .int .u8 0, .int .u8 0, .int .u8 0, .int .u8 0, .int .u8 0, .int .u8 0, .int .u8 0, .int .u8 0, .int .u8 0, .int .u8 0, .int .u8 0, .int .u8 0, .int .u8 0, .int .u8 0, .int .u8 0, .int .u8 0, .int .u8 0, .int .u8 0, .int .u8 0, .int .u8 0, .int .u8 0, .int .u8 0, .int .u8 0, .int .u8 0, .int .u8 0, .int .u8 0, .int .u8 0, .int .u8 0, .int .i64 0, .int .i64 0, .int .i64 0, .slice none 0 0] 41)) := ⟨_, rfl⟩
 change Code.wp _ _ _ _ ((w.alloc (.cells (x.cells (.slice ao x.l.length cap) : List Value).toArray 41)).alloc (.cells #[.int .i64 0, .int .i64 0, .int .u8 0, .int .u8 0, .int .u8 0, .int .u8 0, .int .u8 0, .int .u8 0, .int .u8 0, .int .u8 0, .int .u8 0, .int .u8 0, .int .u8 0, .int .u8 0, .int .u8 0, .int .u8 0, .int .u8 0, .int .u8 0, .int .u8 0, .int .u8 0, .int .u8 0, .int .u8 0, .int .u8 0, .int .u8 0, .int .u8 0, .int .u8 0, .int .u8 0, .int .u8 0, .int .u8 0, .int .u8 0, .int .u8 0, .int .u8 0, .int .u8 0, .int .u8 0, .int .i64 0, .int .i64 0, .int .i64 0, .slice none 0 0] 41))
 rw [← hw1]
 have HB1 := hid (show Cs w1 (w.heap.size) (x.cells (.slice ao x.l.length cap) : List Value).toArray 41 by rw [hw1]; exact (Cs.new _ _ _).alloc _)
 have HB2 := hid (show Cs w1 (w.heap.size + 1) #[.int .i64 0, .int .i64 0, .int .u8 0, .int .u8 0, .int .u8 0, .int .u8 0, .int .u8 0, .int .u8 0, .int .u8 0, .int .u8 0, .int .u8 0, .int .u8 0, .int .u8 0, .int .u8 0, .int .u8 0, .int .u8 0, .int .u8 0, .int .u8 0, .int .u8 0, .int .u8 0, .int .u8 0, .int .u8 0, .int .u8 0, .int .u8 0, .int .u8 0, .int .u8 0, .int .u8 0, .int .u8 0, .int .u8 0, .int .u8 0, .int .u8 0, .int .u8 0, .int .u8 0, .int .u8 0, .int .i64 0, .int .i64 0, .int .i64 0, .slice none 0 0] 41 by rw [hw1]; exact Cs_newN _ _ _ (by simp))
 have hm : Mod (fun _ => False) w w1 := by rw [hw1]; exact ((Mod.refl _ _).alloc _).alloc _
 have HM0 := hid (show Mod (fun _ => False) w w1 from hm.mono (fun _ _ h => h.elim))
 have hs1 : w1.heap.size = w.heap.size + 2 := by rw [hw1]; simp
 have Hx1 := hid (HS.out.mod hm (fun _ _ h => h))
 clear HS
 clear hw1 hm
 go_upto_region 1 with (fail)
 refine wp_region_U 8 [3, 4, 5, 6, 12] [0, 1, 2, 3, 4] (fun a0 HA0 => ?_)
 have oe1 := ev HA0 1 rfl
 refine QSeq.pure rfl (.pointer (some ⟨w.heap.size, 37, none⟩)) (fun E => ex_field rfl Try.underlying41 rfl (by kernel_rfl) (E.v oe1)) ?_
 refine QSeq.pure rfl _ (fun E => ex_load1 rfl Try.underlying39 rfl (E.d 0 0) (Cs.post1 (pre := []) (mid := x.c.cells) (post := [.slice ao x.l.length cap]) (m := 37) (k := 0) HB1.out (Cm.len HOK.out.2.1) rfl rfl)) ?_
 refine QSeq.call rfl rfl Try.func58 (Cut_St _ _ x.l 6 _ Hx1.out (by intro k h1; have hb := HBT.out k h1; omega) (by omega)) (fun E => args2 (E.d 1 0) rfl) ?_
 rintro e u1_2 ⟨v', rfl, qout, hm⟩
 obtain ⟨ao', cap', rfl⟩ := qout.shape
 refine ⟨_, rfl, ?_⟩
 have Hx2 := hid (qout.widen (R' := (fun k => (New w1 u1_2 k))) (E' := (fun k => (R2 k))) (fun _ h => h) (fun _ h => h))
 have zu1_2 := hm.size
 have Cx3 := hid (show Mod (fun _ => False) w1 u1_2 from hm)
 clear hm
 clear qout
 refine QSeq.pure rfl (.pointer (some ⟨w.heap.size, 37, none⟩)) (fun E => ex_field rfl Try.underlying41 rfl (by kernel_rfl) (E.v oe1)) ?_
 refine QSeq.go fun act E => ?_
 refine qc_store rfl (wanted_none rfl) rfl (HB1.out.mod Cx3.out (fun h => h)) (off := 37) (vs := [Value.slice ao' (x.l.take 6).length cap']) (by kernel_rfl) one1 (by simp [Ce.cells, Cm.len HOK.out.2.1]) (E.d 3 0) (ec (E.d 2 1)) ?_
 intro u1_4 qc0 hm
 have qB1 := qc0.eqv (b := ((x.c.cells ++ [Value.slice ao' (x.l.take 6).length cap']) : List Value).toArray) (lay_l x.c _ _ HOK.out.2.1)
 clear qc0
 have Hx4 := hid qB1
 have zu1_4 := hm.size
 have HMu1_4 := hid hm
 have Cx5 := hid (Mod.goS (S' := (fun k => (k = w.heap.size))) Cx3.out hm (fun _ h => h.elim) (by intro k h0 h2; exact h2))
 clear hm Cx3
 clear act E qB1 HB1
 have Hx6 := hid (Hx2.out.mod HMu1_4.out (by intro k h1 h2; omega) (sB HBT))
 clear Hx2 HMu1_4
 refine QSeq.nil (t' := [_, _, _, _, _]) rfl ?_
 obtain rfl := HA0.out
 clear HA0 oe1
 simp only [pz, Act.put, sIB, sCZ, sCS, List.set_nil]
 go_upto_region 2 with (fail)
 refine wp_region_U 8 [7, 9] [0, 1] (fun a0 HA0 => ?_)
 have oe1 := ev HA0 1 rfl
 have oe2 := ev HA0 2 rfl
 refine QSeq.pure rfl _ (fun E => ex_loadA rfl Try.underlying41 rfl (off := 0) (cs := x.c.cells ++ [Value.slice ao' (x.l.take 6).length cap']) (by rw [List.length_append, Cm.len HOK.out.2.1]; exact size_ce) (E.v oe1) (Cs.whole Hx4.out)) ?_
 refine QSeq.go fun act E => ?_
 refine qc_store rfl (wanted_none rfl) rfl (HB2.out.mod Cx5.out (by intro h2; omega)) (off := 0) (vs := (x.c.cells ++ [Value.slice ao' (x.l.take 6).length cap'])) (by rw [List.length_append, Cm.len HOK.out.2.1]; exact size_ce) (one_ce _ _ rfl) (by simp [Cm.len HOK.out.2.1]) (E.v oe2) (ec (E.d 0 0)) ?_
 intro u2_1 qc0 hm
 have qB2 := qc0.eqv (b := ((x.c.cells ++ [Value.slice ao' (x.l.take 6).length cap']) : List Value).toArray) (lay_whole _ _ (by simp [Cm.len HOK.out.2.1]))
 clear qc0
 have Hx7 := hid qB2
 have zu2_1 := hm.size
 have Cx8 := hid (show Mod (fun k => (k = w.heap.size + 1)) u1_4 u2_1 from hm)
 clear hm
 clear act E qB2 HB2
 refine QSeq.nil (t' := [_, _]) rfl ?_
 obtain rfl := HA0.out
 clear HA0 oe1 oe2
 simp only [pz, Act.put, sIB, sCZ, sCS, List.set_nil]
 go_wp2
 have hq := (Hx6.out.mod Cx8.out (by intro k h1 h2; omega) (sB HBT))
 refine bodyPost_ret (results_cellA rfl _ _ (w.heap.size + 1) (x.c.cells ++ [Value.slice ao' (x.l.take 6).length cap']) rfl (fun k u hu => by rw [Hx7.out.cell]; simpa using hu) Try.underlying41 rfl (by rw [List.length_append, Cm.len HOK.out.2.1]; exact size_ce)) rfl ⟨_, rfl, ⟨_, rfl, HOK.out, hq.rd.widen ?_⟩, ((HM0.out.trans Cx5.out (by intro k h1 h2; omega)).trans Cx8.out (by intro k h1 h2; omega))⟩
 intro k h
 (try dsimp only at h ⊢)
 rcases h with h | h
 ·right; omega
 ·exact Or.inl h
set_option maxHeartbeats 4000000 in
theorem PPromise_c : CutR PmR 46 pcPm := by
 intro R2 x cs w hx hB2
 obtain ⟨v_l, rfl, hok, hs0⟩ := hx
 obtain ⟨ao, cap, rfl⟩ := hs0.shape
 have HS := Lib.hid hs0
 have HBT := Lib.hid hB2
 have HOK := Lib.hid hok
 clear hs0 hB2 hok
 go_enter Try.func46, Try.ntmps46
 go_upto_region 1 with (fail)
 obtain ⟨w1, hw1⟩ : ∃ zz, zz = ((w.alloc (.cells (x.cells (.slice ao x.l.length cap) : List Value).toArray 46)).alloc (.cells #[.int .i64 0, .int .i64 0, .int .u64 0, .slice none 0 0, .int .i64 0, .int .i64 0] 46)) := ⟨_, rfl⟩
 change Code.wp _ _ _ _ ((w.alloc (.cells (x.cells (.slice ao x.l.length cap) : List Value).toArray 46)).alloc (.cells #[.int .i64 0, .int .i64 0, .int .u64 0, .slice none 0 0, .int .i64 0, .int .i64 0] 46))
 rw [← hw1]
 have HB1 := hid (show Cs w1 (w.heap.size) (x.cells (.slice ao x.l.length cap) : List Value).toArray 46 by rw [hw1]; exact (Cs.new _ _ _).alloc _)
 have HB2 := hid (show Cs w1 (w.heap.size + 1) #[.int .i64 0, .int .i64 0, .int .u64 0, .slice none 0 0, .int .i64 0, .int .i64 0] 46 by rw [hw1]; exact Cs_newN _ _ _ (by simp))
 have hm : Mod (fun _ => False) w w1 := by rw [hw1]; exact ((Mod.refl _ _).alloc _).alloc _
 have HM0 := hid (show Mod (fun _ => False) w w1 from hm.mono (fun _ _ h => h.elim))
 have hs1 : w1.heap.size = w.heap.size + 2 := by rw [hw1]; simp
 have Hx1 := hid (HS.out.mod hm (fun _ _ h => h))
 clear HS
 clear hw1 hm
 go_wp2
 go_loopw [3, 4] (fun ta ti wr => ∃ k : Nat, ti = .int .i64 (k : Int) ∧ k ≤ x.l.length ∧ k ≤ 3 ∧ w1.heap.size ≤ wr.heap.size ∧ OwS CeR 41 (fun b => w1.heap.size ≤ b ∧ b < wr.heap.size) (fun b => R2 b ∨ (w1.heap.size ≤ b ∧ b < wr.heap.size)) wr ta ((x.l.take k).map pcCe) ∧ RdS CeR R2 wr (.slice ao x.l.length cap) x.l ∧ Cs wr (w.heap.size) (x.cells (.slice ao x.l.length cap) : List Value).toArray 46 ∧ Cs wr (w.heap.size + 1) #[.int .i64 0, .int .i64 0, .int .u64 0, .slice none 0 0, .int .i64 0, .int .i64 0] 46 ∧ Mod (fun _ => False) w wr) (fun _ ti _ => x.l.length - (intOf ti).toNat)
 case atStart => exact ⟨0, rfl, Nat.zero_le _, Nat.zero_le _, Nat.le_refl _, OwS.nil _ _ _ _ _, Hx1.out, HB1.out, HB2.out, HM0.out⟩
 case round =>
  obtain ⟨k1, rfl, hk, hkN, hz, ha, hk_0, hk_1, hk_2, hm⟩ := hrel
  obtain ⟨wl1, rfl⟩ : ∃ x, x = wr := ⟨_, rfl⟩
  obtain ⟨aol1, capl1, rfl⟩ := ha.shape
  have HAL1 := Lib.hid ha
  have HKL1_0 := Lib.hid hk_0
  have HKL1_1 := Lib.hid hk_1
  have HKL1_2 := Lib.hid hk_2
  have HML1 := Lib.hid hm
  clear ha hm hk_0 hk_1 hk_2 Hx1 HB1 HB2 HM0
  by_cases hlt1 : k1 < x.l.length ∧ k1 < 3
  ·obtain ⟨hlt1, hlN1⟩ := hlt1
   go_upto_region 3 with (fail)
   refine wp_region_U 28 [5, 6, 7, 8, 9, 10, 11, 12, 13] [0, 1, 2, 3, 4, 5, 6, 7, 8] (fun a0 HA0 => ?_)
   have oe1 := ev HA0 1 rfl
   have oe4 := ev HA0 4 rfl
   refine QSeq.pure rfl _ (fun E => ex_move rfl (E.v oe4)) ?_
   refine QSeq.pure rfl (.pointer (some ⟨w.heap.size, 3, none⟩)) (fun E => ex_field rfl Try.underlying46 rfl (by kernel_rfl) (E.v oe1)) ?_
   refine QSeq.pure rfl _ (fun E => ex_load1 rfl Try.underlying44 rfl (E.d 1 0) (Cs.lit1 HKL1_1.out rfl)) ?_
   refine QSeq.pure rfl (.int .i64 x.l.length) (fun E => ex_lenS rfl (E.d 2 0) Try.underlying44) ?_
   refine QSeq.pure rfl (.bool true) (fun E => ex_binE rfl (E.d 0 3) (E.d 3 0) (guard_ints _ _ _ _ _ _) (run_lss_i _ _ _ Try.underlying3) (congrArg Value.bool (decide_eq_true (by omega)))) ?_
   refine QSeq.pure rfl _ (fun E => ex_move rfl (E.d 4 0)) ?_
   refine QSeq.pureG rfl (.int .i64 ((k1 : Nat) : Int)) (fun E => ((wanted_of rfl rfl (E.sz 10 (by decide)) (E.d 5 0)).trans rfl)) (fun E => ex_move rfl (E.v oe4)) ?_
   refine QSeq.pureG rfl (.bool true) (fun E => ((wanted_of rfl rfl (E.sz 10 (by decide)) (E.d 5 1)).trans rfl)) (fun E => ex_binE rfl (E.d 6 0) rfl (guard_ints _ _ _ _ _ _) (run_lss_i _ _ _ Try.underlying3) (congrArg Value.bool (decide_eq_true (by omega)))) ?_
   refine QSeq.pure rfl (.bool true) (fun E => ex_pick rfl (E.d 5 2) (E.d 7 0) rfl) ?_
   refine QSeq.nil (t' := [_, _, _, _, _, _, _, _, _]) rfl ?_
   obtain rfl := HA0.out
   clear HA0 oe1 oe4
   simp only [pz, Act.put, sIB, sCZ, sCS]
   have hat := HKL1_0.out.at hlt1
   obtain ⟨g1, o1, cs1, eao, hrg, hrd, hcs⟩ := hat
   subst eao
   have hcl : cs1.length = 38 := CeR.len hrd
   have HCL1 := Lib.hid hcl
   have HAT1 := hid (show CellsAt R2 wl1 g1 (o1 + k1 * 38) cs1 from ⟨hrg, hcs⟩)
   have HRD1 := Lib.hid hrd
   have HOC1 := hid (CeR.one hrd)
   clear hcl hcs hrd hrg
   have HE1 : Hid (((x.l.take k1).map pcCe) ++ [pcCe x.l[k1]] = (x.l.take (k1 + 1)).map pcCe) := hid (by rw [List.take_succ_eq_append_getElem hlt1, List.map_append]; rfl)
   have HLN1 : Hid (((x.l.take k1).map pcCe).length = k1) := hid (by rw [List.length_map, List.length_take]; omega)
   go_upto_region 5 with (fail)
   refine wp_region_U 28 [16, 17, 18, 19, 20, 21, 22, 23, 24, 3] [0, 1, 2, 3, 4, 5, 6, 7, 8, 9] (fun a0 HA0 => ?_)
   have oe1 := ev HA0 1 rfl
   have oe3 := ev HA0 3 rfl
   have oe4 := ev HA0 4 rfl
   refine QSeq.pure rfl _ (fun E => ex_move rfl (E.y 9 oe3)) ?_
   refine QSeq.pure rfl (.pointer (some ⟨w.heap.size, 3, none⟩)) (fun E => ex_field rfl Try.underlying46 rfl (by kernel_rfl) (E.v oe1)) ?_
   refine QSeq.pure rfl _ (fun E => ex_load1 rfl Try.underlying44 rfl (E.d 1 0) (Cs.lit1 HKL1_1.out rfl)) ?_
   refine QSeq.pure rfl _ (fun E => ex_move rfl (E.v oe4)) ?_
   refine QSeq.pure rfl (.pointer (some ⟨g1, o1 + k1 * 38, none⟩)) (fun E => ex_idxS (i := k1) (s := 38) rfl Try.underlying44 (by kernel_rfl) (E.d 2 1) (E.d 3 0) hlt1) ?_
   refine QSeq.pure rfl _ (fun E => ex_loadA rfl Try.underlying41 rfl (off := o1 + k1 * 38) (cs := cs1) (by rw [HCL1.out]; kernel_rfl) (E.d 4 0) (fun j u hu => (HAT1.out).2 j u hu)) ?_
   refine QSeq.call rfl rfl Try.func45 (PCert_c _ _ _ _ HRD1.out (by intro k h1; have hb := HBT.out k h1; omega)) (fun E => args1 (E.d 5 0)) ?_
   rintro e u5_6 ⟨cs', rfl, qel, hm⟩
   refine ⟨_, rfl, ?_⟩
   have Hx2 := hid (qel.widen (R' := (fun k => (R2 k) ∨ (New wl1 u5_6 k))) (fun _ h => h))
   have zu5_6 := hm.size
   have Cx3 := hid (show Mod (fun _ => False) wl1 u5_6 from hm)
   clear hm
   clear qel HRD1
   refine QSeq.go fun act E => ?_
   refine qc_buildS (e := 41) (cs := cs') (zc := [.int .i64 0, .int .i64 0, .int .u8 0, .int .u8 0, .int .u8 0, .int .u8 0, .int .u8 0, .int .u8 0, .int .u8 0, .int .u8 0, .int .u8 0, .int .u8 0, .int .u8 0, .int .u8 0, .int .u8 0, .int .u8 0, .int .u8 0, .int .u8 0, .int .u8 0, .int .u8 0, .int .u8 0, .int .u8 0, .int .u8 0, .int .u8 0, .int .u8 0, .int .u8 0, .int .u8 0, .int .u8 0, .int .u8 0, .int .u8 0, .int .u8 0, .int .u8 0, .int .u8 0, .int .u8 0, .int .i64 0, .int .i64 0, .int .i64 0, .slice none 0 0]) (sz := 38) rfl (wanted_none rfl) rfl Try.underlying44 (by kernel_rfl) rfl (by decide) (by decide) (E.d 6 0) (CeR.len Hx2.out) ?_
   intro u5_7 qrow hm
   have zl5_7 := qrow.lt
   have Hx4 := hid qrow
   have zu5_7 := hm.size
   have HMu5_7 := hid hm
   have Cx5 := hid (Cx3.out.goE hm)
   clear hm Cx3
   clear act E qrow
   refine QSeq.go fun act E => ?_
   refine qc_appS (A := CeR) (e := 41) rfl (wanted_none rfl) rfl (.agg #[.int .i64 0, .int .i64 0, .int .u8 0, .int .u8 0, .int .u8 0, .int .u8 0, .int .u8 0, .int .u8 0, .int .u8 0, .int .u8 0, .int .u8 0, .int .u8 0, .int .u8 0, .int .u8 0, .int .u8 0, .int .u8 0, .int .u8 0, .int .u8 0, .int .u8 0, .int .u8 0, .int .u8 0, .int .u8 0, .int .u8 0, .int .u8 0, .int .u8 0, .int .u8 0, .int .u8 0, .int .u8 0, .int .u8 0, .int .u8 0, .int .u8 0, .int .u8 0, .int .u8 0, .int .u8 0, .int .i64 0, .int .i64 0, .int .i64 0, .slice none 0 0]) 96 Try.underlying44 info_Ce (by rfl) (of_decide_eq_true (by kernel_rfl)) (E.d 0 7) (E.d 7 0) ((HAL1.out.mod Cx5.out (fun _ _ h => h) (fun _ _ h => h))) (RdS.single (R := (fun k => (R2 k) ∨ (New wl1 u5_6 k) ∨ (k = u5_6.heap.size))) Hx4.out ((Hx2.out.mod HMu5_7.out (fun _ _ h => h)).widen (by intro k h1; rcases h1 with h1 | h1 <;> first | omega | exact h1.elim | exact Or.inl h1 | exact Or.inr (Or.inl h1) | exact Or.inr (Or.inr (h1)))) (by first | exact Or.inr rfl | exact Or.inr (Or.inr rfl) | (right; omega))) (by intro k h1 h2; rcases h1 with h1 | h1 | h1 <;> first | omega | (have hb := HBT.out k h1; omega)) (by rw [HLN1.out]; simp only [List.length_cons, List.length_nil]; omega) (by rw [HLN1.out, maxLen_val]; simp only [List.length_cons, List.length_nil]; omega) ?_
   intro ao4 cap4 u5_8 qacc hm
   have Hx6 := hid (qacc.widen (R' := (fun k => (New w1 wl1 k) ∨ (New u5_7 u5_8 k))) (E' := (fun k => (R2 k) ∨ (New w1 wl1 k) ∨ (New wl1 u5_6 k) ∨ (k = u5_6.heap.size))) (fun _ h => h) (by intro k h1; rcases h1 with (h1 | h1) | (h1 | h1 | h1) <;> first | omega | exact h1.elim | exact Or.inl h1 | exact Or.inr (Or.inl h1) | exact Or.inr (Or.inr (Or.inl h1)) | exact Or.inr (Or.inr (Or.inr (h1)))))
   have zu5_8 := hm.size
   have HMu5_8 := hid hm
   have Cx7 := hid (Mod.goS (S' := (fun k => (New w1 wl1 k))) Cx5.out hm (fun _ h => h.elim) (by intro k h0 h2; exact h2))
   clear hm Cx5
   clear act E qacc HAL1
   refine QSeq.pure rfl _ (fun E => ex_assign rfl (E.d 8 0)) ?_
   have Hx8 := hid ((Hx2.out.mod HMu5_7.out (fun _ _ h => h)).mod HMu5_8.out (by intro k h1 h2; rcases h1 with h1 | h1 <;> first | omega | (have hb := HBT.out k h1; omega)))
   have Hx9 := hid (Hx4.out.mod HMu5_8.out (by intro h2; omega))
   clear Hx2 Hx4 HMu5_7 HMu5_8
   refine QSeq.nil (t' := [_, _, _, _, _, _, _, _, _, _]) rfl ?_
   obtain rfl := HA0.out
   clear HA0 oe1 oe3 oe4
   simp only [pz, Act.put, sIB, sCZ, sCS]
   have hq := Hx6.out
   rw [HE1.out] at hq
   have HQ1 := Lib.hid hq
   clear hq
   go_wp2
   go_roundw
   case rel => exact ⟨k1 + 1, by go_num, by omega, by omega, by omega, (HQ1.out.widen (by intro b h1; omega) (by intro k h1; rcases h1 with h1 | h1 | h1 | h1 <;> first | omega | exact h1.elim | exact Or.inl h1 | exact Or.inr (h1))), (HKL1_0.out.mod Cx7.out (sN HBT)), (HKL1_1.out.mod Cx7.out (by intro h2; omega)), (HKL1_2.out.mod Cx7.out (by intro h2; omega)), (HML1.out.trans Cx7.out (by intro k h1 h2; omega))⟩
   case measure => simp [intOf]; omega
  ·skip
   obtain ⟨bA1, hbA1⟩ : ∃ b : Bool, b = decide (((k1 : Nat) : Int) < (x.l.length : Int)) := ⟨_, rfl⟩
   obtain ⟨bB1, hbB1⟩ : ∃ b : Bool, b = decide (((k1 : Nat) : Int) < 3) := ⟨_, rfl⟩
   go_upto_region 3 with (fail)
   refine wp_region_U 28 [5, 6, 7, 8, 9, 10, 11, 12, 13] [0, 1, 2, 3, 4, 5, 6, 7, 8] (fun a0 HA0 => ?_)
   have oe1 := ev HA0 1 rfl
   have oe4 := ev HA0 4 rfl
   refine QSeq.pure rfl _ (fun E => ex_move rfl (E.v oe4)) ?_
   refine QSeq.pure rfl (.pointer (some ⟨w.heap.size, 3, none⟩)) (fun E => ex_field rfl Try.underlying46 rfl (by kernel_rfl) (E.v oe1)) ?_
   refine QSeq.pure rfl _ (fun E => ex_load1 rfl Try.underlying44 rfl (E.d 1 0) (Cs.lit1 HKL1_1.out rfl)) ?_
   refine QSeq.pure rfl (.int .i64 x.l.length) (fun E => ex_lenS rfl (E.d 2 0) Try.underlying44) ?_
   refine QSeq.pure rfl (.bool bA1) (fun E => ex_binE rfl (E.d 0 3) (E.d 3 0) (guard_ints _ _ _ _ _ _) (run_lss_i _ _ _ Try.underlying3) (congrArg Value.bool hbA1.symm)) ?_
   refine QSeq.pure rfl _ (fun E => ex_move rfl (E.d 4 0)) ?_
   refine QSeq.may (b := bA1) rfl (.int .i64 ((k1 : Nat) : Int)) (fun E => ((wanted_of rfl rfl (E.sz 10 (by decide)) (E.d 5 0)).trans (beq_t _))) (fun E hb => ex_move rfl (E.v oe4)) ?_
   intro v3_6 hw
   have hv3_6 := hid hw
   clear hw
   refine QSeq.may (b := bA1) rfl (.bool bB1) (fun E => ((wanted_of rfl rfl (E.sz 10 (by decide)) (E.d 5 1)).trans (beq_t _))) (fun E hb => ex_binE rfl ((E.q 6 0 hv3_6.out).1 hb) rfl (guard_ints _ _ _ _ _ _) (run_lss_i _ _ _ Try.underlying3) (congrArg Value.bool hbB1.symm)) ?_
   intro v3_7 hw
   have hv3_7 := hid hw
   clear hw
   refine QSeq.pure rfl (.bool (bA1 && bB1)) (fun E => ex_pickE rfl (E.d 5 2) rfl rfl (and_val fun hb => (E.q 7 0 hv3_7.out).1 hb)) ?_
   clear hv3_6 hv3_7
   refine QSeq.nil (t' := [_, _, _, _, _, _, _, _, _]) rfl ?_
   obtain rfl := HA0.out
   clear HA0 oe1 oe4
   simp only [pz, Act.put, sIB, sCZ, sCS]
   rw [show (bA1 && bB1) = false by rw [hbA1, hbB1, Bool.and_eq_false_iff, decide_eq_false_iff_not, decide_eq_false_iff_not]; omega]
   have HTK1 := hid (show x.l.take k1 = x.l.take 3 from take_two (by omega) (by omega))
   go_upto_region 6 with (fail)
   refine wp_region_U 28 [25, 26, 30] [0, 1, 2] (fun a0 HA0 => ?_)
   have oe1 := ev HA0 1 rfl
   have oe3 := ev HA0 3 rfl
   refine QSeq.pure rfl _ (fun E => ex_move rfl (E.v oe3)) ?_
   refine QSeq.pure rfl (.pointer (some ⟨w.heap.size, 3, none⟩)) (fun E => ex_field rfl Try.underlying46 rfl (by kernel_rfl) (E.v oe1)) ?_
   refine QSeq.go fun act E => ?_
   refine qc_store rfl (wanted_none rfl) rfl HKL1_1.out (off := 3) (vs := [Value.slice aol1 ((x.l.take k1).map pcCe).length capl1]) (by kernel_rfl) one1 (by simp) (E.d 1 0) (ec (E.d 0 1)) ?_
   intro u6_2 qc0 hm
   have qB1 := qc0.eqv (b := #[.int .i64 x.rp, .int .i64 x.ep, .int .u64 (x.fl : Nat), Value.slice aol1 ((x.l.take k1).map pcCe).length capl1, .int .i64 x.sb, .int .i64 x.mr]) rfl
   clear qc0
   have Hx10 := hid qB1
   have zu6_2 := hm.size
   have Cx11 := hid (show Mod (fun k => (k = w.heap.size)) wl1 u6_2 from hm)
   clear hm
   clear act E qB1 HKL1_1
   refine QSeq.nil (t' := [_, _, _]) rfl ?_
   obtain rfl := HA0.out
   clear HA0 oe1 oe3
   simp only [pz, Act.put, sIB, sCZ, sCS, List.set_nil]
   go_upto_region 7 with (fail)
   refine wp_region_U 28 [27, 29] [0, 1] (fun a0 HA0 => ?_)
   have oe1 := ev HA0 1 rfl
   have oe2 := ev HA0 2 rfl
   refine QSeq.pure rfl _ (fun E => ex_loadA rfl Try.underlying46 rfl (off := 0) (cs := [.int .i64 x.rp, .int .i64 x.ep, .int .u64 (x.fl : Nat), Value.slice aol1 ((x.l.take k1).map pcCe).length capl1, .int .i64 x.sb, .int .i64 x.mr]) (by kernel_rfl) (E.v oe1) (Cs.whole Hx10.out)) ?_
   refine QSeq.go fun act E => ?_
   refine qc_store rfl (wanted_none rfl) rfl (HKL1_2.out.mod Cx11.out (by intro h2; omega)) (off := 0) (vs := [.int .i64 x.rp, .int .i64 x.ep, .int .u64 (x.fl : Nat), Value.slice aol1 ((x.l.take k1).map pcCe).length capl1, .int .i64 x.sb, .int .i64 x.mr]) (by kernel_rfl) (by intro u hu; simp at hu; rcases hu with rfl | rfl | rfl | rfl | rfl | rfl <;> rfl) (by simp) (E.v oe2) (ec (E.d 0 0)) ?_
   intro u7_1 qc0 hm
   have qB2 := qc0.eqv (b := #[.int .i64 x.rp, .int .i64 x.ep, .int .u64 (x.fl : Nat), Value.slice aol1 ((x.l.take k1).map pcCe).length capl1, .int .i64 x.sb, .int .i64 x.mr]) rfl
   clear qc0
   have Hx12 := hid qB2
   have zu7_1 := hm.size
   have Cx13 := hid (show Mod (fun k => (k = w.heap.size + 1)) u6_2 u7_1 from hm)
   clear hm
   clear act E qB2 HKL1_2
   refine QSeq.nil (t' := [_, _]) rfl ?_
   obtain rfl := HA0.out
   clear HA0 oe1 oe2
   simp only [pz, Act.put, sIB, sCZ, sCS, List.set_nil]
   go_wp2
   have hq := ((HAL1.out.mod Cx11.out (by intro k h1 h2; omega) (by intro k h1 h2; rcases h1 with h1 | h1 <;> first | omega | (have hb := HBT.out k h1; omega))).mod Cx13.out (by intro k h1 h2; omega) (by intro k h1 h2; rcases h1 with h1 | h1 <;> first | omega | (have hb := HBT.out k h1; omega)))
   refine bodyPost_ret (results_cellA rfl _ _ (w.heap.size + 1) ([.int .i64 x.rp, .int .i64 x.ep, .int .u64 (x.fl : Nat), Value.slice aol1 ((x.l.take k1).map pcCe).length capl1, .int .i64 x.sb, .int .i64 x.mr]) rfl (fun k u hu => by rw [Hx12.out.cell]; simpa using hu) Try.underlying46 rfl (by kernel_rfl)) rfl ⟨_, rfl, ⟨_, rfl, HOK.out, ?_⟩, ((HML1.out.trans Cx11.out (by intro k h1 h2; omega)).trans Cx13.out (by intro k h1 h2; omega))⟩
   rw [show (pcPm x).l = (x.l.take k1).map pcCe from congrArg (List.map pcCe) HTK1.out.symm]
   refine hq.rd.widen ?_
   intro k h
   (try dsimp only at h ⊢)
   rcases h with h | h | h
   ·right; omega
   ·exact Or.inl h
   ·right; omega
set_option maxHeartbeats 8000000 in
theorem PBatch_c : CutR BaR 47 pcBa := by
 intro R2 x cs w hx hB2
 obtain ⟨v_ps, v_os, v_ts, rfl, hok, hs0, hs1, hs2⟩ := hx
 obtain ⟨ao_ps, cap_ps, rfl⟩ := hs0.shape
 obtain ⟨ao_os, cap_os, rfl⟩ := hs1.shape
 obtain ⟨ao_ts, cap_ts, rfl⟩ := hs2.shape
 have HS0 := Lib.hid hs0
 have HS1 := Lib.hid hs1
 have HS2 := Lib.hid hs2
 have HBT := Lib.hid hB2
 have HOK := Lib.hid hok
 clear hs0 hs1 hs2 hB2 hok
 go_enter Try.func47, Try.ntmps47
 go_upto_region 1 with (fail)
 obtain ⟨w1, hw1⟩ : ∃ zz, zz = ((w.alloc (.cells (x.cells (.slice ao_ps x.ps.length cap_ps) (.slice ao_os x.os.length cap_os) (.slice ao_ts x.ts.length cap_ts) : List Value).toArray 51)).alloc (.cells #[.int .i64 0, .int .u64 0, .slice none 0 0, .slice none 0 0, .slice none 0 0] 51)) := ⟨_, rfl⟩
 change Code.wp _ _ _ _ ((w.alloc (.cells (x.cells (.slice ao_ps x.ps.length cap_ps) (.slice ao_os x.os.length cap_os) (.slice ao_ts x.ts.length cap_ts) : List Value).toArray 51)).alloc (.cells #[.int .i64 0, .int .u64 0, .slice none 0 0, .slice none 0 0, .slice none 0 0] 51))
 rw [← hw1]
 have HB1 := hid (show Cs w1 (w.heap.size) (x.cells (.slice ao_ps x.ps.length cap_ps) (.slice ao_os x.os.length cap_os) (.slice ao_ts x.ts.length cap_ts) : List Value).toArray 51 by rw [hw1]; exact (Cs.new _ _ _).alloc _)
 have HB2 := hid (show Cs w1 (w.heap.size + 1) #[.int .i64 0, .int .u64 0, .slice none 0 0, .slice none 0 0, .slice none 0 0] 51 by rw [hw1]; exact Cs_newN _ _ _ (by simp))
 have hm : Mod (fun _ => False) w w1 := by rw [hw1]; exact ((Mod.refl _ _).alloc _).alloc _
 have HM0 := hid (show Mod (fun _ => False) w w1 from hm.mono (fun _ _ h => h.elim))
 have hs1 : w1.heap.size = w.heap.size + 2 := by rw [hw1]; simp
 have Hx1 := hid (HS0.out.mod hm (fun _ _ h => h))
 clear HS0
 have Hx2 := hid (HS1.out.mod hm (fun _ _ h => h))
 clear HS1
 have Hx3 := hid (HS2.out.mod hm (fun _ _ h => h))
 clear HS2
 clear hw1 hm
 go_wp2
 go_loopw [3, 4] (fun ta ti wr => ∃ k : Nat, ti = .int .i64 (k : Int) ∧ k ≤ x.ps.length ∧ k ≤ 6 ∧ w1.heap.size ≤ wr.heap.size ∧ OwS PmR 46 (fun b => w1.heap.size ≤ b ∧ b < wr.heap.size) (fun b => R2 b ∨ (w1.heap.size ≤ b ∧ b < wr.heap.size)) wr ta ((x.ps.take k).map pcPm) ∧ RdS PmR R2 wr (.slice ao_ps x.ps.length cap_ps) x.ps ∧ RdS OpR R2 wr (.slice ao_os x.os.length cap_os) x.os ∧ RdS TbR R2 wr (.slice ao_ts x.ts.length cap_ts) x.ts ∧ Cs wr (w.heap.size) (x.cells (.slice ao_ps x.ps.length cap_ps) (.slice ao_os x.os.length cap_os) (.slice ao_ts x.ts.length cap_ts) : List Value).toArray 51 ∧ Cs wr (w.heap.size + 1) #[.int .i64 0, .int .u64 0, .slice none 0 0, .slice none 0 0, .slice none 0 0] 51 ∧ Mod (fun _ => False) w wr) (fun _ ti _ => x.ps.length - (intOf ti).toNat)
 case atStart => exact ⟨0, rfl, Nat.zero_le _, Nat.zero_le _, Nat.le_refl _, OwS.nil _ _ _ _ _, Hx1.out, Hx2.out, Hx3.out, HB1.out, HB2.out, HM0.out⟩
 case round =>
  obtain ⟨k1, rfl, hk, hkN, hz, ha, hk_0, hk_1, hk_2, hk_3, hk_4, hm⟩ := hrel
  obtain ⟨wl1, rfl⟩ : ∃ x, x = wr := ⟨_, rfl⟩
  obtain ⟨aol1, capl1, rfl⟩ := ha.shape
  have HAL1 := Lib.hid ha
  have HKL1_0 := Lib.hid hk_0
  have HKL1_1 := Lib.hid hk_1
  have HKL1_2 := Lib.hid hk_2
  have HKL1_3 := Lib.hid hk_3
  have HKL1_4 := Lib.hid hk_4
  have HML1 := Lib.hid hm
  clear ha hm hk_0 hk_1 hk_2 hk_3 hk_4 Hx1 Hx2 Hx3 HB1 HB2 HM0
  by_cases hlt1 : k1 < x.ps.length ∧ k1 < 6
  ·obtain ⟨hlt1, hlN1⟩ := hlt1
   go_upto_region 3 with (fail)
   refine wp_region_U 86 [11, 12, 13, 14, 15, 16, 17, 18, 19] [0, 1, 2, 3, 4, 5, 6, 7, 8] (fun a0 HA0 => ?_)
   have oe1 := ev HA0 1 rfl
   have oe4 := ev HA0 4 rfl
   refine QSeq.pure rfl _ (fun E => ex_move rfl (E.v oe4)) ?_
   refine QSeq.pure rfl (.pointer (some ⟨w.heap.size, 2, none⟩)) (fun E => ex_field rfl Try.underlying51 rfl (by kernel_rfl) (E.v oe1)) ?_
   refine QSeq.pure rfl _ (fun E => ex_load1 rfl Try.underlying47 rfl (E.d 1 0) (Cs.lit1 HKL1_3.out rfl)) ?_
   refine QSeq.pure rfl (.int .i64 x.ps.length) (fun E => ex_lenS rfl (E.d 2 0) Try.underlying47) ?_
   refine QSeq.pure rfl (.bool true) (fun E => ex_binE rfl (E.d 0 3) (E.d 3 0) (guard_ints _ _ _ _ _ _) (run_lss_i _ _ _ Try.underlying3) (congrArg Value.bool (decide_eq_true (by omega)))) ?_
   refine QSeq.pure rfl _ (fun E => ex_move rfl (E.d 4 0)) ?_
   refine QSeq.pureG rfl (.int .i64 ((k1 : Nat) : Int)) (fun E => ((wanted_of rfl rfl (E.sz 16 (by decide)) (E.d 5 0)).trans rfl)) (fun E => ex_move rfl (E.v oe4)) ?_
   refine QSeq.pureG rfl (.bool true) (fun E => ((wanted_of rfl rfl (E.sz 16 (by decide)) (E.d 5 1)).trans rfl)) (fun E => ex_binE rfl (E.d 6 0) rfl (guard_ints _ _ _ _ _ _) (run_lss_i _ _ _ Try.underlying3) (congrArg Value.bool (decide_eq_true (by omega)))) ?_
   refine QSeq.pure rfl (.bool true) (fun E => ex_pick rfl (E.d 5 2) (E.d 7 0) rfl) ?_
   refine QSeq.nil (t' := [_, _, _, _, _, _, _, _, _]) rfl ?_
   obtain rfl := HA0.out
   clear HA0 oe1 oe4
   simp only [pz, Act.put, sIB, sCZ, sCS]
   have hat := HKL1_0.out.at hlt1
   obtain ⟨g1, o1, cs1, eao, hrg, hrd, hcs⟩ := hat
   subst eao
   have hcl : cs1.length = 6 := PmR.len hrd
   have HCL1 := Lib.hid hcl
   have HAT1 := hid (show CellsAt R2 wl1 g1 (o1 + k1 * 6) cs1 from ⟨hrg, hcs⟩)
   have HRD1 := Lib.hid hrd
   have HOC1 := hid (PmR.one hrd)
   clear hcl hcs hrd hrg
   have HE1 : Hid (((x.ps.take k1).map pcPm) ++ [pcPm x.ps[k1]] = (x.ps.take (k1 + 1)).map pcPm) := hid (by rw [List.take_succ_eq_append_getElem hlt1, List.map_append]; rfl)
   have HLN1 : Hid (((x.ps.take k1).map pcPm).length = k1) := hid (by rw [List.length_map, List.length_take]; omega)
   go_upto_region 5 with (fail)
   refine wp_region_U 86 [22, 23, 24, 25, 26, 27, 28, 29, 30, 3] [0, 1, 2, 3, 4, 5, 6, 7, 8, 9] (fun a0 HA0 => ?_)
   have oe1 := ev HA0 1 rfl
   have oe3 := ev HA0 3 rfl
   have oe4 := ev HA0 4 rfl
   refine QSeq.pure rfl _ (fun E => ex_move rfl (E.y 9 oe3)) ?_
   refine QSeq.pure rfl (.pointer (some ⟨w.heap.size, 2, none⟩)) (fun E => ex_field rfl Try.underlying51 rfl (by kernel_rfl) (E.v oe1)) ?_
   refine QSeq.pure rfl _ (fun E => ex_load1 rfl Try.underlying47 rfl (E.d 1 0) (Cs.lit1 HKL1_3.out rfl)) ?_
   refine QSeq.pure rfl _ (fun E => ex_move rfl (E.v oe4)) ?_
   refine QSeq.pure rfl (.pointer (some ⟨g1, o1 + k1 * 6, none⟩)) (fun E => ex_idxS (i := k1) (s := 6) rfl Try.underlying47 (by kernel_rfl) (E.d 2 1) (E.d 3 0) hlt1) ?_
   refine QSeq.pure rfl _ (fun E => ex_loadA rfl Try.underlying46 rfl (off := o1 + k1 * 6) (cs := cs1) (by rw [HCL1.out]; kernel_rfl) (E.d 4 0) (fun j u hu => (HAT1.out).2 j u hu)) ?_
   refine QSeq.call rfl rfl Try.func46 (PPromise_c _ _ _ _ HRD1.out (by intro k h1; have hb := HBT.out k h1; omega)) (fun E => args1 (E.d 5 0)) ?_
   rintro e u5_6 ⟨cs', rfl, qel, hm⟩
   refine ⟨_, rfl, ?_⟩
   have Hx4 := hid (qel.widen (R' := (fun k => (R2 k) ∨ (New wl1 u5_6 k))) (fun _ h => h))
   have zu5_6 := hm.size
   have Cx5 := hid (show Mod (fun _ => False) wl1 u5_6 from hm)
   clear hm
   clear qel HRD1
   refine QSeq.go fun act E => ?_
   refine qc_buildS (e := 46) (cs := cs') (zc := [.int .i64 0, .int .i64 0, .int .u64 0, .slice none 0 0, .int .i64 0, .int .i64 0]) (sz := 6) rfl (wanted_none rfl) rfl Try.underlying47 (by kernel_rfl) rfl (by decide) (by decide) (E.d 6 0) (PmR.len Hx4.out) ?_
   intro u5_7 qrow hm
   have zl5_7 := qrow.lt
   have Hx6 := hid qrow
   have zu5_7 := hm.size
   have HMu5_7 := hid hm
   have Cx7 := hid (Cx5.out.goE hm)
   clear hm Cx5
   clear act E qrow
   refine QSeq.go fun act E => ?_
   refine qc_appS (A := PmR) (e := 46) rfl (wanted_none rfl) rfl (.agg #[.int .i64 0, .int .i64 0, .int .u64 0, .slice none 0 0, .int .i64 0, .int .i64 0]) 64 Try.underlying47 info_Pm (by rfl) (of_decide_eq_true (by kernel_rfl)) (E.d 0 7) (E.d 7 0) ((HAL1.out.mod Cx7.out (fun _ _ h => h) (fun _ _ h => h))) (RdS.single (R := (fun k => (R2 k) ∨ (New wl1 u5_6 k) ∨ (k = u5_6.heap.size))) Hx6.out ((Hx4.out.mod HMu5_7.out (fun _ _ h => h)).widen (by intro k h1; rcases h1 with h1 | h1 <;> first | omega | exact h1.elim | exact Or.inl h1 | exact Or.inr (Or.inl h1) | exact Or.inr (Or.inr (h1)))) (by first | exact Or.inr rfl | exact Or.inr (Or.inr rfl) | (right; omega))) (by intro k h1 h2; rcases h1 with h1 | h1 | h1 <;> first | omega | (have hb := HBT.out k h1; omega)) (by rw [HLN1.out]; simp only [List.length_cons, List.length_nil]; omega) (by rw [HLN1.out, maxLen_val]; simp only [List.length_cons, List.length_nil]; omega) ?_
   intro ao4 cap4 u5_8 qacc1 hm
   have Hx8 := hid (qacc1.widen (R' := (fun k => (New w1 wl1 k) ∨ (New u5_7 u5_8 k))) (E' := (fun k => (R2 k) ∨ (New w1 wl1 k) ∨ (New wl1 u5_6 k) ∨ (k = u5_6.heap.size))) (fun _ h => h) (by intro k h1; rcases h1 with (h1 | h1) | (h1 | h1 | h1) <;> first | omega | exact h1.elim | exact Or.inl h1 | exact Or.inr (Or.inl h1) | exact Or.inr (Or.inr (Or.inl h1)) | exact Or.inr (Or.inr (Or.inr (h1)))))
   have zu5_8 := hm.size
   have HMu5_8 := hid hm
   have Cx9 := hid (Mod.goS (S' := (fun k => (New w1 wl1 k))) Cx7.out hm (fun _ h => h.elim) (by intro k h0 h2; exact h2))
   clear hm Cx7
   clear act E qacc1 HAL1
   refine QSeq.pure rfl _ (fun E => ex_assign rfl (E.d 8 0)) ?_
   have Hx10 := hid ((Hx4.out.mod HMu5_7.out (fun _ _ h => h)).mod HMu5_8.out (by intro k h1 h2; rcases h1 with h1 | h1 <;> first | omega | (have hb := HBT.out k h1; omega)))
   have Hx11 := hid (Hx6.out.mod HMu5_8.out (by intro h2; omega))
   clear Hx4 Hx6 HMu5_7 HMu5_8
   refine QSeq.nil (t' := [_, _, _, _, _, _, _, _, _, _]) rfl ?_
   obtain rfl := HA0.out
   clear HA0 oe1 oe3 oe4
   simp only [pz, Act.put, sIB, sCZ, sCS]
   have hq := Hx8.out
   rw [HE1.out] at hq
   have HQ1 := Lib.hid hq
   clear hq
   go_wp2
   go_roundw
   case rel => exact ⟨k1 + 1, by go_num, by omega, by omega, by omega, (HQ1.out.widen (by intro b h1; omega) (by intro k h1; rcases h1 with h1 | h1 | h1 | h1 <;> first | omega | exact h1.elim | exact Or.inl h1 | exact Or.inr (h1))), (HKL1_0.out.mod Cx9.out (sN HBT)), (HKL1_1.out.mod Cx9.out (sN HBT)), (HKL1_2.out.mod Cx9.out (sN HBT)), (HKL1_3.out.mod Cx9.out (by intro h2; omega)), (HKL1_4.out.mod Cx9.out (by intro h2; omega)), (HML1.out.trans Cx9.out (by intro k h1 h2; omega))⟩
   case measure => simp [intOf]; omega
  ·skip
   obtain ⟨bA1, hbA1⟩ : ∃ b : Bool, b = decide (((k1 : Nat) : Int) < (x.ps.length : Int)) := ⟨_, rfl⟩
   obtain ⟨bB1, hbB1⟩ : ∃ b : Bool, b = decide (((k1 : Nat) : Int) < 6) := ⟨_, rfl⟩
   go_upto_region 3 with (fail)
   refine wp_region_U 86 [11, 12, 13, 14, 15, 16, 17, 18, 19] [0, 1, 2, 3, 4, 5, 6, 7, 8] (fun a0 HA0 => ?_)
   have oe1 := ev HA0 1 rfl
   have oe4 := ev HA0 4 rfl
   refine QSeq.pure rfl _ (fun E => ex_move rfl (E.v oe4)) ?_
   refine QSeq.pure rfl (.pointer (some ⟨w.heap.size, 2, none⟩)) (fun E => ex_field rfl Try.underlying51 rfl (by kernel_rfl) (E.v oe1)) ?_
   refine QSeq.pure rfl _ (fun E => ex_load1 rfl Try.underlying47 rfl (E.d 1 0) (Cs.lit1 HKL1_3.out rfl)) ?_
   refine QSeq.pure rfl (.int .i64 x.ps.length) (fun E => ex_lenS rfl (E.d 2 0) Try.underlying47) ?_
   refine QSeq.pure rfl (.bool bA1) (fun E => ex_binE rfl (E.d 0 3) (E.d 3 0) (guard_ints _ _ _ _ _ _) (run_lss_i _ _ _ Try.underlying3) (congrArg Value.bool hbA1.symm)) ?_
   refine QSeq.pure rfl _ (fun E => ex_move rfl (E.d 4 0)) ?_
   refine QSeq.may (b := bA1) rfl (.int .i64 ((k1 : Nat) : Int)) (fun E => ((wanted_of rfl rfl (E.sz 16 (by decide)) (E.d 5 0)).trans (beq_t _))) (fun E hb => ex_move rfl (E.v oe4)) ?_
   intro v3_6 hw
   have hv3_6 := hid hw
   clear hw
   refine QSeq.may (b := bA1) rfl (.bool bB1) (fun E => ((wanted_of rfl rfl (E.sz 16 (by decide)) (E.d 5 1)).trans (beq_t _))) (fun E hb => ex_binE rfl ((E.q 6 0 hv3_6.out).1 hb) rfl (guard_ints _ _ _ _ _ _) (run_lss_i _ _ _ Try.underlying3) (congrArg Value.bool hbB1.symm)) ?_
   intro v3_7 hw
   have hv3_7 := hid hw
   clear hw
   refine QSeq.pure rfl (.bool (bA1 && bB1)) (fun E => ex_pickE rfl (E.d 5 2) rfl rfl (and_val fun hb => (E.q 7 0 hv3_7.out).1 hb)) ?_
   clear hv3_6 hv3_7
   refine QSeq.nil (t' := [_, _, _, _, _, _, _, _, _]) rfl ?_
   obtain rfl := HA0.out
   clear HA0 oe1 oe4
   simp only [pz, Act.put, sIB, sCZ, sCS]
   rw [show (bA1 && bB1) = false by rw [hbA1, hbB1, Bool.and_eq_false_iff, decide_eq_false_iff_not, decide_eq_false_iff_not]; omega]
   have HTK1 := hid (show x.ps.take k1 = x.ps.take 6 from take_two (by omega) (by omega))
   go_wp2
   go_loopw [5, 6] (fun ta ti wr => ∃ k : Nat, ti = .int .i64 (k : Int) ∧ k ≤ x.os.length ∧ k ≤ 3 ∧ wl1.heap.size ≤ wr.heap.size ∧ OwS OpR 60 (fun b => wl1.heap.size ≤ b ∧ b < wr.heap.size) (fun b => R2 b ∨ (wl1.heap.size ≤ b ∧ b < wr.heap.size)) wr ta ((x.os.take k).map pcOp) ∧ RdS PmR R2 wr (.slice ao_ps x.ps.length cap_ps) x.ps ∧ RdS OpR R2 wr (.slice ao_os x.os.length cap_os) x.os ∧ RdS TbR R2 wr (.slice ao_ts x.ts.length cap_ts) x.ts ∧ Cs wr (w.heap.size) (x.cells (.slice ao_ps x.ps.length cap_ps) (.slice ao_os x.os.length cap_os) (.slice ao_ts x.ts.length cap_ts) : List Value).toArray 51 ∧ Cs wr (w.heap.size + 1) #[.int .i64 0, .int .u64 0, .slice none 0 0, .slice none 0 0, .slice none 0 0] 51 ∧ OwS PmR 46 (fun b => w1.heap.size ≤ b ∧ b < wl1.heap.size) (fun b => R2 b ∨ (w1.heap.size ≤ b ∧ b < wl1.heap.size)) wr (.slice aol1 ((x.ps.take k1).map pcPm).length capl1) ((x.ps.take k1).map pcPm) ∧ Mod (fun _ => False) w wr) (fun _ ti _ => x.os.length - (intOf ti).toNat)
   case atStart => exact ⟨0, rfl, Nat.zero_le _, Nat.zero_le _, Nat.le_refl _, OwS.nil _ _ _ _ _, HKL1_0.out, HKL1_1.out, HKL1_2.out, HKL1_3.out, HKL1_4.out, HAL1.out, HML1.out⟩
   case round =>
    obtain ⟨k2, rfl, hk, hkN, hz, ha, hk_0, hk_1, hk_2, hk_3, hk_4, hk_5, hm⟩ := hrel
    obtain ⟨wl2, rfl⟩ : ∃ x, x = wr := ⟨_, rfl⟩
    obtain ⟨aol2, capl2, rfl⟩ := ha.shape
    have HAL2 := Lib.hid ha
    have HKL2_0 := Lib.hid hk_0
    have HKL2_1 := Lib.hid hk_1
    have HKL2_2 := Lib.hid hk_2
    have HKL2_3 := Lib.hid hk_3
    have HKL2_4 := Lib.hid hk_4
    have HKL2_5 := Lib.hid hk_5
    have HML2 := Lib.hid hm
    clear ha hm hk_0 hk_1 hk_2 hk_3 hk_4 hk_5 HKL1_0 HKL1_1 HKL1_2 HKL1_3 HKL1_4 HML1 HAL1
    by_cases hlt2 : k2 < x.os.length ∧ k2 < 3
    ·obtain ⟨hlt2, hlN2⟩ := hlt2
     go_upto_region 8 with (fail)
     refine wp_region_U 86 [31, 32, 33, 34, 35, 36, 37, 38, 39] [0, 1, 2, 3, 4, 5, 6, 7, 8] (fun a0 HA0 => ?_)
     have oe1 := ev HA0 1 rfl
     have oe6 := ev HA0 6 rfl
     refine QSeq.pure rfl _ (fun E => ex_move rfl (E.v oe6)) ?_
     refine QSeq.pure rfl (.pointer (some ⟨w.heap.size, 3, none⟩)) (fun E => ex_field rfl Try.underlying51 rfl (by kernel_rfl) (E.v oe1)) ?_
     refine QSeq.pure rfl _ (fun E => ex_load1 rfl Try.underlying48 rfl (E.d 1 0) (Cs.lit1 HKL2_3.out rfl)) ?_
     refine QSeq.pure rfl (.int .i64 x.os.length) (fun E => ex_lenS rfl (E.d 2 0) Try.underlying48) ?_
     refine QSeq.pure rfl (.bool true) (fun E => ex_binE rfl (E.d 0 3) (E.d 3 0) (guard_ints _ _ _ _ _ _) (run_lss_i _ _ _ Try.underlying3) (congrArg Value.bool (decide_eq_true (by omega)))) ?_
     refine QSeq.pure rfl _ (fun E => ex_move rfl (E.d 4 0)) ?_
     refine QSeq.pureG rfl (.int .i64 ((k2 : Nat) : Int)) (fun E => ((wanted_of rfl rfl (E.sz 36 (by decide)) (E.d 5 0)).trans rfl)) (fun E => ex_move rfl (E.v oe6)) ?_
     refine QSeq.pureG rfl (.bool true) (fun E => ((wanted_of rfl rfl (E.sz 36 (by decide)) (E.d 5 1)).trans rfl)) (fun E => ex_binE rfl (E.d 6 0) rfl (guard_ints _ _ _ _ _ _) (run_lss_i _ _ _ Try.underlying3) (congrArg Value.bool (decide_eq_true (by omega)))) ?_
     refine QSeq.pure rfl (.bool true) (fun E => ex_pick rfl (E.d 5 2) (E.d 7 0) rfl) ?_
     refine QSeq.nil (t' := [_, _, _, _, _, _, _, _, _]) rfl ?_
     obtain rfl := HA0.out
     clear HA0 oe1 oe6
     simp only [pz, Act.put, sIB, sCZ, sCS]
     have hat := HKL2_1.out.at hlt2
     obtain ⟨g2, o2, cs2, eao, hrg, hrd, hcs⟩ := hat
     subst eao
     have hcl : cs2.length = 34 := OpR.len hrd
     have HCL2 := Lib.hid hcl
     have HAT2 := hid (show CellsAt R2 wl2 g2 (o2 + k2 * 34) cs2 from ⟨hrg, hcs⟩)
     have HRD2 := Lib.hid hrd
     have HOC2 := hid (OpR.one hrd)
     clear hcl hcs hrd hrg
     have HE2 : Hid (((x.os.take k2).map pcOp) ++ [pcOp x.os[k2]] = (x.os.take (k2 + 1)).map pcOp) := hid (by rw [List.take_succ_eq_append_getElem hlt2, List.map_append]; rfl)
     have HLN2 : Hid (((x.os.take k2).map pcOp).length = k2) := hid (by rw [List.length_map, List.length_take]; omega)
     obtain ⟨y2, hy2⟩ : ∃ y, y = x.os[k2] := ⟨_, rfl⟩
     rw [← hy2] at HRD2 HE2
     clear hy2
     obtain ⟨v_e, rfl, hoke, hse⟩ := HRD2.out
     obtain ⟨aoe2, cape2, rfl⟩ := hse.shape
     have HOK2 := Lib.hid hoke
     have HSE2 := Lib.hid hse
     clear hoke hse HRD2
     go_upto_region 10 with (fail)
     refine wp_region_U 86 [42, 43, 44, 45, 46, 7, 92] [0, 1, 2, 3, 4, 5, 6] (fun a0 HA0 => ?_)
     have oe1 := ev HA0 1 rfl
     have oe6 := ev HA0 6 rfl
     refine QSeq.pure rfl (.pointer (some ⟨w.heap.size, 3, none⟩)) (fun E => ex_field rfl Try.underlying51 rfl (by kernel_rfl) (E.v oe1)) ?_
     refine QSeq.pure rfl _ (fun E => ex_load1 rfl Try.underlying48 rfl (E.d 0 0) (Cs.lit1 HKL2_3.out rfl)) ?_
     refine QSeq.pure rfl _ (fun E => ex_move rfl (E.v oe6)) ?_
     refine QSeq.pure rfl (.pointer (some ⟨g2, o2 + k2 * 34, none⟩)) (fun E => ex_idxS (i := k2) (s := 34) rfl Try.underlying48 (by kernel_rfl) (E.d 1 1) (E.d 2 0) hlt2) ?_
     refine QSeq.pure rfl _ (fun E => ex_loadA rfl Try.underlying60 rfl (off := o2 + k2 * 34) (cs := (y2.cells (.slice aoe2 y2.pl.length cape2))) (by rw [HCL2.out]; kernel_rfl) (E.d 3 0) (fun j u hu => (HAT2.out).2 j u hu)) ?_
     refine QSeq.go fun act E => ?_
     refine qc_alloc rfl (wanted_none rfl) rfl (z := [.int .i64 0, .slice none 0 0, .int .u8 0, .int .u8 0, .int .u8 0, .int .u8 0, .int .u8 0, .int .u8 0, .int .u8 0, .int .u8 0, .int .u8 0, .int .u8 0, .int .u8 0, .int .u8 0, .int .u8 0, .int .u8 0, .int .u8 0, .int .u8 0, .int .u8 0, .int .u8 0, .int .u8 0, .int .u8 0, .int .u8 0, .int .u8 0, .int .u8 0, .int .u8 0, .int .u8 0, .int .u8 0, .int .u8 0, .int .u8 0, .int .u8 0, .int .u8 0, .int .u8 0, .int .u8 0]) (by kernel_rfl) ?_
     intro u10_5 qq2 hm
     have zl10_5 := qq2.lt
     have Hx12 := hid qq2
     have zu10_5 := hm.size
     have Cx13 := hid (show Mod (fun _ => False) wl2 u10_5 from hm)
     clear hm
     clear act E qq2
     refine QSeq.go fun act E => ?_
     have hlz : ((y2.cells (.slice aoe2 y2.pl.length cape2))).length = List.length ([.int .i64 0, .slice none 0 0, .int .u8 0, .int .u8 0, .int .u8 0, .int .u8 0, .int .u8 0, .int .u8 0, .int .u8 0, .int .u8 0, .int .u8 0, .int .u8 0, .int .u8 0, .int .u8 0, .int .u8 0, .int .u8 0, .int .u8 0, .int .u8 0, .int .u8 0, .int .u8 0, .int .u8 0, .int .u8 0, .int .u8 0, .int .u8 0, .int .u8 0, .int .u8 0, .int .u8 0, .int .u8 0, .int .u8 0, .int .u8 0, .int .u8 0, .int .u8 0, .int .u8 0, .int .u8 0] : List Value) := (by rw [HCL2.out]; rfl)
     refine qc_store rfl (wanted_none rfl) rfl Hx12.out (off := 0) (vs := (y2.cells (.slice aoe2 y2.pl.length cape2))) (by rw [hlz]; kernel_rfl) HOC2.out (by rw [hlz]; exact Nat.le_of_eq (Nat.zero_add _)) (E.d 5 0) (ec (E.d 4 1)) ?_
     intro u10_6 qc0 hm
     have qq2 := qc0.eqv (b := ((y2.cells (.slice aoe2 y2.pl.length cape2)) : List Value).toArray) (lay_whole (#[.int .i64 0, .slice none 0 0, .int .u8 0, .int .u8 0, .int .u8 0, .int .u8 0, .int .u8 0, .int .u8 0, .int .u8 0, .int .u8 0, .int .u8 0, .int .u8 0, .int .u8 0, .int .u8 0, .int .u8 0, .int .u8 0, .int .u8 0, .int .u8 0, .int .u8 0, .int .u8 0, .int .u8 0, .int .u8 0, .int .u8 0, .int .u8 0, .int .u8 0, .int .u8 0, .int .u8 0, .int .u8 0, .int .u8 0, .int .u8 0, .int .u8 0, .int .u8 0, .int .u8 0, .int .u8 0]) _ (by rw [hlz]; rfl))
     clear qc0 hlz
     have Hx14 := hid qq2
     have zu10_6 := hm.size
     have HMu10_6 := hid hm
     have Cx15 := hid (Mod.goS (S' := (fun _ => False)) Cx13.out hm (fun _ h => h) (by intro k h0 h2; omega))
     clear hm Cx13
     clear act E qq2 Hx12
     clear HMu10_6
     refine QSeq.nil (t' := [_, _, _, _, _, _, _]) rfl ?_
     obtain rfl := HA0.out
     clear HA0 oe1 oe6
     simp only [pz, Act.put, sIB, sCZ, sCS, List.set_nil]
     go_upto_region 11 with (fail)
     refine wp_region_U 86 [47, 48, 49, 50, 90] [0, 1, 2, 3, 4] (fun a0 HA0 => ?_)
     have oe7 := ev HA0 7 rfl
     refine QSeq.pure rfl (.pointer (some ⟨wl2.heap.size, 1, none⟩)) (fun E => ex_field rfl Try.underlying60 rfl (by kernel_rfl) (E.v oe7)) ?_
     refine QSeq.pure rfl _ (fun E => ex_load1 rfl Try.underlying58 rfl (E.d 0 0) (Cs.hd1 Hx14.out rfl)) ?_
     refine QSeq.call rfl rfl Try.func49 (Cut_R 60 (HSE2.out.mod Cx15.out (fun _ _ h => h)) (by decide)) (fun E => args2 (E.d 1 0) rfl) ?_
     rintro e u11_2 ⟨v', rfl, qpc, hm⟩
     obtain ⟨aop2, capp2, rfl⟩ := qpc.shape
     refine ⟨_, rfl, ?_⟩
     have Hx16 := hid qpc
     have zu11_2 := hm.size
     have Cx17 := hid (show Mod (fun _ => False) u10_6 u11_2 from hm)
     clear hm
     clear qpc
     refine QSeq.pure rfl (.pointer (some ⟨wl2.heap.size, 1, none⟩)) (fun E => ex_field rfl Try.underlying60 rfl (by kernel_rfl) (E.v oe7)) ?_
     refine QSeq.go fun act E => ?_
     refine qc_store rfl (wanted_none rfl) rfl (Hx14.out.mod Cx17.out (fun h => h)) (off := 1) (vs := [Value.slice aop2 (y2.pl.take 60).length capp2]) (by kernel_rfl) one1 (by rw [List.size_toArray, op_len _ _ HOK2.out.2.1]; show 1 + 1 ≤ 34; decide) (E.d 3 0) (ec (E.d 2 1)) ?_
     intro u11_4 qc0 hm
     have qq2 := qc0.eqv (b := (((pcOp y2).cells (Value.slice aop2 (y2.pl.take 60).length capp2)) : List Value).toArray) (lay_pl y2 (pcOp y2) _ _ ⟨rfl, rfl⟩)
     clear qc0
     have Hx18 := hid qq2
     have zu11_4 := hm.size
     have HMu11_4 := hid hm
     have Cx19 := hid (Mod.goS (S' := (fun k => (k = wl2.heap.size))) Cx17.out hm (fun _ h => h.elim) (by intro k h0 h2; exact h2))
     clear hm Cx17
     clear act E qq2 Hx14
     have Hx20 := hid (Hx16.out.mod HMu11_4.out (by intro k h1 h2; omega))
     clear Hx16 HMu11_4
     refine QSeq.nil (t' := [_, _, _, _, _]) rfl ?_
     obtain rfl := HA0.out
     clear HA0 oe7
     simp only [pz, Act.put, sIB, sCZ, sCS, List.set_nil]
     have HEL2 := hid (show OpR.rd (fun k => (New u10_6 u11_2 k)) u11_4 ((pcOp y2).cells (Value.slice aop2 (y2.pl.take 60).length capp2)) (pcOp y2) from ⟨_, rfl, HOK2.out, RdR_len Hx20.out.rd⟩)
     go_upto_region 12 with (fail)
     refine wp_region_U 86 [51, 52, 53, 54, 5] [0, 1, 2, 3, 4] (fun a0 HA0 => ?_)
     have oe5 := ev HA0 5 rfl
     have oe7 := ev HA0 7 rfl
     refine QSeq.pure rfl _ (fun E => ex_move rfl (E.y 4 oe5)) ?_
     refine QSeq.pure rfl _ (fun E => ex_loadA rfl Try.underlying60 rfl (off := 0) (cs := ((pcOp y2).cells (Value.slice aop2 (y2.pl.take 60).length capp2))) (by rw [op_len (pcOp y2) _ HOK2.out.2.1]; kernel_rfl) (E.v oe7) (Cs.whole Hx18.out)) ?_
     refine QSeq.go fun act E => ?_
     refine qc_buildS (e := 60) (cs := ((pcOp y2).cells (Value.slice aop2 (y2.pl.take 60).length capp2))) (zc := [.int .i64 0, .slice none 0 0, .int .u8 0, .int .u8 0, .int .u8 0, .int .u8 0, .int .u8 0, .int .u8 0, .int .u8 0, .int .u8 0, .int .u8 0, .int .u8 0, .int .u8 0, .int .u8 0, .int .u8 0, .int .u8 0, .int .u8 0, .int .u8 0, .int .u8 0, .int .u8 0, .int .u8 0, .int .u8 0, .int .u8 0, .int .u8 0, .int .u8 0, .int .u8 0, .int .u8 0, .int .u8 0, .int .u8 0, .int .u8 0, .int .u8 0, .int .u8 0, .int .u8 0, .int .u8 0]) (sz := 34) rfl (wanted_none rfl) rfl Try.underlying48 (by kernel_rfl) rfl (by decide) (by decide) (E.d 1 0) (OpR.len HEL2.out) ?_
     intro u12_2 qrow hm
     have zl12_2 := qrow.lt
     have Hx21 := hid qrow
     have zu12_2 := hm.size
     have Cx22 := hid (show Mod (fun _ => False) u11_4 u12_2 from hm)
     clear hm
     clear act E qrow
     refine QSeq.go fun act E => ?_
     refine qc_appS (A := OpR) (e := 60) rfl (wanted_none rfl) rfl (.agg #[.int .i64 0, .slice none 0 0, .int .u8 0, .int .u8 0, .int .u8 0, .int .u8 0, .int .u8 0, .int .u8 0, .int .u8 0, .int .u8 0, .int .u8 0, .int .u8 0, .int .u8 0, .int .u8 0, .int .u8 0, .int .u8 0, .int .u8 0, .int .u8 0, .int .u8 0, .int .u8 0, .int .u8 0, .int .u8 0, .int .u8 0, .int .u8 0, .int .u8 0, .int .u8 0, .int .u8 0, .int .u8 0, .int .u8 0, .int .u8 0, .int .u8 0, .int .u8 0, .int .u8 0, .int .u8 0]) 64 Try.underlying48 info_Op (by rfl) (of_decide_eq_true (by kernel_rfl)) (E.d 0 2) (E.d 2 0) ((((HAL2.out.mod Cx15.out (fun _ _ h => h) (fun _ _ h => h)).mod Cx19.out (by intro k h1 h2; omega) (by intro k h1 h2; rcases h1 with h1 | h1 <;> first | omega | (have hb := HBT.out k h1; omega))).mod Cx22.out (fun _ _ h => h) (fun _ _ h => h))) (RdS.single (R := (fun k => (New u10_6 u11_2 k) ∨ (k = u11_4.heap.size))) Hx21.out ((HEL2.out.mod Cx22.out (fun _ _ h => h)).widen (by intro k h1; first | omega | exact h1.elim | exact Or.inl h1 | exact Or.inr (h1))) (by first | exact Or.inr rfl | exact Or.inr (Or.inr rfl) | (right; omega))) (by intro k h1 h2; omega) (by rw [HLN2.out]; simp only [List.length_cons, List.length_nil]; omega) (by rw [HLN2.out, maxLen_val]; simp only [List.length_cons, List.length_nil]; omega) ?_
     intro ao8 cap8 u12_3 qacc2 hm
     have Hx23 := hid (qacc2.widen (R' := (fun k => (New wl1 wl2 k) ∨ (New u12_2 u12_3 k))) (E' := (fun k => (R2 k) ∨ (New wl1 wl2 k) ∨ (New u10_6 u11_2 k) ∨ (k = u11_4.heap.size))) (fun _ h => h) (by intro k h1; rcases h1 with (h1 | h1) | (h1 | h1) <;> first | omega | exact h1.elim | exact Or.inl h1 | exact Or.inr (Or.inl h1) | exact Or.inr (Or.inr (Or.inl h1)) | exact Or.inr (Or.inr (Or.inr (h1)))))
     have zu12_3 := hm.size
     have HMu12_3 := hid hm
     have Cx24 := hid (Mod.goS (S' := (fun k => (New wl1 wl2 k))) Cx22.out hm (fun _ h => h.elim) (by intro k h0 h2; exact h2))
     clear hm Cx22
     clear act E qacc2 HAL2
     refine QSeq.pure rfl _ (fun E => ex_assign rfl (E.d 3 0)) ?_
     have Hx25 := hid (Hx21.out.mod HMu12_3.out (by intro h2; omega))
     clear Hx21 HMu12_3
     refine QSeq.nil (t' := [_, _, _, _, _]) rfl ?_
     obtain rfl := HA0.out
     clear HA0 oe5 oe7
     simp only [pz, Act.put, sIB, sCZ, sCS]
     have hq := Hx23.out
     rw [HE2.out] at hq
     have HQ2 := Lib.hid hq
     clear hq
     go_wp2
     go_roundw
     case rel => exact ⟨k2 + 1, by go_num, by omega, by omega, by omega, (HQ2.out.widen (by intro b h1; omega) (by intro k h1; rcases h1 with h1 | h1 | h1 | h1 <;> first | omega | exact h1.elim | exact Or.inl h1 | exact Or.inr (h1))), (((HKL2_0.out.mod Cx15.out (fun _ _ h => h)).mod Cx19.out (sB HBT)).mod Cx24.out (sN HBT)), (((HKL2_1.out.mod Cx15.out (fun _ _ h => h)).mod Cx19.out (sB HBT)).mod Cx24.out (sN HBT)), (((HKL2_2.out.mod Cx15.out (fun _ _ h => h)).mod Cx19.out (sB HBT)).mod Cx24.out (sN HBT)), (((HKL2_3.out.mod Cx15.out (fun h => h)).mod Cx19.out (by intro h2; omega)).mod Cx24.out (by intro h2; omega)), (((HKL2_4.out.mod Cx15.out (fun h => h)).mod Cx19.out (by intro h2; omega)).mod Cx24.out (by intro h2; omega)), (((HKL2_5.out.mod Cx15.out (fun _ _ h => h) (fun _ _ h => h)).mod Cx19.out (by intro k h1 h2; omega) (by intro k h1 h2; rcases h1 with h1 | h1 <;> first | omega | (have hb := HBT.out k h1; omega))).mod Cx24.out (by intro k h1 h2; omega) (by intro k h1 h2; rcases h1 with h1 | h1 <;> first | omega | (have hb := HBT.out k h1; omega))), (((HML2.out.trans Cx15.out (fun _ _ h => h.elim)).trans Cx19.out (by intro k h1 h2; omega)).trans Cx24.out (by intro k h1 h2; omega))⟩
     case measure => simp [intOf]; omega
    ·skip
     obtain ⟨bA2, hbA2⟩ : ∃ b : Bool, b = decide (((k2 : Nat) : Int) < (x.os.length : Int)) := ⟨_, rfl⟩
     obtain ⟨bB2, hbB2⟩ : ∃ b : Bool, b = decide (((k2 : Nat) : Int) < 3) := ⟨_, rfl⟩
     go_upto_region 8 with (fail)
     refine wp_region_U 86 [31, 32, 33, 34, 35, 36, 37, 38, 39] [0, 1, 2, 3, 4, 5, 6, 7, 8] (fun a0 HA0 => ?_)
     have oe1 := ev HA0 1 rfl
     have oe6 := ev HA0 6 rfl
     refine QSeq.pure rfl _ (fun E => ex_move rfl (E.v oe6)) ?_
     refine QSeq.pure rfl (.pointer (some ⟨w.heap.size, 3, none⟩)) (fun E => ex_field rfl Try.underlying51 rfl (by kernel_rfl) (E.v oe1)) ?_
     refine QSeq.pure rfl _ (fun E => ex_load1 rfl Try.underlying48 rfl (E.d 1 0) (Cs.lit1 HKL2_3.out rfl)) ?_
     refine QSeq.pure rfl (.int .i64 x.os.length) (fun E => ex_lenS rfl (E.d 2 0) Try.underlying48) ?_
     refine QSeq.pure rfl (.bool bA2) (fun E => ex_binE rfl (E.d 0 3) (E.d 3 0) (guard_ints _ _ _ _ _ _) (run_lss_i _ _ _ Try.underlying3) (congrArg Value.bool hbA2.symm)) ?_
     refine QSeq.pure rfl _ (fun E => ex_move rfl (E.d 4 0)) ?_
     refine QSeq.may (b := bA2) rfl (.int .i64 ((k2 : Nat) : Int)) (fun E => ((wanted_of rfl rfl (E.sz 36 (by decide)) (E.d 5 0)).trans (beq_t _))) (fun E hb => ex_move rfl (E.v oe6)) ?_
     intro v8_6 hw
     have hv8_6 := hid hw
     clear hw
     refine QSeq.may (b := bA2) rfl (.bool bB2) (fun E => ((wanted_of rfl rfl (E.sz 36 (by decide)) (E.d 5 1)).trans (beq_t _))) (fun E hb => ex_binE rfl ((E.q 6 0 hv8_6.out).1 hb) rfl (guard_ints _ _ _ _ _ _) (run_lss_i _ _ _ Try.underlying3) (congrArg Value.bool hbB2.symm)) ?_
     intro v8_7 hw
     have hv8_7 := hid hw
     clear hw
     refine QSeq.pure rfl (.bool (bA2 && bB2)) (fun E => ex_pickE rfl (E.d 5 2) rfl rfl (and_val fun hb => (E.q 7 0 hv8_7.out).1 hb)) ?_
     clear hv8_6 hv8_7
     refine QSeq.nil (t' := [_, _, _, _, _, _, _, _, _]) rfl ?_
     obtain rfl := HA0.out
     clear HA0 oe1 oe6
     simp only [pz, Act.put, sIB, sCZ, sCS]
     rw [show (bA2 && bB2) = false by rw [hbA2, hbB2, Bool.and_eq_false_iff, decide_eq_false_iff_not, decide_eq_false_iff_not]; omega]
     have HTK2 := hid (show x.os.take k2 = x.os.take 3 from take_two (by omega) (by omega))
     go_wp2
     go_loopw [8, 9] (fun ta ti wr => ∃ k : Nat, ti = .int .i64 (k : Int) ∧ k ≤ x.ts.length ∧ k ≤ 3 ∧ wl2.heap.size ≤ wr.heap.size ∧ OwS TbR 121 (fun b => wl2.heap.size ≤ b ∧ b < wr.heap.size) (fun b => R2 b ∨ (wl2.heap.size ≤ b ∧ b < wr.heap.size)) wr ta ((x.ts.take k).map pcTb) ∧ RdS PmR R2 wr (.slice ao_ps x.ps.length cap_ps) x.ps ∧ RdS OpR R2 wr (.slice ao_os x.os.length cap_os) x.os ∧ RdS TbR R2 wr (.slice ao_ts x.ts.length cap_ts) x.ts ∧ Cs wr (w.heap.size) (x.cells (.slice ao_ps x.ps.length cap_ps) (.slice ao_os x.os.length cap_os) (.slice ao_ts x.ts.length cap_ts) : List Value).toArray 51 ∧ Cs wr (w.heap.size + 1) #[.int .i64 0, .int .u64 0, .slice none 0 0, .slice none 0 0, .slice none 0 0] 51 ∧ OwS PmR 46 (fun b => w1.heap.size ≤ b ∧ b < wl1.heap.size) (fun b => R2 b ∨ (w1.heap.size ≤ b ∧ b < wl1.heap.size)) wr (.slice aol1 ((x.ps.take k1).map pcPm).length capl1) ((x.ps.take k1).map pcPm) ∧ OwS OpR 60 (fun b => wl1.heap.size ≤ b ∧ b < wl2.heap.size) (fun b => R2 b ∨ (wl1.heap.size ≤ b ∧ b < wl2.heap.size)) wr (.slice aol2 ((x.os.take k2).map pcOp).length capl2) ((x.os.take k2).map pcOp) ∧ Mod (fun _ => False) w wr) (fun _ ti _ => x.ts.length - (intOf ti).toNat)
     case atStart => exact ⟨0, rfl, Nat.zero_le _, Nat.zero_le _, Nat.le_refl _, OwS.nil _ _ _ _ _, HKL2_0.out, HKL2_1.out, HKL2_2.out, HKL2_3.out, HKL2_4.out, HKL2_5.out, HAL2.out, HML2.out⟩
     case round =>
      obtain ⟨k3, rfl, hk, hkN, hz, ha, hk_0, hk_1, hk_2, hk_3, hk_4, hk_5, hk_6, hm⟩ := hrel
      obtain ⟨wl3, rfl⟩ : ∃ x, x = wr := ⟨_, rfl⟩
      obtain ⟨aol3, capl3, rfl⟩ := ha.shape
      have HAL3 := Lib.hid ha
      have HKL3_0 := Lib.hid hk_0
      have HKL3_1 := Lib.hid hk_1
      have HKL3_2 := Lib.hid hk_2
      have HKL3_3 := Lib.hid hk_3
      have HKL3_4 := Lib.hid hk_4
      have HKL3_5 := Lib.hid hk_5
      have HKL3_6 := Lib.hid hk_6
      have HML3 := Lib.hid hm
      clear ha hm hk_0 hk_1 hk_2 hk_3 hk_4 hk_5 hk_6 HKL2_0 HKL2_1 HKL2_2 HKL2_3 HKL2_4 HKL2_5 HML2 HAL2
      by_cases hlt3 : k3 < x.ts.length ∧ k3 < 3
      ·obtain ⟨hlt3, hlN3⟩ := hlt3
       go_upto_region 15 with (fail)
       refine wp_region_U 86 [55, 56, 57, 58, 59, 60, 61, 62, 63] [0, 1, 2, 3, 4, 5, 6, 7, 8] (fun a0 HA0 => ?_)
       have oe1 := ev HA0 1 rfl
       have oe9 := ev HA0 9 rfl
       refine QSeq.pure rfl _ (fun E => ex_move rfl (E.v oe9)) ?_
       refine QSeq.pure rfl (.pointer (some ⟨w.heap.size, 4, none⟩)) (fun E => ex_field rfl Try.underlying51 rfl (by kernel_rfl) (E.v oe1)) ?_
       refine QSeq.pure rfl _ (fun E => ex_load1 rfl Try.underlying49 rfl (E.d 1 0) (Cs.lit1 HKL3_3.out rfl)) ?_
       refine QSeq.pure rfl (.int .i64 x.ts.length) (fun E => ex_lenS rfl (E.d 2 0) Try.underlying49) ?_
       refine QSeq.pure rfl (.bool true) (fun E => ex_binE rfl (E.d 0 3) (E.d 3 0) (guard_ints _ _ _ _ _ _) (run_lss_i _ _ _ Try.underlying3) (congrArg Value.bool (decide_eq_true (by omega)))) ?_
       refine QSeq.pure rfl _ (fun E => ex_move rfl (E.d 4 0)) ?_
       refine QSeq.pureG rfl (.int .i64 ((k3 : Nat) : Int)) (fun E => ((wanted_of rfl rfl (E.sz 60 (by decide)) (E.d 5 0)).trans rfl)) (fun E => ex_move rfl (E.v oe9)) ?_
       refine QSeq.pureG rfl (.bool true) (fun E => ((wanted_of rfl rfl (E.sz 60 (by decide)) (E.d 5 1)).trans rfl)) (fun E => ex_binE rfl (E.d 6 0) rfl (guard_ints _ _ _ _ _ _) (run_lss_i _ _ _ Try.underlying3) (congrArg Value.bool (decide_eq_true (by omega)))) ?_
       refine QSeq.pure rfl (.bool true) (fun E => ex_pick rfl (E.d 5 2) (E.d 7 0) rfl) ?_
       refine QSeq.nil (t' := [_, _, _, _, _, _, _, _, _]) rfl ?_
       obtain rfl := HA0.out
       clear HA0 oe1 oe9
       simp only [pz, Act.put, sIB, sCZ, sCS]
       have hat := HKL3_2.out.at hlt3
       obtain ⟨g3, o3, cs3, eao, hrg, hrd, hcs⟩ := hat
       subst eao
       have hcl : cs3.length = 2 := TbR.len hrd
       have HCL3 := Lib.hid hcl
       have HAT3 := hid (show CellsAt R2 wl3 g3 (o3 + k3 * 2) cs3 from ⟨hrg, hcs⟩)
       have HRD3 := Lib.hid hrd
       have HOC3 := hid (TbR.one hrd)
       clear hcl hcs hrd hrg
       have HE3 : Hid (((x.ts.take k3).map pcTb) ++ [pcTb x.ts[k3]] = (x.ts.take (k3 + 1)).map pcTb) := hid (by rw [List.take_succ_eq_append_getElem hlt3, List.map_append]; rfl)
       have HLN3 : Hid (((x.ts.take k3).map pcTb).length = k3) := hid (by rw [List.length_map, List.length_take]; omega)
       obtain ⟨y3, hy3⟩ : ∃ y, y = x.ts[k3] := ⟨_, rfl⟩
       rw [← hy3] at HRD3 HE3
       clear hy3
       obtain ⟨v_e, rfl, hoke, hse⟩ := HRD3.out
       obtain ⟨aoe3, cape3, rfl⟩ := hse.shape
       have HOK3 := Lib.hid hoke
       have HSE3 := Lib.hid hse
       clear hoke hse HRD3
       go_upto_region 17 with (fail)
       refine wp_region_U 86 [66, 67, 68, 69, 70, 10, 92] [0, 1, 2, 3, 4, 5, 6] (fun a0 HA0 => ?_)
       have oe1 := ev HA0 1 rfl
       have oe9 := ev HA0 9 rfl
       refine QSeq.pure rfl (.pointer (some ⟨w.heap.size, 4, none⟩)) (fun E => ex_field rfl Try.underlying51 rfl (by kernel_rfl) (E.v oe1)) ?_
       refine QSeq.pure rfl _ (fun E => ex_load1 rfl Try.underlying49 rfl (E.d 0 0) (Cs.lit1 HKL3_3.out rfl)) ?_
       refine QSeq.pure rfl _ (fun E => ex_move rfl (E.v oe9)) ?_
       refine QSeq.pure rfl (.pointer (some ⟨g3, o3 + k3 * 2, none⟩)) (fun E => ex_idxS (i := k3) (s := 2) rfl Try.underlying49 (by kernel_rfl) (E.d 1 1) (E.d 2 0) hlt3) ?_
       refine QSeq.pure rfl _ (fun E => ex_loadA rfl Try.underlying121 rfl (off := o3 + k3 * 2) (cs := (y3.cells (.slice aoe3 y3.l.length cape3))) (by rw [HCL3.out]; kernel_rfl) (E.d 3 0) (fun j u hu => (HAT3.out).2 j u hu)) ?_
       refine QSeq.go fun act E => ?_
       refine qc_alloc rfl (wanted_none rfl) rfl (z := [.int .i64 0, .slice none 0 0]) (by kernel_rfl) ?_
       intro u17_5 qq3 hm
       have zl17_5 := qq3.lt
       have Hx26 := hid qq3
       have zu17_5 := hm.size
       have Cx27 := hid (show Mod (fun _ => False) wl3 u17_5 from hm)
       clear hm
       clear act E qq3
       refine QSeq.go fun act E => ?_
       have hlz : ((y3.cells (.slice aoe3 y3.l.length cape3))).length = List.length ([.int .i64 0, .slice none 0 0] : List Value) := (by rw [HCL3.out]; rfl)
       refine qc_store rfl (wanted_none rfl) rfl Hx26.out (off := 0) (vs := (y3.cells (.slice aoe3 y3.l.length cape3))) (by rw [hlz]; kernel_rfl) HOC3.out (by rw [hlz]; exact Nat.le_of_eq (Nat.zero_add _)) (E.d 5 0) (ec (E.d 4 1)) ?_
       intro u17_6 qc0 hm
       have qq3 := qc0.eqv (b := ((y3.cells (.slice aoe3 y3.l.length cape3)) : List Value).toArray) (lay_whole (#[.int .i64 0, .slice none 0 0]) _ (by rw [hlz]; rfl))
       clear qc0 hlz
       have Hx28 := hid qq3
       have zu17_6 := hm.size
       have HMu17_6 := hid hm
       have Cx29 := hid (Mod.goS (S' := (fun _ => False)) Cx27.out hm (fun _ h => h) (by intro k h0 h2; omega))
       clear hm Cx27
       clear act E qq3 Hx26
       clear HMu17_6
       refine QSeq.nil (t' := [_, _, _, _, _, _, _]) rfl ?_
       obtain rfl := HA0.out
       clear HA0 oe1 oe9
       simp only [pz, Act.put, sIB, sCZ, sCS, List.set_nil]
       go_upto_region 18 with (fail)
       refine wp_region_U 86 [71, 72, 73, 74, 90] [0, 1, 2, 3, 4] (fun a0 HA0 => ?_)
       have oe10 := ev HA0 10 rfl
       refine QSeq.pure rfl (.pointer (some ⟨wl3.heap.size, 1, none⟩)) (fun E => ex_field rfl Try.underlying121 rfl (by kernel_rfl) (E.v oe10)) ?_
       refine QSeq.pure rfl _ (fun E => ex_load1 rfl Try.underlying119 rfl (E.d 0 0) (Cs.lit1 Hx28.out rfl)) ?_
       refine QSeq.call rfl rfl Try.func59 (Cut_Dn _ _ y3.l 6 _ (HSE3.out.mod Cx29.out (fun _ _ h => h)) (by intro k h1; have hb := HBT.out k h1; omega) (by omega)) (fun E => args2 (E.d 1 0) rfl) ?_
       rintro e u18_2 ⟨v', rfl, qpc, hm⟩
       obtain ⟨aop3, capp3, rfl⟩ := qpc.shape
       refine ⟨_, rfl, ?_⟩
       have Hx30 := hid (qpc.widen (R' := (fun k => (New u17_6 u18_2 k))) (E' := (fun k => (R2 k))) (fun _ h => h) (fun _ h => h))
       have zu18_2 := hm.size
       have Cx31 := hid (show Mod (fun _ => False) u17_6 u18_2 from hm)
       clear hm
       clear qpc
       refine QSeq.pure rfl (.pointer (some ⟨wl3.heap.size, 1, none⟩)) (fun E => ex_field rfl Try.underlying121 rfl (by kernel_rfl) (E.v oe10)) ?_
       refine QSeq.go fun act E => ?_
       refine qc_store rfl (wanted_none rfl) rfl (Hx28.out.mod Cx31.out (fun h => h)) (off := 1) (vs := [Value.slice aop3 (y3.l.take 6).length capp3]) (by kernel_rfl) one1 (by show 1 + 1 ≤ 2; decide) (E.d 3 0) (ec (E.d 2 1)) ?_
       intro u18_4 qc0 hm
       have qq3 := qc0.eqv (b := (((pcTb y3).cells (Value.slice aop3 (y3.l.take 6).length capp3)) : List Value).toArray) (lay_tl y3 (pcTb y3) _ _ rfl)
       clear qc0
       have Hx32 := hid qq3
       have zu18_4 := hm.size
       have HMu18_4 := hid hm
       have Cx33 := hid (Mod.goS (S' := (fun k => (k = wl3.heap.size))) Cx31.out hm (fun _ h => h.elim) (by intro k h0 h2; exact h2))
       clear hm Cx31
       clear act E qq3 Hx28
       have Hx34 := hid (Hx30.out.mod HMu18_4.out (by intro k h1 h2; omega) (sB HBT))
       clear Hx30 HMu18_4
       refine QSeq.nil (t' := [_, _, _, _, _]) rfl ?_
       obtain rfl := HA0.out
       clear HA0 oe10
       simp only [pz, Act.put, sIB, sCZ, sCS, List.set_nil]
       have HEL3 := hid (show TbR.rd (fun k => (New u17_6 u18_2 k) ∨ (R2 k)) u18_4 ((pcTb y3).cells (Value.slice aop3 (y3.l.take 6).length capp3)) (pcTb y3) from ⟨_, rfl, HOK3.out, Hx34.out.rd.widen (by intro k h1; rcases h1 with h1 | h1 <;> first | omega | exact h1.elim | exact Or.inl h1 | exact Or.inr (h1))⟩)
       go_upto_region 19 with (fail)
       refine wp_region_U 86 [75, 76, 77, 78, 8] [0, 1, 2, 3, 4] (fun a0 HA0 => ?_)
       have oe8 := ev HA0 8 rfl
       have oe10 := ev HA0 10 rfl
       refine QSeq.pure rfl _ (fun E => ex_move rfl (E.y 4 oe8)) ?_
       refine QSeq.pure rfl _ (fun E => ex_loadA rfl Try.underlying121 rfl (off := 0) (cs := ((pcTb y3).cells (Value.slice aop3 (y3.l.take 6).length capp3))) (by kernel_rfl) (E.v oe10) (Cs.whole Hx32.out)) ?_
       refine QSeq.go fun act E => ?_
       refine qc_buildS (e := 121) (cs := ((pcTb y3).cells (Value.slice aop3 (y3.l.take 6).length capp3))) (zc := [.int .i64 0, .slice none 0 0]) (sz := 2) rfl (wanted_none rfl) rfl Try.underlying49 (by kernel_rfl) rfl (by decide) (by decide) (E.d 1 0) (TbR.len HEL3.out) ?_
       intro u19_2 qrow hm
       have zl19_2 := qrow.lt
       have Hx35 := hid qrow
       have zu19_2 := hm.size
       have Cx36 := hid (show Mod (fun _ => False) u18_4 u19_2 from hm)
       clear hm
       clear act E qrow
       refine QSeq.go fun act E => ?_
       refine qc_appS (A := TbR) (e := 121) rfl (wanted_none rfl) rfl (.agg #[.int .i64 0, .slice none 0 0]) 32 Try.underlying49 info_Tb (by rfl) (of_decide_eq_true (by kernel_rfl)) (E.d 0 2) (E.d 2 0) ((((HAL3.out.mod Cx29.out (fun _ _ h => h) (fun _ _ h => h)).mod Cx33.out (by intro k h1 h2; omega) (by intro k h1 h2; rcases h1 with h1 | h1 <;> first | omega | (have hb := HBT.out k h1; omega))).mod Cx36.out (fun _ _ h => h) (fun _ _ h => h))) (RdS.single (R := (fun k => (New u17_6 u18_2 k) ∨ (R2 k) ∨ (k = u18_4.heap.size))) Hx35.out ((HEL3.out.mod Cx36.out (fun _ _ h => h)).widen (by intro k h1; rcases h1 with h1 | h1 <;> first | omega | exact h1.elim | exact Or.inl h1 | exact Or.inr (Or.inl h1) | exact Or.inr (Or.inr (h1)))) (by first | exact Or.inr rfl | exact Or.inr (Or.inr rfl) | (right; omega))) (by intro k h1 h2; rcases h1 with h1 | h1 | h1 <;> first | omega | (have hb := HBT.out k h1; omega)) (by rw [HLN3.out]; simp only [List.length_cons, List.length_nil]; omega) (by rw [HLN3.out, maxLen_val]; simp only [List.length_cons, List.length_nil]; omega) ?_
       intro ao9 cap9 u19_3 qacc3 hm
       have Hx37 := hid (qacc3.widen (R' := (fun k => (New wl2 wl3 k) ∨ (New u19_2 u19_3 k))) (E' := (fun k => (R2 k) ∨ (New wl2 wl3 k) ∨ (New u17_6 u18_2 k) ∨ (k = u18_4.heap.size))) (fun _ h => h) (by intro k h1; rcases h1 with (h1 | h1) | (h1 | h1 | h1) <;> first | omega | exact h1.elim | exact Or.inl h1 | exact Or.inr (Or.inl h1) | exact Or.inr (Or.inr (Or.inl h1)) | exact Or.inr (Or.inr (Or.inr (h1)))))
       have zu19_3 := hm.size
       have HMu19_3 := hid hm
       have Cx38 := hid (Mod.goS (S' := (fun k => (New wl2 wl3 k))) Cx36.out hm (fun _ h => h.elim) (by intro k h0 h2; exact h2))
       clear hm Cx36
       clear act E qacc3 HAL3
       refine QSeq.pure rfl _ (fun E => ex_assign rfl (E.d 3 0)) ?_
       have Hx39 := hid (Hx35.out.mod HMu19_3.out (by intro h2; omega))
       clear Hx35 HMu19_3
       refine QSeq.nil (t' := [_, _, _, _, _]) rfl ?_
       obtain rfl := HA0.out
       clear HA0 oe8 oe10
       simp only [pz, Act.put, sIB, sCZ, sCS]
       have hq := Hx37.out
       rw [HE3.out] at hq
       have HQ3 := Lib.hid hq
       clear hq
       go_wp2
       go_roundw
       case rel => exact ⟨k3 + 1, by go_num, by omega, by omega, by omega, (HQ3.out.widen (by intro b h1; omega) (by intro k h1; rcases h1 with h1 | h1 | h1 | h1 <;> first | omega | exact h1.elim | exact Or.inl h1 | exact Or.inr (h1))), (((HKL3_0.out.mod Cx29.out (fun _ _ h => h)).mod Cx33.out (sB HBT)).mod Cx38.out (sN HBT)), (((HKL3_1.out.mod Cx29.out (fun _ _ h => h)).mod Cx33.out (sB HBT)).mod Cx38.out (sN HBT)), (((HKL3_2.out.mod Cx29.out (fun _ _ h => h)).mod Cx33.out (sB HBT)).mod Cx38.out (sN HBT)), (((HKL3_3.out.mod Cx29.out (fun h => h)).mod Cx33.out (by intro h2; omega)).mod Cx38.out (by intro h2; omega)), (((HKL3_4.out.mod Cx29.out (fun h => h)).mod Cx33.out (by intro h2; omega)).mod Cx38.out (by intro h2; omega)), (((HKL3_5.out.mod Cx29.out (fun _ _ h => h) (fun _ _ h => h)).mod Cx33.out (by intro k h1 h2; omega) (by intro k h1 h2; rcases h1 with h1 | h1 <;> first | omega | (have hb := HBT.out k h1; omega))).mod Cx38.out (by intro k h1 h2; omega) (by intro k h1 h2; rcases h1 with h1 | h1 <;> first | omega | (have hb := HBT.out k h1; omega))), (((HKL3_6.out.mod Cx29.out (fun _ _ h => h) (fun _ _ h => h)).mod Cx33.out (by intro k h1 h2; omega) (by intro k h1 h2; rcases h1 with h1 | h1 <;> first | omega | (have hb := HBT.out k h1; omega))).mod Cx38.out (by intro k h1 h2; omega) (by intro k h1 h2; rcases h1 with h1 | h1 <;> first | omega | (have hb := HBT.out k h1; omega))), (((HML3.out.trans Cx29.out (fun _ _ h => h.elim)).trans Cx33.out (by intro k h1 h2; omega)).trans Cx38.out (by intro k h1 h2; omega))⟩
       case measure => simp [intOf]; omega
      ·skip
       obtain ⟨bA3, hbA3⟩ : ∃ b : Bool, b = decide (((k3 : Nat) : Int) < (x.ts.length : Int)) := ⟨_, rfl⟩
       obtain ⟨bB3, hbB3⟩ : ∃ b : Bool, b = decide (((k3 : Nat) : Int) < 3) := ⟨_, rfl⟩
       go_upto_region 15 with (fail)
       refine wp_region_U 86 [55, 56, 57, 58, 59, 60, 61, 62, 63] [0, 1, 2, 3, 4, 5, 6, 7, 8] (fun a0 HA0 => ?_)
       have oe1 := ev HA0 1 rfl
       have oe9 := ev HA0 9 rfl
       refine QSeq.pure rfl _ (fun E => ex_move rfl (E.v oe9)) ?_
       refine QSeq.pure rfl (.pointer (some ⟨w.heap.size, 4, none⟩)) (fun E => ex_field rfl Try.underlying51 rfl (by kernel_rfl) (E.v oe1)) ?_
       refine QSeq.pure rfl _ (fun E => ex_load1 rfl Try.underlying49 rfl (E.d 1 0) (Cs.lit1 HKL3_3.out rfl)) ?_
       refine QSeq.pure rfl (.int .i64 x.ts.length) (fun E => ex_lenS rfl (E.d 2 0) Try.underlying49) ?_
       refine QSeq.pure rfl (.bool bA3) (fun E => ex_binE rfl (E.d 0 3) (E.d 3 0) (guard_ints _ _ _ _ _ _) (run_lss_i _ _ _ Try.underlying3) (congrArg Value.bool hbA3.symm)) ?_
       refine QSeq.pure rfl _ (fun E => ex_move rfl (E.d 4 0)) ?_
       refine QSeq.may (b := bA3) rfl (.int .i64 ((k3 : Nat) : Int)) (fun E => ((wanted_of rfl rfl (E.sz 60 (by decide)) (E.d 5 0)).trans (beq_t _))) (fun E hb => ex_move rfl (E.v oe9)) ?_
       intro v15_6 hw
       have hv15_6 := hid hw
       clear hw
       refine QSeq.may (b := bA3) rfl (.bool bB3) (fun E => ((wanted_of rfl rfl (E.sz 60 (by decide)) (E.d 5 1)).trans (beq_t _))) (fun E hb => ex_binE rfl ((E.q 6 0 hv15_6.out).1 hb) rfl (guard_ints _ _ _ _ _ _) (run_lss_i _ _ _ Try.underlying3) (congrArg Value.bool hbB3.symm)) ?_
       intro v15_7 hw
       have hv15_7 := hid hw
       clear hw
       refine QSeq.pure rfl (.bool (bA3 && bB3)) (fun E => ex_pickE rfl (E.d 5 2) rfl rfl (and_val fun hb => (E.q 7 0 hv15_7.out).1 hb)) ?_
       clear hv15_6 hv15_7
       refine QSeq.nil (t' := [_, _, _, _, _, _, _, _, _]) rfl ?_
       obtain rfl := HA0.out
       clear HA0 oe1 oe9
       simp only [pz, Act.put, sIB, sCZ, sCS]
       rw [show (bA3 && bB3) = false by rw [hbA3, hbB3, Bool.and_eq_false_iff, decide_eq_false_iff_not, decide_eq_false_iff_not]; omega]
       have HTK3 := hid (show x.ts.take k3 = x.ts.take 3 from take_two (by omega) (by omega))
       go_upto_region 20 with (fail)
       refine wp_region_U 86 [79, 80, 81, 82, 90, 83, 92, 84, 94] [0, 1, 2, 3, 4, 5, 6, 7, 8] (fun a0 HA0 => ?_)
       have oe1 := ev HA0 1 rfl
       have oe3 := ev HA0 3 rfl
       have oe5 := ev HA0 5 rfl
       have oe8 := ev HA0 8 rfl
       refine QSeq.pure rfl _ (fun E => ex_move rfl (E.v oe3)) ?_
       refine QSeq.pure rfl _ (fun E => ex_move rfl (E.v oe5)) ?_
       refine QSeq.pure rfl _ (fun E => ex_move rfl (E.v oe8)) ?_
       refine QSeq.pure rfl (.pointer (some ⟨w.heap.size, 2, none⟩)) (fun E => ex_field rfl Try.underlying51 rfl (by kernel_rfl) (E.v oe1)) ?_
       refine QSeq.go fun act E => ?_
       refine qc_store rfl (wanted_none rfl) rfl HKL3_3.out (off := 2) (vs := [Value.slice aol1 ((x.ps.take k1).map pcPm).length capl1]) (by kernel_rfl) one1 (by simp) (E.d 3 0) (ec (E.d 0 3)) ?_
       intro u20_4 qc0 hm
       have qB1 := qc0.eqv (b := #[.int .i64 x.ep, .int .u64 (x.tm : Nat), Value.slice aol1 ((x.ps.take k1).map pcPm).length capl1, Value.slice ao_os x.os.length cap_os, Value.slice ao_ts x.ts.length cap_ts]) rfl
       clear qc0
       have Hx40 := hid qB1
       have zu20_4 := hm.size
       have Cx41 := hid (show Mod (fun k => (k = w.heap.size)) wl3 u20_4 from hm)
       clear hm
       clear act E qB1 HKL3_3
       refine QSeq.pure rfl (.pointer (some ⟨w.heap.size, 3, none⟩)) (fun E => ex_field rfl Try.underlying51 rfl (by kernel_rfl) (E.v oe1)) ?_
       refine QSeq.go fun act E => ?_
       refine qc_store rfl (wanted_none rfl) rfl Hx40.out (off := 3) (vs := [Value.slice aol2 ((x.os.take k2).map pcOp).length capl2]) (by kernel_rfl) one1 (by simp) (E.d 5 0) (ec (E.d 1 4)) ?_
       intro u20_6 qc0 hm
       have qB1 := qc0.eqv (b := #[.int .i64 x.ep, .int .u64 (x.tm : Nat), Value.slice aol1 ((x.ps.take k1).map pcPm).length capl1, Value.slice aol2 ((x.os.take k2).map pcOp).length capl2, Value.slice ao_ts x.ts.length cap_ts]) rfl
       clear qc0
       have Hx42 := hid qB1
       have zu20_6 := hm.size
       have HMu20_6 := hid hm
       have Cx43 := hid (Mod.goS (S' := (fun k => (k = w.heap.size))) Cx41.out hm (fun _ h => h) (by intro k h0 h2; exact h2))
       clear hm Cx41
       clear act E qB1 Hx40
       refine QSeq.pure rfl (.pointer (some ⟨w.heap.size, 4, none⟩)) (fun E => ex_field rfl Try.underlying51 rfl (by kernel_rfl) (E.v oe1)) ?_
       refine QSeq.go fun act E => ?_
       refine qc_store rfl (wanted_none rfl) rfl Hx42.out (off := 4) (vs := [Value.slice aol3 ((x.ts.take k3).map pcTb).length capl3]) (by kernel_rfl) one1 (by simp) (E.d 7 0) (ec (E.d 2 5)) ?_
       intro u20_8 qc0 hm
       have qB1 := qc0.eqv (b := #[.int .i64 x.ep, .int .u64 (x.tm : Nat), Value.slice aol1 ((x.ps.take k1).map pcPm).length capl1, Value.slice aol2 ((x.os.take k2).map pcOp).length capl2, Value.slice aol3 ((x.ts.take k3).map pcTb).length capl3]) rfl
       clear qc0
       have Hx44 := hid qB1
       have zu20_8 := hm.size
       have HMu20_8 := hid hm
       have Cx45 := hid (Mod.goS (S' := (fun k => (k = w.heap.size))) Cx43.out hm (fun _ h => h) (by intro k h0 h2; exact h2))
       clear hm Cx43
       clear act E qB1 Hx42
       clear HMu20_6 HMu20_8
       refine QSeq.nil (t' := [_, _, _, _, _, _, _, _, _]) rfl ?_
       obtain rfl := HA0.out
       clear HA0 oe1 oe3 oe5 oe8
       simp only [pz, Act.put, sIB, sCZ, sCS, List.set_nil]
       go_upto_region 21 with (fail)
       refine wp_region_U 86 [85, 87] [0, 1] (fun a0 HA0 => ?_)
       have oe1 := ev HA0 1 rfl
       have oe2 := ev HA0 2 rfl
       refine QSeq.pure rfl _ (fun E => ex_loadA rfl Try.underlying51 rfl (off := 0) (cs := [.int .i64 x.ep, .int .u64 (x.tm : Nat), Value.slice aol1 ((x.ps.take k1).map pcPm).length capl1, Value.slice aol2 ((x.os.take k2).map pcOp).length capl2, Value.slice aol3 ((x.ts.take k3).map pcTb).length capl3]) (by kernel_rfl) (E.v oe1) (Cs.whole Hx44.out)) ?_
       refine QSeq.go fun act E => ?_
       refine qc_store rfl (wanted_none rfl) rfl (HKL3_4.out.mod Cx45.out (by intro h2; omega)) (off := 0) (vs := [.int .i64 x.ep, .int .u64 (x.tm : Nat), Value.slice aol1 ((x.ps.take k1).map pcPm).length capl1, Value.slice aol2 ((x.os.take k2).map pcOp).length capl2, Value.slice aol3 ((x.ts.take k3).map pcTb).length capl3]) (by kernel_rfl) (by intro u hu; simp at hu; rcases hu with rfl | rfl | rfl | rfl | rfl <;> rfl) (by simp) (E.v oe2) (ec (E.d 0 0)) ?_
       intro u21_1 qc0 hm
       have qB2 := qc0.eqv (b := #[.int .i64 x.ep, .int .u64 (x.tm : Nat), Value.slice aol1 ((x.ps.take k1).map pcPm).length capl1, Value.slice aol2 ((x.os.take k2).map pcOp).length capl2, Value.slice aol3 ((x.ts.take k3).map pcTb).length capl3]) rfl
       clear qc0
       have Hx46 := hid qB2
       have zu21_1 := hm.size
       have Cx47 := hid (show Mod (fun k => (k = w.heap.size + 1)) u20_8 u21_1 from hm)
       clear hm
       clear act E qB2 HKL3_4
       refine QSeq.nil (t' := [_, _]) rfl ?_
       obtain rfl := HA0.out
       clear HA0 oe1 oe2
       simp only [pz, Act.put, sIB, sCZ, sCS, List.set_nil]
       go_wp2
       refine bodyPost_ret (results_cellA rfl _ _ (w.heap.size + 1) ([.int .i64 x.ep, .int .u64 (x.tm : Nat), Value.slice aol1 ((x.ps.take k1).map pcPm).length capl1, Value.slice aol2 ((x.os.take k2).map pcOp).length capl2, Value.slice aol3 ((x.ts.take k3).map pcTb).length capl3]) rfl (fun k u hu => by rw [Hx46.out.cell]; simpa using hu) Try.underlying51 rfl (by kernel_rfl)) rfl ⟨_, rfl, ⟨_, _, _, rfl, HOK.out, ?_, ?_, ?_⟩, ((HML3.out.trans Cx45.out (by intro k h1 h2; omega)).trans Cx47.out (by intro k h1 h2; omega))⟩
       ·rw [show (pcBa x).ps = (x.ps.take k1).map pcPm from congrArg (List.map pcPm) HTK1.out.symm]
        refine (((HKL3_5.out.mod Cx45.out (by intro k h1 h2; omega) (by intro k h1 h2; rcases h1 with h1 | h1 <;> first | omega | (have hb := HBT.out k h1; omega))).mod Cx47.out (by intro k h1 h2; omega) (by intro k h1 h2; rcases h1 with h1 | h1 <;> first | omega | (have hb := HBT.out k h1; omega))).rd).widen ?_
        intro k h
        (try dsimp only at h ⊢)
        rcases h with h | h | h
        ·right; omega
        ·exact Or.inl h
        ·right; omega
       ·rw [show (pcBa x).os = (x.os.take k2).map pcOp from congrArg (List.map pcOp) HTK2.out.symm]
        refine (((HKL3_6.out.mod Cx45.out (by intro k h1 h2; omega) (by intro k h1 h2; rcases h1 with h1 | h1 <;> first | omega | (have hb := HBT.out k h1; omega))).mod Cx47.out (by intro k h1 h2; omega) (by intro k h1 h2; rcases h1 with h1 | h1 <;> first | omega | (have hb := HBT.out k h1; omega))).rd).widen ?_
        intro k h
        (try dsimp only at h ⊢)
        rcases h with h | h | h
        ·right; omega
        ·exact Or.inl h
        ·right; omega
       ·rw [show (pcBa x).ts = (x.ts.take k3).map pcTb from congrArg (List.map pcTb) HTK3.out.symm]
        refine (((HAL3.out.mod Cx45.out (by intro k h1 h2; omega) (by intro k h1 h2; rcases h1 with h1 | h1 <;> first | omega | (have hb := HBT.out k h1; omega))).mod Cx47.out (by intro k h1 h2; omega) (by intro k h1 h2; rcases h1 with h1 | h1 <;> first | omega | (have hb := HBT.out k h1; omega))).rd).widen ?_
        intro k h
        (try dsimp only at h ⊢)
        rcases h with h | h | h
        ·right; omega
        ·exact Or.inl h
        ·right; omega
end Go.Proofs.Ytekbmpjdombedaa

/- gavelplay.Small. -/
namespace Go.Proofs.Ytekbmpjdombedaa
open Go Go.RowKit Go.Gv


def pcVl (v : Int) : Int := if v = 9223372036854775807 then -1 else v
def pcRp (s : ByteArray) : ByteArray := if 100 < s.size then s.extract 0 100 else s
def smallP (x : Mg) : Mg := { x with ce := pcCe x.ce, pm := pcPm x.pm, pr := { x.pr with ba := pcBa x.pr.ba, vl := pcVl x.pr.vl }, op := { x.op with pl := x.op.pl.take 100 }, rp := pcRp x.rp, dc := { x.dc with ba := pcBa x.dc.ba, l := x.dc.l.take 6 } }
theorem I64_m1 : I64 (-1) := by unfold I64; decide
theorem pcCe_cp (x : Ce) : cpCe (pcCe x) := by unfold cpCe pcCe; rw [List.length_take]; omega
theorem pcPm_cp (x : Pm) : cpPm (pcPm x) := by
 unfold cpPm pcPm
 refine ⟨by rw [List.length_map, List.length_take]; omega, fun y hy => ?_⟩
 obtain ⟨z, -, rfl⟩ := List.mem_map.1 hy
 exact pcCe_cp z
theorem pcBa_cp (x : Ba) : cpBa (pcBa x) := by
 unfold cpBa pcBa
 refine ⟨⟨by rw [List.length_map, List.length_take]; omega, fun y hy => ?_⟩, ⟨by rw [List.length_map, List.length_take]; omega, fun y hy => ?_⟩, ⟨by rw [List.length_map, List.length_take]; omega, fun y hy => ?_⟩⟩
 ·obtain ⟨z, -, rfl⟩ := List.mem_map.1 hy; exact pcPm_cp z
 ·obtain ⟨z, -, rfl⟩ := List.mem_map.1 hy; unfold cpOp pcOp; rw [List.length_take]; omega
 ·obtain ⟨z, -, rfl⟩ := List.mem_map.1 hy; unfold cpTb pcTb; rw [List.length_take]; omega
theorem smallP_cp (x : Mg) : cpMg (smallP x) := ⟨pcCe_cp _, pcPm_cp _, (by unfold cpOp smallP; rw [List.length_take]; omega), pcBa_cp _, pcBa_cp _, (by unfold smallP; rw [List.length_take]; omega)⟩
set_option maxHeartbeats 8000000 in
theorem SmallP_c : CutR MgR 31 smallP := by
 intro R2 x cs w hx hB2
 obtain ⟨c5, c10, c11, c15, c18, rfl, hok, h5, h10, h11, h15, h18⟩ := hx
 have HC5 := hid (CeR.len h5)
 have HC10 := hid (PmR.len h10)
 have HC15 := hid (OpR.len h15)
 have HLN := hid (Mg.lns hok h5 h10 h11 h15 h18)
 obtain ⟨p_ps, p_os, p_ts, rfl, hokp, hp0, hp1, hp2⟩ := h11
 obtain ⟨d_ps, d_os, d_ts, d_l, rfl, hokd, hd0, hd1, hd2, hd3⟩ := h18
 obtain ⟨v_o, rfl, hoko, ho0⟩ := h15
 have H5 := Lib.hid h5
 have H10 := Lib.hid h10
 have H15 := Lib.hid ho0
 have HP0 := Lib.hid hp0
 have HP1 := Lib.hid hp1
 have HP2 := Lib.hid hp2
 have HD0 := Lib.hid hd0
 have HD1 := Lib.hid hd1
 have HD2 := Lib.hid hd2
 have HD3 := Lib.hid hd3
 have HBT := Lib.hid hB2
 have HOK := Lib.hid hok
 have HOP := Lib.hid hokp
 have HOD := Lib.hid hokd
 have HOO := Lib.hid hoko
 clear hB2 hok hokp hokd hoko h5 h10 ho0 hp0 hp1 hp2 hd0 hd1 hd2 hd3
 go_enter Try.func31, Try.ntmps31
 go_upto_region 1 with (fail)
 obtain ⟨w1, hw1⟩ : ∃ zz, zz = ((w.alloc (.cells ((Mg.segs x c5 c10 (x.pr.cells p_ps p_os p_ts) (x.op.cells v_o) (x.dc.cells d_ps d_os d_ts d_l)).flatten : List Value).toArray 67)).alloc (.cells ((mg0C 0 0 0) : List Value).toArray 67)) := ⟨_, rfl⟩
 change Code.wp _ _ _ _ ((w.alloc (.cells ((Mg.segs x c5 c10 (x.pr.cells p_ps p_os p_ts) (x.op.cells v_o) (x.dc.cells d_ps d_os d_ts d_l)).flatten : List Value).toArray 67)).alloc (.cells ((mg0C 0 0 0) : List Value).toArray 67))
 rw [← hw1]
 have HB1 := hid (show Cs w1 (w.heap.size) ((Mg.segs x c5 c10 (x.pr.cells p_ps p_os p_ts) (x.op.cells v_o) (x.dc.cells d_ps d_os d_ts d_l)).flatten : List Value).toArray 67 by rw [hw1]; exact (Cs.new _ _ _).alloc _)
 have HB2 := hid (show Cs w1 (w.heap.size + 1) ((mg0C 0 0 0) : List Value).toArray 67 by rw [hw1]; exact Cs_newN _ _ _ (by simp))
 have hm : Mod (fun _ => False) w w1 := by rw [hw1]; exact ((Mod.refl _ _).alloc _).alloc _
 have HM0 := hid (show Mod (fun _ => False) w w1 from hm.mono (fun _ _ h => h.elim))
 have hs1 : w1.heap.size = w.heap.size + 2 := by rw [hw1]; simp
 have Hx1 := hid (H5.out.mod hm (fun _ _ h => h))
 clear H5
 have Hx2 := hid (H10.out.mod hm (fun _ _ h => h))
 clear H10
 have Hx3 := hid (H15.out.mod hm (fun _ _ h => h))
 clear H15
 have Hx4 := hid (HP0.out.mod hm (fun _ _ h => h))
 clear HP0
 have Hx5 := hid (HP1.out.mod hm (fun _ _ h => h))
 clear HP1
 have Hx6 := hid (HP2.out.mod hm (fun _ _ h => h))
 clear HP2
 have Hx7 := hid (HD0.out.mod hm (fun _ _ h => h))
 clear HD0
 have Hx8 := hid (HD1.out.mod hm (fun _ _ h => h))
 clear HD1
 have Hx9 := hid (HD2.out.mod hm (fun _ _ h => h))
 clear HD2
 have Hx10 := hid (HD3.out.mod hm (fun _ _ h => h))
 clear HD3
 clear hw1 hm
 go_upto_region 1 with (fail)
 refine wp_region_U 50 [3, 4, 5, 6, 54] [0, 1, 2, 3, 4] (fun a0 HA0 => ?_)
 have oe1 := ev HA0 1 rfl
 refine QSeq.pure rfl (.pointer (some ⟨w.heap.size, 78, none⟩)) (fun E => ex_field rfl Try.underlying67 rfl (by kernel_rfl) (E.v oe1)) ?_
 refine QSeq.pure rfl _ (fun E => ex_loadA rfl Try.underlying41 rfl (off := 78) (cs := (c5)) (by rw [HC5.out]; kernel_rfl) (E.d 0 0) (Cs.seg HB1.out HLN.out 5 rfl rfl)) ?_
 refine QSeq.call rfl rfl Try.func45 (PCert_c R2 x.ce _ _ Hx1.out (by intro k h1; have hb := HBT.out k h1; omega)) (fun E => args1 (E.d 1 0)) ?_
 rintro e u1_2 ⟨cn5, rfl, qce, hm⟩
 have HLn5 := hid (CeR.len qce)
 have HOn5 := hid (CeR.one qce)
 refine ⟨_, rfl, ?_⟩
 have Hx11 := hid (qce.widen (R' := (fun k => (R2 k) ∨ (New w1 u1_2 k))) (fun _ h => h))
 have zu1_2 := hm.size
 have Cx12 := hid (show Mod (fun _ => False) w1 u1_2 from hm)
 clear hm
 clear qce Hx1
 refine QSeq.pure rfl (.pointer (some ⟨w.heap.size, 78, none⟩)) (fun E => ex_field rfl Try.underlying67 rfl (by kernel_rfl) (E.v oe1)) ?_
 refine QSeq.go fun act E => ?_
 refine qc_store rfl (wanted_none rfl) rfl (HB1.out.mod Cx12.out (fun h => h)) (off := 78) (vs := cn5) (by rw [HLn5.out]; kernel_rfl) HOn5.out (by rw [List.size_toArray, flat_sum, (Mg.lens HOK.out HC5.out HC10.out rfl (show (x.op.cells v_o).length = 34 from HC15.out) rfl)]; show 78 + _ ≤ 295; rw [HLn5.out]; decide) (E.d 3 0) (ec (E.d 2 1)) ?_
 intro u1_4 qc0 hm
 have qB1 := qc0.eqv (b := ((Mg.segs x cn5 c10 (x.pr.cells p_ps p_os p_ts) (x.op.cells v_o) (x.dc.cells d_ps d_os d_ts d_l)).flatten : List Value).toArray) ((lay_seg (Mg.lens HOK.out HC5.out HC10.out rfl (show (x.op.cells v_o).length = 34 from HC15.out) rfl) 5 (by rw [HLn5.out]; rfl) rfl).trans rfl)
 clear qc0
 have Hx13 := hid qB1
 have zu1_4 := hm.size
 have HMu1_4 := hid hm
 have Cx14 := hid (Mod.goS (S' := (fun k => (k = w.heap.size))) Cx12.out hm (fun _ h => h.elim) (by intro k h0 h2; exact h2))
 clear hm Cx12
 clear act E qB1 HB1
 have Hx15 := hid (Hx11.out.mod HMu1_4.out (by intro k h1 h2; rcases h1 with h1 | h1 <;> first | omega | (have hb := HBT.out k h1; omega)))
 clear Hx11 HMu1_4
 refine QSeq.nil (t' := [_, _, _, _, _]) rfl ?_
 obtain rfl := HA0.out
 clear HA0 oe1
 simp only [pz, Act.put, sIB, sCZ, sCS, List.set_nil]
 go_upto_region 2 with (fail)
 refine wp_region_U 50 [7, 8, 9, 10, 54] [0, 1, 2, 3, 4] (fun a0 HA0 => ?_)
 have oe1 := ev HA0 1 rfl
 refine QSeq.pure rfl (.pointer (some ⟨w.heap.size, 157, none⟩)) (fun E => ex_field rfl Try.underlying67 rfl (by kernel_rfl) (E.v oe1)) ?_
 refine QSeq.pure rfl _ (fun E => ex_loadA rfl Try.underlying46 rfl (off := 157) (cs := (c10)) (by rw [HC10.out]; kernel_rfl) (E.d 0 0) (Cs.seg Hx13.out (Mg.lens HOK.out HLn5.out HC10.out rfl (show (x.op.cells v_o).length = 34 from HC15.out) rfl) 10 rfl rfl)) ?_
 refine QSeq.call rfl rfl Try.func46 (PPromise_c R2 x.pm _ _ (Hx2.out.mod Cx14.out (sB HBT)) (by intro k h1; have hb := HBT.out k h1; omega)) (fun E => args1 (E.d 1 0)) ?_
 rintro e u2_2 ⟨cn10, rfl, qpm, hm⟩
 have HLn10 := hid (PmR.len qpm)
 have HOn10 := hid (PmR.one qpm)
 refine ⟨_, rfl, ?_⟩
 have Hx16 := hid (qpm.widen (R' := (fun k => (R2 k) ∨ (New u1_4 u2_2 k))) (fun _ h => h))
 have zu2_2 := hm.size
 have Cx17 := hid (show Mod (fun _ => False) u1_4 u2_2 from hm)
 clear hm
 clear qpm Hx2
 refine QSeq.pure rfl (.pointer (some ⟨w.heap.size, 157, none⟩)) (fun E => ex_field rfl Try.underlying67 rfl (by kernel_rfl) (E.v oe1)) ?_
 refine QSeq.go fun act E => ?_
 refine qc_store rfl (wanted_none rfl) rfl (Hx13.out.mod Cx17.out (fun h => h)) (off := 157) (vs := cn10) (by rw [HLn10.out]; kernel_rfl) HOn10.out (by rw [List.size_toArray, flat_sum, (Mg.lens HOK.out HLn5.out HC10.out rfl (show (x.op.cells v_o).length = 34 from HC15.out) rfl)]; show 157 + _ ≤ 295; rw [HLn10.out]; decide) (E.d 3 0) (ec (E.d 2 1)) ?_
 intro u2_4 qc0 hm
 have qB1 := qc0.eqv (b := ((Mg.segs x cn5 cn10 (x.pr.cells p_ps p_os p_ts) (x.op.cells v_o) (x.dc.cells d_ps d_os d_ts d_l)).flatten : List Value).toArray) ((lay_seg (Mg.lens HOK.out HLn5.out HC10.out rfl (show (x.op.cells v_o).length = 34 from HC15.out) rfl) 10 (by rw [HLn10.out]; rfl) rfl).trans rfl)
 clear qc0
 have Hx18 := hid qB1
 have zu2_4 := hm.size
 have HMu2_4 := hid hm
 have Cx19 := hid (Mod.goS (S' := (fun k => (k = w.heap.size))) Cx17.out hm (fun _ h => h.elim) (by intro k h0 h2; exact h2))
 clear hm Cx17
 clear act E qB1 Hx13
 have Hx20 := hid (Hx16.out.mod HMu2_4.out (by intro k h1 h2; rcases h1 with h1 | h1 <;> first | omega | (have hb := HBT.out k h1; omega)))
 clear Hx16 HMu2_4
 refine QSeq.nil (t' := [_, _, _, _, _]) rfl ?_
 obtain rfl := HA0.out
 clear HA0 oe1
 simp only [pz, Act.put, sIB, sCZ, sCS, List.set_nil]
 go_upto_region 3 with (fail)
 refine wp_region_U 50 [11, 12, 13, 14, 15, 16, 56] [0, 1, 2, 3, 4, 5, 6] (fun a0 HA0 => ?_)
 have oe1 := ev HA0 1 rfl
 refine QSeq.pure rfl (.pointer (some ⟨w.heap.size, 163, none⟩)) (fun E => ex_field rfl Try.underlying67 rfl (by kernel_rfl) (E.v oe1)) ?_
 refine QSeq.pure rfl (.pointer (some ⟨w.heap.size, 167, none⟩)) (fun E => ex_field rfl Try.underlying53 rfl (by kernel_rfl) (E.d 0 0)) ?_
 refine QSeq.pure rfl _ (fun E => ex_loadA rfl Try.underlying51 rfl (off := 167) (cs := [.int .i64 x.pr.ba.ep, .int .u64 (x.pr.ba.tm : Nat), p_ps, p_os, p_ts]) (by kernel_rfl) (E.d 1 0) (Cs.segA Hx18.out (Mg.lens HOK.out HLn5.out HLn10.out rfl (show (x.op.cells v_o).length = 34 from HC15.out) rfl) 11 rfl (o := 163) (k := 4) rfl rfl rfl)) ?_
 refine QSeq.call rfl rfl Try.func47 (PBatch_c R2 x.pr.ba _ _ ⟨_, _, _, rfl, HOP.out.2.2.2.2.1, ((Hx4.out.mod Cx14.out (sB HBT)).mod Cx19.out (sB HBT)), ((Hx5.out.mod Cx14.out (sB HBT)).mod Cx19.out (sB HBT)), ((Hx6.out.mod Cx14.out (sB HBT)).mod Cx19.out (sB HBT))⟩ (by intro k h1; have hb := HBT.out k h1; omega)) (fun E => args1 (E.d 2 0)) ?_
 rintro e u3_3 ⟨cbe, rfl, qp0, hm⟩
 have HOe := hid (BaR.one qp0)
 obtain ⟨e_ps, e_os, e_ts, rfl, hokb, qp0, qp1, qp2⟩ := qp0
 clear hokb
 refine ⟨_, rfl, ?_⟩
 have Hx21 := hid (qp0.widen (R' := (fun k => (R2 k) ∨ (New u2_4 u3_3 k))) (fun _ h => h))
 have Hx22 := hid (qp1.widen (R' := (fun k => (R2 k) ∨ (New u2_4 u3_3 k))) (fun _ h => h))
 have Hx23 := hid (qp2.widen (R' := (fun k => (R2 k) ∨ (New u2_4 u3_3 k))) (fun _ h => h))
 have zu3_3 := hm.size
 have Cx24 := hid (show Mod (fun _ => False) u2_4 u3_3 from hm)
 clear hm
 clear qp0 qp1 qp2 Hx4 Hx5 Hx6
 refine QSeq.pure rfl (.pointer (some ⟨w.heap.size, 163, none⟩)) (fun E => ex_field rfl Try.underlying67 rfl (by kernel_rfl) (E.v oe1)) ?_
 refine QSeq.pure rfl (.pointer (some ⟨w.heap.size, 167, none⟩)) (fun E => ex_field rfl Try.underlying53 rfl (by kernel_rfl) (E.d 4 0)) ?_
 refine QSeq.go fun act E => ?_
 refine qc_store rfl (wanted_none rfl) rfl (Hx18.out.mod Cx24.out (fun h => h)) (off := 167) (vs := [.int .i64 x.pr.ba.ep, .int .u64 (x.pr.ba.tm : Nat), e_ps, e_os, e_ts]) (by kernel_rfl) HOe.out (by rw [List.size_toArray, flat_sum, (Mg.lens HOK.out HLn5.out HLn10.out rfl (show (x.op.cells v_o).length = 34 from HC15.out) rfl)]; show 167 + 5 ≤ 295; decide) (E.d 5 0) (ec (E.d 3 2)) ?_
 intro u3_6 qc0 hm
 have qB1 := qc0.eqv (b := ((Mg.segs x cn5 cn10 (x.pr.cells e_ps e_os e_ts) (x.op.cells v_o) (x.dc.cells d_ps d_os d_ts d_l)).flatten : List Value).toArray) ((lay_sub (Mg.lens HOK.out HLn5.out HLn10.out rfl (show (x.op.cells v_o).length = 34 from HC15.out) rfl) 11 rfl (o := 163) (k := 4) (n := 5) rfl rfl rfl (by show 4 + 5 ≤ 11; decide)).trans rfl)
 clear qc0
 have Hx25 := hid qB1
 have zu3_6 := hm.size
 have HMu3_6 := hid hm
 have Cx26 := hid (Mod.goS (S' := (fun k => (k = w.heap.size))) Cx24.out hm (fun _ h => h.elim) (by intro k h0 h2; exact h2))
 clear hm Cx24
 clear act E qB1 Hx18
 have Hx27 := hid (Hx21.out.mod HMu3_6.out (by intro k h1 h2; rcases h1 with h1 | h1 <;> first | omega | (have hb := HBT.out k h1; omega)))
 have Hx28 := hid (Hx22.out.mod HMu3_6.out (by intro k h1 h2; rcases h1 with h1 | h1 <;> first | omega | (have hb := HBT.out k h1; omega)))
 have Hx29 := hid (Hx23.out.mod HMu3_6.out (by intro k h1 h2; rcases h1 with h1 | h1 <;> first | omega | (have hb := HBT.out k h1; omega)))
 clear Hx21 Hx22 Hx23 HMu3_6
 refine QSeq.nil (t' := [_, _, _, _, _, _, _]) rfl ?_
 obtain rfl := HA0.out
 clear HA0 oe1
 simp only [pz, Act.put, sIB, sCZ, sCS, List.set_nil]
 go_upto_region 4 with (fail)
 refine wp_region_U 50 [17, 18, 19, 20, 21, 22, 56] [0, 1, 2, 3, 4, 5, 6] (fun a0 HA0 => ?_)
 have oe1 := ev HA0 1 rfl
 refine QSeq.pure rfl (.pointer (some ⟨w.heap.size, 287, none⟩)) (fun E => ex_field rfl Try.underlying67 rfl (by kernel_rfl) (E.v oe1)) ?_
 refine QSeq.pure rfl (.pointer (some ⟨w.heap.size, 289, none⟩)) (fun E => ex_field rfl Try.underlying65 rfl (by kernel_rfl) (E.d 0 0)) ?_
 refine QSeq.pure rfl _ (fun E => ex_loadA rfl Try.underlying51 rfl (off := 289) (cs := [.int .i64 x.dc.ba.ep, .int .u64 (x.dc.ba.tm : Nat), d_ps, d_os, d_ts]) (by kernel_rfl) (E.d 1 0) (Cs.segA Hx25.out (Mg.lens HOK.out HLn5.out HLn10.out rfl (show (x.op.cells v_o).length = 34 from HC15.out) rfl) 18 rfl (o := 287) (k := 2) rfl rfl rfl)) ?_
 refine QSeq.call rfl rfl Try.func47 (PBatch_c R2 x.dc.ba _ _ ⟨_, _, _, rfl, HOD.out.2.2, (((Hx7.out.mod Cx14.out (sB HBT)).mod Cx19.out (sB HBT)).mod Cx26.out (sB HBT)), (((Hx8.out.mod Cx14.out (sB HBT)).mod Cx19.out (sB HBT)).mod Cx26.out (sB HBT)), (((Hx9.out.mod Cx14.out (sB HBT)).mod Cx19.out (sB HBT)).mod Cx26.out (sB HBT))⟩ (by intro k h1; have hb := HBT.out k h1; omega)) (fun E => args1 (E.d 2 0)) ?_
 rintro e u4_3 ⟨cbf, rfl, qd0, hm⟩
 have HOf := hid (BaR.one qd0)
 obtain ⟨f_ps, f_os, f_ts, rfl, hokb, qd0, qd1, qd2⟩ := qd0
 clear hokb
 refine ⟨_, rfl, ?_⟩
 have Hx30 := hid (qd0.widen (R' := (fun k => (R2 k) ∨ (New u3_6 u4_3 k))) (fun _ h => h))
 have Hx31 := hid (qd1.widen (R' := (fun k => (R2 k) ∨ (New u3_6 u4_3 k))) (fun _ h => h))
 have Hx32 := hid (qd2.widen (R' := (fun k => (R2 k) ∨ (New u3_6 u4_3 k))) (fun _ h => h))
 have zu4_3 := hm.size
 have Cx33 := hid (show Mod (fun _ => False) u3_6 u4_3 from hm)
 clear hm
 clear qd0 qd1 qd2 Hx7 Hx8 Hx9
 refine QSeq.pure rfl (.pointer (some ⟨w.heap.size, 287, none⟩)) (fun E => ex_field rfl Try.underlying67 rfl (by kernel_rfl) (E.v oe1)) ?_
 refine QSeq.pure rfl (.pointer (some ⟨w.heap.size, 289, none⟩)) (fun E => ex_field rfl Try.underlying65 rfl (by kernel_rfl) (E.d 4 0)) ?_
 refine QSeq.go fun act E => ?_
 refine qc_store rfl (wanted_none rfl) rfl (Hx25.out.mod Cx33.out (fun h => h)) (off := 289) (vs := [.int .i64 x.dc.ba.ep, .int .u64 (x.dc.ba.tm : Nat), f_ps, f_os, f_ts]) (by kernel_rfl) HOf.out (by rw [List.size_toArray, flat_sum, (Mg.lens HOK.out HLn5.out HLn10.out rfl (show (x.op.cells v_o).length = 34 from HC15.out) rfl)]; show 289 + 5 ≤ 295; decide) (E.d 5 0) (ec (E.d 3 2)) ?_
 intro u4_6 qc0 hm
 have qB1 := qc0.eqv (b := ((Mg.segs x cn5 cn10 (x.pr.cells e_ps e_os e_ts) (x.op.cells v_o) (x.dc.cells f_ps f_os f_ts d_l)).flatten : List Value).toArray) ((lay_sub (Mg.lens HOK.out HLn5.out HLn10.out rfl (show (x.op.cells v_o).length = 34 from HC15.out) rfl) 18 rfl (o := 287) (k := 2) (n := 5) rfl rfl rfl (by show 2 + 5 ≤ 8; decide)).trans rfl)
 clear qc0
 have Hx34 := hid qB1
 have zu4_6 := hm.size
 have HMu4_6 := hid hm
 have Cx35 := hid (Mod.goS (S' := (fun k => (k = w.heap.size))) Cx33.out hm (fun _ h => h.elim) (by intro k h0 h2; exact h2))
 clear hm Cx33
 clear act E qB1 Hx25
 have Hx36 := hid (Hx30.out.mod HMu4_6.out (by intro k h1 h2; rcases h1 with h1 | h1 <;> first | omega | (have hb := HBT.out k h1; omega)))
 have Hx37 := hid (Hx31.out.mod HMu4_6.out (by intro k h1 h2; rcases h1 with h1 | h1 <;> first | omega | (have hb := HBT.out k h1; omega)))
 have Hx38 := hid (Hx32.out.mod HMu4_6.out (by intro k h1 h2; rcases h1 with h1 | h1 <;> first | omega | (have hb := HBT.out k h1; omega)))
 clear Hx30 Hx31 Hx32 HMu4_6
 refine QSeq.nil (t' := [_, _, _, _, _, _, _]) rfl ?_
 obtain rfl := HA0.out
 clear HA0 oe1
 simp only [pz, Act.put, sIB, sCZ, sCS, List.set_nil]
 go_upto_region 5 with (fail)
 refine wp_region_U 50 [23, 24, 25, 26, 27, 28, 56] [0, 1, 2, 3, 4, 5, 6] (fun a0 HA0 => ?_)
 have oe1 := ev HA0 1 rfl
 refine QSeq.pure rfl (.pointer (some ⟨w.heap.size, 287, none⟩)) (fun E => ex_field rfl Try.underlying67 rfl (by kernel_rfl) (E.v oe1)) ?_
 refine QSeq.pure rfl (.pointer (some ⟨w.heap.size, 294, none⟩)) (fun E => ex_field rfl Try.underlying65 rfl (by kernel_rfl) (E.d 0 0)) ?_
 refine QSeq.pure rfl (d_l) (fun E => ex_load1 rfl Try.underlying63 rfl (E.d 1 0) (Cs.seg1 Hx34.out (Mg.lens HOK.out HLn5.out HLn10.out rfl (show (x.op.cells v_o).length = 34 from HC15.out) rfl) 18 rfl (o := 287) (k := 7) rfl rfl rfl)) ?_
 refine QSeq.call rfl rfl Try.func48 (Cut_Vt _ _ x.dc.l 6 _ ((((Hx10.out.mod Cx14.out (sB HBT)).mod Cx19.out (sB HBT)).mod Cx26.out (sB HBT)).mod Cx35.out (sB HBT)) (by intro k h1; have hb := HBT.out k h1; omega) (by omega)) (fun E => args2 (E.d 2 0) rfl) ?_
 rintro e u5_3 ⟨v_v2, rfl, qvc, hm⟩
 obtain ⟨ao_v, cap_v, rfl⟩ := qvc.shape
 refine ⟨_, rfl, ?_⟩
 have Hx39 := hid (qvc.widen (R' := (fun k => (New u4_6 u5_3 k))) (E' := (fun k => (R2 k))) (fun _ h => h) (fun _ h => h))
 have zu5_3 := hm.size
 have Cx40 := hid (show Mod (fun _ => False) u4_6 u5_3 from hm)
 clear hm
 clear qvc
 refine QSeq.pure rfl (.pointer (some ⟨w.heap.size, 287, none⟩)) (fun E => ex_field rfl Try.underlying67 rfl (by kernel_rfl) (E.v oe1)) ?_
 refine QSeq.pure rfl (.pointer (some ⟨w.heap.size, 294, none⟩)) (fun E => ex_field rfl Try.underlying65 rfl (by kernel_rfl) (E.d 4 0)) ?_
 refine QSeq.go fun act E => ?_
 refine qc_store rfl (wanted_none rfl) rfl (Hx34.out.mod Cx40.out (fun h => h)) (off := 294) (vs := [Value.slice ao_v (x.dc.l.take 6).length cap_v]) (by kernel_rfl) one1 (by rw [List.size_toArray, flat_sum, (Mg.lens HOK.out HLn5.out HLn10.out rfl (show (x.op.cells v_o).length = 34 from HC15.out) rfl)]; show 294 + 1 ≤ 295; decide) (E.d 5 0) (ec (E.d 3 2)) ?_
 intro u5_6 qc0 hm
 have qB1 := qc0.eqv (b := ((Mg.segs x cn5 cn10 (x.pr.cells e_ps e_os e_ts) (x.op.cells v_o) (x.dc.cells f_ps f_os f_ts (Value.slice ao_v (x.dc.l.take 6).length cap_v))).flatten : List Value).toArray) ((lay_sub (Mg.lens HOK.out HLn5.out HLn10.out rfl (show (x.op.cells v_o).length = 34 from HC15.out) rfl) 18 rfl (o := 287) (k := 7) (n := 1) rfl rfl rfl (by show 7 + 1 ≤ 8; decide)).trans rfl)
 clear qc0
 have Hx41 := hid qB1
 have zu5_6 := hm.size
 have HMu5_6 := hid hm
 have Cx42 := hid (Mod.goS (S' := (fun k => (k = w.heap.size))) Cx40.out hm (fun _ h => h.elim) (by intro k h0 h2; exact h2))
 clear hm Cx40
 clear act E qB1 Hx34
 have Hx43 := hid (Hx39.out.mod HMu5_6.out (by intro k h1 h2; omega) (sB HBT))
 clear Hx39 HMu5_6
 refine QSeq.nil (t' := [_, _, _, _, _, _, _]) rfl ?_
 obtain rfl := HA0.out
 clear HA0 oe1
 simp only [pz, Act.put, sIB, sCZ, sCS, List.set_nil]
 go_upto_region 6 with (fail)
 refine wp_region_U 50 [29, 30, 31, 32, 33, 34, 56] [0, 1, 2, 3, 4, 5, 6] (fun a0 HA0 => ?_)
 have oe1 := ev HA0 1 rfl
 refine QSeq.pure rfl (.pointer (some ⟨w.heap.size, 248, none⟩)) (fun E => ex_field rfl Try.underlying67 rfl (by kernel_rfl) (E.v oe1)) ?_
 refine QSeq.pure rfl (.pointer (some ⟨w.heap.size, 249, none⟩)) (fun E => ex_field rfl Try.underlying60 rfl (by kernel_rfl) (E.d 0 0)) ?_
 refine QSeq.pure rfl (v_o) (fun E => ex_load1 rfl Try.underlying58 rfl (E.d 1 0) (Cs.seg1 Hx41.out (Mg.lens HOK.out HLn5.out HLn10.out rfl (show (x.op.cells v_o).length = 34 from HC15.out) rfl) 15 rfl (o := 248) (k := 1) rfl rfl rfl)) ?_
 refine QSeq.call rfl rfl Try.func49 (Cut_R 100 (((((Hx3.out.mod Cx14.out (sB HBT)).mod Cx19.out (sB HBT)).mod Cx26.out (sB HBT)).mod Cx35.out (sB HBT)).mod Cx42.out (sB HBT)) (by decide)) (fun E => args2 (E.d 2 0) rfl) ?_
 rintro e u6_3 ⟨v_o2, rfl, qoc, hm⟩
 obtain ⟨ao_o, cap_o, rfl⟩ := qoc.shape
 refine ⟨_, rfl, ?_⟩
 have Hx44 := hid qoc
 have zu6_3 := hm.size
 have Cx45 := hid (show Mod (fun _ => False) u5_6 u6_3 from hm)
 clear hm
 clear qoc
 refine QSeq.pure rfl (.pointer (some ⟨w.heap.size, 248, none⟩)) (fun E => ex_field rfl Try.underlying67 rfl (by kernel_rfl) (E.v oe1)) ?_
 refine QSeq.pure rfl (.pointer (some ⟨w.heap.size, 249, none⟩)) (fun E => ex_field rfl Try.underlying60 rfl (by kernel_rfl) (E.d 4 0)) ?_
 refine QSeq.go fun act E => ?_
 refine qc_store rfl (wanted_none rfl) rfl (Hx41.out.mod Cx45.out (fun h => h)) (off := 249) (vs := [Value.slice ao_o (x.op.pl.take 100).length cap_o]) (by kernel_rfl) one1 (by rw [List.size_toArray, flat_sum, (Mg.lens HOK.out HLn5.out HLn10.out rfl (show (x.op.cells v_o).length = 34 from HC15.out) rfl)]; show 249 + 1 ≤ 295; decide) (E.d 5 0) (ec (E.d 3 2)) ?_
 intro u6_6 qc0 hm
 have qB1 := qc0.eqv (b := ((Mg.segs x cn5 cn10 (x.pr.cells e_ps e_os e_ts) (x.op.cells (Value.slice ao_o (x.op.pl.take 100).length cap_o)) (x.dc.cells f_ps f_os f_ts (Value.slice ao_v (x.dc.l.take 6).length cap_v))).flatten : List Value).toArray) ((lay_sub (Mg.lens HOK.out HLn5.out HLn10.out rfl (show (x.op.cells v_o).length = 34 from HC15.out) rfl) 15 rfl (o := 248) (k := 1) (n := 1) rfl rfl rfl (by rw [show (x.op.cells _).length = 34 from HC15.out]; decide)).trans rfl)
 clear qc0
 have Hx46 := hid qB1
 have zu6_6 := hm.size
 have HMu6_6 := hid hm
 have Cx47 := hid (Mod.goS (S' := (fun k => (k = w.heap.size))) Cx45.out hm (fun _ h => h.elim) (by intro k h0 h2; exact h2))
 clear hm Cx45
 clear act E qB1 Hx41
 have Hx48 := hid (Hx44.out.mod HMu6_6.out (by intro k h1 h2; omega))
 clear Hx44 HMu6_6
 refine QSeq.nil (t' := [_, _, _, _, _, _, _]) rfl ?_
 obtain rfl := HA0.out
 clear HA0 oe1
 simp only [pz, Act.put, sIB, sCZ, sCS, List.set_nil]
 by_cases hn : 100 < x.rp.size
 ·skip
  go_upto_region 7 with (fail)
  refine wp_region_U 50 [35, 36, 37, 38] [0, 1, 2, 3] (fun a0 HA0 => ?_)
  have oe1 := ev HA0 1 rfl
  refine QSeq.pure rfl (.pointer (some ⟨w.heap.size, 286, none⟩)) (fun E => ex_field rfl Try.underlying67 rfl (by kernel_rfl) (E.v oe1)) ?_
  refine QSeq.pure rfl (.string x.rp) (fun E => ex_load1 rfl Try.underlying9 rfl (E.d 0 0) (Cs.seg1 Hx46.out (Mg.lens HOK.out HLn5.out HLn10.out rfl (show (x.op.cells (Value.slice ao_o (x.op.pl.take 100).length cap_o)).length = 34 from HC15.out) rfl) 17 rfl (o := 286) (k := 0) rfl rfl rfl)) ?_
  refine QSeq.pure rfl (.int .i64 ((x.rp.size : Nat) : Int)) (fun E => ex_lenStr rfl (E.d 1 0) Try.underlying9) ?_
  refine QSeq.pure rfl (.bool true) (fun E => ex_binE rfl (E.d 2 0) rfl (guard_ints _ _ _ _ _ _) (run_gtr_i _ _ _ Try.underlying3) (congrArg Value.bool (decide_eq_true (by omega)))) ?_
  refine QSeq.nil (t' := [_, _, _, _]) rfl ?_
  obtain rfl := HA0.out
  clear HA0 oe1
  simp only [pz, Act.put, sIB, sCZ, sCS]
  go_upto_region 8 with (fail)
  refine wp_region_U 50 [39, 40, 41, 42, 54] [0, 1, 2, 3, 4] (fun a0 HA0 => ?_)
  have oe1 := ev HA0 1 rfl
  refine QSeq.pure rfl (.pointer (some ⟨w.heap.size, 286, none⟩)) (fun E => ex_field rfl Try.underlying67 rfl (by kernel_rfl) (E.v oe1)) ?_
  refine QSeq.pure rfl (.string x.rp) (fun E => ex_load1 rfl Try.underlying9 rfl (E.d 0 0) (Cs.seg1 Hx46.out (Mg.lens HOK.out HLn5.out HLn10.out rfl (show (x.op.cells (Value.slice ao_o (x.op.pl.take 100).length cap_o)).length = 34 from HC15.out) rfl) 17 rfl (o := 286) (k := 0) rfl rfl rfl)) ?_
  refine QSeq.pure rfl (.string (x.rp.extract 0 100)) (fun E => ex_sliceStr (i := 100) rfl Try.underlying9 (E.d 1 0) rfl (by omega)) ?_
  refine QSeq.pure rfl (.pointer (some ⟨w.heap.size, 286, none⟩)) (fun E => ex_field rfl Try.underlying67 rfl (by kernel_rfl) (E.v oe1)) ?_
  refine QSeq.go fun act E => ?_
  refine qc_store rfl (wanted_none rfl) rfl Hx46.out (off := 286) (vs := [Value.string (x.rp.extract 0 100)]) (by kernel_rfl) one1 (by rw [List.size_toArray, flat_sum, (Mg.lens HOK.out HLn5.out HLn10.out rfl (show (x.op.cells (Value.slice ao_o (x.op.pl.take 100).length cap_o)).length = 34 from HC15.out) rfl)]; show 286 + 1 ≤ 295; decide) (E.d 3 0) (ec (E.d 2 1)) ?_
  intro u8_4 qc0 hm
  have qB1 := qc0.eqv (b := ((Mg.segs ({ x with rp := x.rp.extract 0 100 } : Mg) cn5 cn10 (x.pr.cells e_ps e_os e_ts) (x.op.cells (Value.slice ao_o (x.op.pl.take 100).length cap_o)) (x.dc.cells f_ps f_os f_ts (Value.slice ao_v (x.dc.l.take 6).length cap_v))).flatten : List Value).toArray) ((lay_sub (Mg.lens HOK.out HLn5.out HLn10.out rfl (show (x.op.cells (Value.slice ao_o (x.op.pl.take 100).length cap_o)).length = 34 from HC15.out) rfl) 17 rfl (o := 286) (k := 0) (n := 1) rfl rfl rfl (by show 0 + 1 ≤ 1; decide)).trans rfl)
  clear qc0
  have Hx49 := hid qB1
  have zu8_4 := hm.size
  have Cx50 := hid (show Mod (fun k => (k = w.heap.size)) u6_6 u8_4 from hm)
  clear hm
  clear act E qB1 Hx46
  refine QSeq.nil (t' := [_, _, _, _, _]) rfl ?_
  obtain rfl := HA0.out
  clear HA0 oe1
  simp only [pz, Act.put, sIB, sCZ, sCS, List.set_nil]
  by_cases hv : x.pr.vl = 9223372036854775807
  ·have HV := Lib.hid hv
   clear hv
   go_upto_region 9 with (fail)
   refine wp_region_U 50 [43, 44, 45, 46] [0, 1, 2, 3] (fun a0 HA0 => ?_)
   have oe1 := ev HA0 1 rfl
   refine QSeq.pure rfl (.pointer (some ⟨w.heap.size, 163, none⟩)) (fun E => ex_field rfl Try.underlying67 rfl (by kernel_rfl) (E.v oe1)) ?_
   refine QSeq.pure rfl (.pointer (some ⟨w.heap.size, 165, none⟩)) (fun E => ex_field rfl Try.underlying53 rfl (by kernel_rfl) (E.d 0 0)) ?_
   refine QSeq.pure rfl (.int .i64 x.pr.vl) (fun E => ex_load1 rfl Try.underlying3 rfl (E.d 1 0) (Cs.seg1 Hx49.out (show (Mg.segs ({ x with rp := x.rp.extract 0 100 } : Mg) cn5 cn10 (x.pr.cells e_ps e_os e_ts) (x.op.cells (Value.slice ao_o (x.op.pl.take 100).length cap_o)) (x.dc.cells f_ps f_os f_ts (Value.slice ao_v (x.dc.l.take 6).length cap_v))).map List.length = mgN from (Mg.lens HOK.out HLn5.out HLn10.out rfl (show (x.op.cells (Value.slice ao_o (x.op.pl.take 100).length cap_o)).length = 34 from HC15.out) rfl)) 11 rfl (o := 163) (k := 2) rfl rfl rfl)) ?_
   refine QSeq.pure rfl (.bool true) (fun E => ex_binE rfl (E.d 2 0) rfl (guard_ints _ _ _ _ _ _) (run_eql_i _ _ _ Try.underlying3) (congrArg Value.bool (eq_tt HV.out))) ?_
   refine QSeq.nil (t' := [_, _, _, _]) rfl ?_
   obtain rfl := HA0.out
   clear HA0 oe1
   simp only [pz, Act.put, sIB, sCZ, sCS]
   go_upto_region 10 with (fail)
   refine wp_region_U 50 [47, 48, 52] [0, 1, 2] (fun a0 HA0 => ?_)
   have oe1 := ev HA0 1 rfl
   refine QSeq.pure rfl (.pointer (some ⟨w.heap.size, 163, none⟩)) (fun E => ex_field rfl Try.underlying67 rfl (by kernel_rfl) (E.v oe1)) ?_
   refine QSeq.pure rfl (.pointer (some ⟨w.heap.size, 165, none⟩)) (fun E => ex_field rfl Try.underlying53 rfl (by kernel_rfl) (E.d 0 0)) ?_
   refine QSeq.go fun act E => ?_
   refine qc_store rfl (wanted_none rfl) rfl Hx49.out (off := 165) (vs := [.int .i64 (-1)]) (by kernel_rfl) one1 (by rw [List.size_toArray, flat_sum, (show (Mg.segs ({ x with rp := x.rp.extract 0 100 } : Mg) cn5 cn10 (x.pr.cells e_ps e_os e_ts) (x.op.cells (Value.slice ao_o (x.op.pl.take 100).length cap_o)) (x.dc.cells f_ps f_os f_ts (Value.slice ao_v (x.dc.l.take 6).length cap_v))).map List.length = mgN from (Mg.lens HOK.out HLn5.out HLn10.out rfl (show (x.op.cells (Value.slice ao_o (x.op.pl.take 100).length cap_o)).length = 34 from HC15.out) rfl))]; show 165 + 1 ≤ 295; decide) (E.d 1 0) (ec rfl) ?_
   intro u10_2 qc0 hm
   have qB1 := qc0.eqv (b := ((Mg.segs ({ x with rp := x.rp.extract 0 100 } : Mg) cn5 cn10 (Pr.cells { x.pr with vl := -1 } e_ps e_os e_ts) (x.op.cells (Value.slice ao_o (x.op.pl.take 100).length cap_o)) (x.dc.cells f_ps f_os f_ts (Value.slice ao_v (x.dc.l.take 6).length cap_v))).flatten : List Value).toArray) ((lay_sub (show (Mg.segs ({ x with rp := x.rp.extract 0 100 } : Mg) cn5 cn10 (x.pr.cells e_ps e_os e_ts) (x.op.cells (Value.slice ao_o (x.op.pl.take 100).length cap_o)) (x.dc.cells f_ps f_os f_ts (Value.slice ao_v (x.dc.l.take 6).length cap_v))).map List.length = mgN from (Mg.lens HOK.out HLn5.out HLn10.out rfl (show (x.op.cells (Value.slice ao_o (x.op.pl.take 100).length cap_o)).length = 34 from HC15.out) rfl)) 11 rfl (o := 163) (k := 2) (n := 1) rfl rfl rfl (by show 2 + 1 ≤ 11; decide)).trans rfl)
   clear qc0
   have Hx51 := hid qB1
   have zu10_2 := hm.size
   have Cx52 := hid (show Mod (fun k => (k = w.heap.size)) u8_4 u10_2 from hm)
   clear hm
   clear act E qB1 Hx49
   refine QSeq.nil (t' := [_, _, _]) rfl ?_
   obtain rfl := HA0.out
   clear HA0 oe1
   simp only [pz, Act.put, sIB, sCZ, sCS, List.set_nil]
   have HSZ := hid (show ((Mg.segs ({ x with rp := x.rp.extract 0 100 } : Mg) cn5 cn10 (Pr.cells { x.pr with vl := -1 } e_ps e_os e_ts) (x.op.cells (Value.slice ao_o (x.op.pl.take 100).length cap_o)) (x.dc.cells f_ps f_os f_ts (Value.slice ao_v (x.dc.l.take 6).length cap_v))).flatten).length = 295 by rw [flat_sum, show (Mg.segs ({ x with rp := x.rp.extract 0 100 } : Mg) cn5 cn10 (Pr.cells { x.pr with vl := -1 } e_ps e_os e_ts) (x.op.cells (Value.slice ao_o (x.op.pl.take 100).length cap_o)) (x.dc.cells f_ps f_os f_ts (Value.slice ao_v (x.dc.l.take 6).length cap_v))).map List.length = mgN from (Mg.lens HOK.out HLn5.out HLn10.out rfl (show (x.op.cells (Value.slice ao_o (x.op.pl.take 100).length cap_o)).length = 34 from HC15.out) rfl)]; rfl)
   have HES := hid (show smallP x = { ({ x with rp := x.rp.extract 0 100 } : Mg) with ce := pcCe x.ce, pm := pcPm x.pm, pr := { x.pr with ba := pcBa x.pr.ba, vl := -1 }, op := { x.op with pl := x.op.pl.take 100 }, dc := { x.dc with ba := pcBa x.dc.ba, l := x.dc.l.take 6 } } by unfold smallP; rw [show pcRp x.rp = x.rp.extract 0 100 from if_pos hn, show pcVl x.pr.vl = -1 from if_pos HV.out])
   have HRM := hid (show MgR.rd (fun k => (R2 k) ∨ (New w1 u10_2 k)) u10_2 ((Mg.segs ({ x with rp := x.rp.extract 0 100 } : Mg) cn5 cn10 (Pr.cells { x.pr with vl := -1 } e_ps e_os e_ts) (x.op.cells (Value.slice ao_o (x.op.pl.take 100).length cap_o)) (x.dc.cells f_ps f_os f_ts (Value.slice ao_v (x.dc.l.take 6).length cap_v))).flatten) (smallP x) from HES.out ▸ ⟨_, _, _, _, _, rfl, { HOK.out with }, (((((((Hx15.out.mod Cx19.out (by intro k h1 h2; rcases h1 with h1 | h1 <;> first | omega | (have hb := HBT.out k h1; omega))).mod Cx26.out (by intro k h1 h2; rcases h1 with h1 | h1 <;> first | omega | (have hb := HBT.out k h1; omega))).mod Cx35.out (by intro k h1 h2; rcases h1 with h1 | h1 <;> first | omega | (have hb := HBT.out k h1; omega))).mod Cx42.out (by intro k h1 h2; rcases h1 with h1 | h1 <;> first | omega | (have hb := HBT.out k h1; omega))).mod Cx47.out (by intro k h1 h2; rcases h1 with h1 | h1 <;> first | omega | (have hb := HBT.out k h1; omega))).mod Cx50.out (by intro k h1 h2; rcases h1 with h1 | h1 <;> first | omega | (have hb := HBT.out k h1; omega))).mod Cx52.out (by intro k h1 h2; rcases h1 with h1 | h1 <;> first | omega | (have hb := HBT.out k h1; omega))).widen (by intro k h1; rcases h1 with h1 | h1 <;> first | exact Or.inl h1 | (right; omega)), ((((((Hx20.out.mod Cx26.out (by intro k h1 h2; rcases h1 with h1 | h1 <;> first | omega | (have hb := HBT.out k h1; omega))).mod Cx35.out (by intro k h1 h2; rcases h1 with h1 | h1 <;> first | omega | (have hb := HBT.out k h1; omega))).mod Cx42.out (by intro k h1 h2; rcases h1 with h1 | h1 <;> first | omega | (have hb := HBT.out k h1; omega))).mod Cx47.out (by intro k h1 h2; rcases h1 with h1 | h1 <;> first | omega | (have hb := HBT.out k h1; omega))).mod Cx50.out (by intro k h1 h2; rcases h1 with h1 | h1 <;> first | omega | (have hb := HBT.out k h1; omega))).mod Cx52.out (by intro k h1 h2; rcases h1 with h1 | h1 <;> first | omega | (have hb := HBT.out k h1; omega))).widen (by intro k h1; rcases h1 with h1 | h1 <;> first | exact Or.inl h1 | (right; omega)), ⟨_, _, _, rfl, ⟨HOP.out.1, HOP.out.2.1, I64_m1, HOP.out.2.2.2⟩, (((((Hx27.out.mod Cx35.out (by intro k h1 h2; rcases h1 with h1 | h1 <;> first | omega | (have hb := HBT.out k h1; omega))).mod Cx42.out (by intro k h1 h2; rcases h1 with h1 | h1 <;> first | omega | (have hb := HBT.out k h1; omega))).mod Cx47.out (by intro k h1 h2; rcases h1 with h1 | h1 <;> first | omega | (have hb := HBT.out k h1; omega))).mod Cx50.out (by intro k h1 h2; rcases h1 with h1 | h1 <;> first | omega | (have hb := HBT.out k h1; omega))).mod Cx52.out (by intro k h1 h2; rcases h1 with h1 | h1 <;> first | omega | (have hb := HBT.out k h1; omega))).widen (by intro k h1; rcases h1 with h1 | h1 <;> first | exact Or.inl h1 | (right; omega)), (((((Hx28.out.mod Cx35.out (by intro k h1 h2; rcases h1 with h1 | h1 <;> first | omega | (have hb := HBT.out k h1; omega))).mod Cx42.out (by intro k h1 h2; rcases h1 with h1 | h1 <;> first | omega | (have hb := HBT.out k h1; omega))).mod Cx47.out (by intro k h1 h2; rcases h1 with h1 | h1 <;> first | omega | (have hb := HBT.out k h1; omega))).mod Cx50.out (by intro k h1 h2; rcases h1 with h1 | h1 <;> first | omega | (have hb := HBT.out k h1; omega))).mod Cx52.out (by intro k h1 h2; rcases h1 with h1 | h1 <;> first | omega | (have hb := HBT.out k h1; omega))).widen (by intro k h1; rcases h1 with h1 | h1 <;> first | exact Or.inl h1 | (right; omega)), (((((Hx29.out.mod Cx35.out (by intro k h1 h2; rcases h1 with h1 | h1 <;> first | omega | (have hb := HBT.out k h1; omega))).mod Cx42.out (by intro k h1 h2; rcases h1 with h1 | h1 <;> first | omega | (have hb := HBT.out k h1; omega))).mod Cx47.out (by intro k h1 h2; rcases h1 with h1 | h1 <;> first | omega | (have hb := HBT.out k h1; omega))).mod Cx50.out (by intro k h1 h2; rcases h1 with h1 | h1 <;> first | omega | (have hb := HBT.out k h1; omega))).mod Cx52.out (by intro k h1 h2; rcases h1 with h1 | h1 <;> first | omega | (have hb := HBT.out k h1; omega))).widen (by intro k h1; rcases h1 with h1 | h1 <;> first | exact Or.inl h1 | (right; omega))⟩, ⟨_, rfl, HOO.out, RdR_len (((Hx48.out.mod Cx50.out (by intro k h1 h2; omega)).mod Cx52.out (by intro k h1 h2; omega)).rd.widen (by intro k h1; (try dsimp only at h1 ⊢); right; omega) (Nat.le_refl _))⟩, ⟨_, _, _, _, rfl, HOD.out, ((((Hx36.out.mod Cx42.out (by intro k h1 h2; rcases h1 with h1 | h1 <;> first | omega | (have hb := HBT.out k h1; omega))).mod Cx47.out (by intro k h1 h2; rcases h1 with h1 | h1 <;> first | omega | (have hb := HBT.out k h1; omega))).mod Cx50.out (by intro k h1 h2; rcases h1 with h1 | h1 <;> first | omega | (have hb := HBT.out k h1; omega))).mod Cx52.out (by intro k h1 h2; rcases h1 with h1 | h1 <;> first | omega | (have hb := HBT.out k h1; omega))).widen (by intro k h1; rcases h1 with h1 | h1 <;> first | exact Or.inl h1 | (right; omega)), ((((Hx37.out.mod Cx42.out (by intro k h1 h2; rcases h1 with h1 | h1 <;> first | omega | (have hb := HBT.out k h1; omega))).mod Cx47.out (by intro k h1 h2; rcases h1 with h1 | h1 <;> first | omega | (have hb := HBT.out k h1; omega))).mod Cx50.out (by intro k h1 h2; rcases h1 with h1 | h1 <;> first | omega | (have hb := HBT.out k h1; omega))).mod Cx52.out (by intro k h1 h2; rcases h1 with h1 | h1 <;> first | omega | (have hb := HBT.out k h1; omega))).widen (by intro k h1; rcases h1 with h1 | h1 <;> first | exact Or.inl h1 | (right; omega)), ((((Hx38.out.mod Cx42.out (by intro k h1 h2; rcases h1 with h1 | h1 <;> first | omega | (have hb := HBT.out k h1; omega))).mod Cx47.out (by intro k h1 h2; rcases h1 with h1 | h1 <;> first | omega | (have hb := HBT.out k h1; omega))).mod Cx50.out (by intro k h1 h2; rcases h1 with h1 | h1 <;> first | omega | (have hb := HBT.out k h1; omega))).mod Cx52.out (by intro k h1 h2; rcases h1 with h1 | h1 <;> first | omega | (have hb := HBT.out k h1; omega))).widen (by intro k h1; rcases h1 with h1 | h1 <;> first | exact Or.inl h1 | (right; omega)), (((Hx43.out.mod Cx47.out (by intro k h1 h2; omega) (sB HBT)).mod Cx50.out (by intro k h1 h2; omega) (sB HBT)).mod Cx52.out (by intro k h1 h2; omega) (sB HBT)).rd.widen (by intro k h1; (try dsimp only at h1 ⊢); rcases h1 with h1 | h1 <;> first | exact Or.inl h1 | (right; omega))⟩⟩)
   have HON := hid (MgR.one HRM.out)
   clear Hx15
   clear Hx20
   clear Hx27
   clear Hx28
   clear Hx29
   clear Hx36
   clear Hx37
   clear Hx38
   clear Hx43
   clear Hx48
   go_upto_region 11 with (fail)
   refine wp_region_U 50 [49, 51] [0, 1] (fun a0 HA0 => ?_)
   have oe1 := ev HA0 1 rfl
   have oe2 := ev HA0 2 rfl
   refine QSeq.pure rfl _ (fun E => ex_loadA rfl Try.underlying67 rfl (off := 0) (cs := ((Mg.segs ({ x with rp := x.rp.extract 0 100 } : Mg) cn5 cn10 (Pr.cells { x.pr with vl := -1 } e_ps e_os e_ts) (x.op.cells (Value.slice ao_o (x.op.pl.take 100).length cap_o)) (x.dc.cells f_ps f_os f_ts (Value.slice ao_v (x.dc.l.take 6).length cap_v))).flatten)) (by rw [HSZ.out]; kernel_rfl) (E.v oe1) (Cs.whole Hx51.out)) ?_
   refine QSeq.go fun act E => ?_
   refine qc_store rfl (wanted_none rfl) rfl ((((((((HB2.out.mod Cx14.out (by intro h2; omega)).mod Cx19.out (by intro h2; omega)).mod Cx26.out (by intro h2; omega)).mod Cx35.out (by intro h2; omega)).mod Cx42.out (by intro h2; omega)).mod Cx47.out (by intro h2; omega)).mod Cx50.out (by intro h2; omega)).mod Cx52.out (by intro h2; omega)) (off := 0) (vs := ((Mg.segs ({ x with rp := x.rp.extract 0 100 } : Mg) cn5 cn10 (Pr.cells { x.pr with vl := -1 } e_ps e_os e_ts) (x.op.cells (Value.slice ao_o (x.op.pl.take 100).length cap_o)) (x.dc.cells f_ps f_os f_ts (Value.slice ao_v (x.dc.l.take 6).length cap_v))).flatten)) (by rw [HSZ.out]; kernel_rfl) HON.out (by rw [HSZ.out]; show 0 + 295 ≤ 295; decide) (E.v oe2) (ec (E.d 0 0)) ?_
   intro u11_1 qc0 hm
   have qB2 := qc0.eqv (b := (((Mg.segs ({ x with rp := x.rp.extract 0 100 } : Mg) cn5 cn10 (Pr.cells { x.pr with vl := -1 } e_ps e_os e_ts) (x.op.cells (Value.slice ao_o (x.op.pl.take 100).length cap_o)) (x.dc.cells f_ps f_os f_ts (Value.slice ao_v (x.dc.l.take 6).length cap_v))).flatten) : List Value).toArray) (lay_whole _ _ (by rw [HSZ.out]; rfl))
   clear qc0
   have Hx53 := hid qB2
   have zu11_1 := hm.size
   have Cx54 := hid (show Mod (fun k => (k = w.heap.size + 1)) u10_2 u11_1 from hm)
   clear hm
   clear act E qB2 HB2
   refine QSeq.nil (t' := [_, _]) rfl ?_
   obtain rfl := HA0.out
   clear HA0 oe1 oe2
   simp only [pz, Act.put, sIB, sCZ, sCS, List.set_nil]
   go_wp2
   exact bodyPost_ret (results_cellA rfl _ _ (w.heap.size + 1) ((Mg.segs ({ x with rp := x.rp.extract 0 100 } : Mg) cn5 cn10 (Pr.cells { x.pr with vl := -1 } e_ps e_os e_ts) (x.op.cells (Value.slice ao_o (x.op.pl.take 100).length cap_o)) (x.dc.cells f_ps f_os f_ts (Value.slice ao_v (x.dc.l.take 6).length cap_v))).flatten) rfl (fun k u hu => by rw [Hx53.out.cell]; simpa using hu) Try.underlying67 rfl (by rw [HSZ.out]; kernel_rfl)) rfl ⟨_, rfl, (HRM.out.mod Cx54.out (by intro k h1 h2; rcases h1 with h1 | h1 <;> first | omega | (have hb := HBT.out k h1; omega))).widen (by intro k h1; rcases h1 with h1 | h1 <;> first | exact Or.inl h1 | (right; omega)), (((((((((HM0.out.trans Cx14.out (by intro k h1 h2; omega)).trans Cx19.out (by intro k h1 h2; omega)).trans Cx26.out (by intro k h1 h2; omega)).trans Cx35.out (by intro k h1 h2; omega)).trans Cx42.out (by intro k h1 h2; omega)).trans Cx47.out (by intro k h1 h2; omega)).trans Cx50.out (by intro k h1 h2; omega)).trans Cx52.out (by intro k h1 h2; omega)).trans Cx54.out (by intro k h1 h2; omega))⟩
  have HV := Lib.hid hv
  clear hv
  go_upto_region 9 with (fail)
  refine wp_region_U 50 [43, 44, 45, 46] [0, 1, 2, 3] (fun a0 HA0 => ?_)
  have oe1 := ev HA0 1 rfl
  refine QSeq.pure rfl (.pointer (some ⟨w.heap.size, 163, none⟩)) (fun E => ex_field rfl Try.underlying67 rfl (by kernel_rfl) (E.v oe1)) ?_
  refine QSeq.pure rfl (.pointer (some ⟨w.heap.size, 165, none⟩)) (fun E => ex_field rfl Try.underlying53 rfl (by kernel_rfl) (E.d 0 0)) ?_
  refine QSeq.pure rfl (.int .i64 x.pr.vl) (fun E => ex_load1 rfl Try.underlying3 rfl (E.d 1 0) (Cs.seg1 Hx49.out (show (Mg.segs ({ x with rp := x.rp.extract 0 100 } : Mg) cn5 cn10 (x.pr.cells e_ps e_os e_ts) (x.op.cells (Value.slice ao_o (x.op.pl.take 100).length cap_o)) (x.dc.cells f_ps f_os f_ts (Value.slice ao_v (x.dc.l.take 6).length cap_v))).map List.length = mgN from (Mg.lens HOK.out HLn5.out HLn10.out rfl (show (x.op.cells (Value.slice ao_o (x.op.pl.take 100).length cap_o)).length = 34 from HC15.out) rfl)) 11 rfl (o := 163) (k := 2) rfl rfl rfl)) ?_
  refine QSeq.pure rfl (.bool false) (fun E => ex_binE rfl (E.d 2 0) rfl (guard_ints _ _ _ _ _ _) (run_eql_i _ _ _ Try.underlying3) (congrArg Value.bool (eq_ff HV.out))) ?_
  refine QSeq.nil (t' := [_, _, _, _]) rfl ?_
  obtain rfl := HA0.out
  clear HA0 oe1
  simp only [pz, Act.put, sIB, sCZ, sCS]
  have HSZ := hid (show ((Mg.segs ({ x with rp := x.rp.extract 0 100 } : Mg) cn5 cn10 (x.pr.cells e_ps e_os e_ts) (x.op.cells (Value.slice ao_o (x.op.pl.take 100).length cap_o)) (x.dc.cells f_ps f_os f_ts (Value.slice ao_v (x.dc.l.take 6).length cap_v))).flatten).length = 295 by rw [flat_sum, show (Mg.segs ({ x with rp := x.rp.extract 0 100 } : Mg) cn5 cn10 (x.pr.cells e_ps e_os e_ts) (x.op.cells (Value.slice ao_o (x.op.pl.take 100).length cap_o)) (x.dc.cells f_ps f_os f_ts (Value.slice ao_v (x.dc.l.take 6).length cap_v))).map List.length = mgN from (Mg.lens HOK.out HLn5.out HLn10.out rfl (show (x.op.cells (Value.slice ao_o (x.op.pl.take 100).length cap_o)).length = 34 from HC15.out) rfl)]; rfl)
  have HES := hid (show smallP x = { ({ x with rp := x.rp.extract 0 100 } : Mg) with ce := pcCe x.ce, pm := pcPm x.pm, pr := { x.pr with ba := pcBa x.pr.ba, vl := x.pr.vl }, op := { x.op with pl := x.op.pl.take 100 }, dc := { x.dc with ba := pcBa x.dc.ba, l := x.dc.l.take 6 } } by unfold smallP; rw [show pcRp x.rp = x.rp.extract 0 100 from if_pos hn, show pcVl x.pr.vl = x.pr.vl from if_neg HV.out])
  have HRM := hid (show MgR.rd (fun k => (R2 k) ∨ (New w1 u8_4 k)) u8_4 ((Mg.segs ({ x with rp := x.rp.extract 0 100 } : Mg) cn5 cn10 (x.pr.cells e_ps e_os e_ts) (x.op.cells (Value.slice ao_o (x.op.pl.take 100).length cap_o)) (x.dc.cells f_ps f_os f_ts (Value.slice ao_v (x.dc.l.take 6).length cap_v))).flatten) (smallP x) from HES.out ▸ ⟨_, _, _, _, _, rfl, { HOK.out with }, ((((((Hx15.out.mod Cx19.out (by intro k h1 h2; rcases h1 with h1 | h1 <;> first | omega | (have hb := HBT.out k h1; omega))).mod Cx26.out (by intro k h1 h2; rcases h1 with h1 | h1 <;> first | omega | (have hb := HBT.out k h1; omega))).mod Cx35.out (by intro k h1 h2; rcases h1 with h1 | h1 <;> first | omega | (have hb := HBT.out k h1; omega))).mod Cx42.out (by intro k h1 h2; rcases h1 with h1 | h1 <;> first | omega | (have hb := HBT.out k h1; omega))).mod Cx47.out (by intro k h1 h2; rcases h1 with h1 | h1 <;> first | omega | (have hb := HBT.out k h1; omega))).mod Cx50.out (by intro k h1 h2; rcases h1 with h1 | h1 <;> first | omega | (have hb := HBT.out k h1; omega))).widen (by intro k h1; rcases h1 with h1 | h1 <;> first | exact Or.inl h1 | (right; omega)), (((((Hx20.out.mod Cx26.out (by intro k h1 h2; rcases h1 with h1 | h1 <;> first | omega | (have hb := HBT.out k h1; omega))).mod Cx35.out (by intro k h1 h2; rcases h1 with h1 | h1 <;> first | omega | (have hb := HBT.out k h1; omega))).mod Cx42.out (by intro k h1 h2; rcases h1 with h1 | h1 <;> first | omega | (have hb := HBT.out k h1; omega))).mod Cx47.out (by intro k h1 h2; rcases h1 with h1 | h1 <;> first | omega | (have hb := HBT.out k h1; omega))).mod Cx50.out (by intro k h1 h2; rcases h1 with h1 | h1 <;> first | omega | (have hb := HBT.out k h1; omega))).widen (by intro k h1; rcases h1 with h1 | h1 <;> first | exact Or.inl h1 | (right; omega)), ⟨_, _, _, rfl, HOP.out, ((((Hx27.out.mod Cx35.out (by intro k h1 h2; rcases h1 with h1 | h1 <;> first | omega | (have hb := HBT.out k h1; omega))).mod Cx42.out (by intro k h1 h2; rcases h1 with h1 | h1 <;> first | omega | (have hb := HBT.out k h1; omega))).mod Cx47.out (by intro k h1 h2; rcases h1 with h1 | h1 <;> first | omega | (have hb := HBT.out k h1; omega))).mod Cx50.out (by intro k h1 h2; rcases h1 with h1 | h1 <;> first | omega | (have hb := HBT.out k h1; omega))).widen (by intro k h1; rcases h1 with h1 | h1 <;> first | exact Or.inl h1 | (right; omega)), ((((Hx28.out.mod Cx35.out (by intro k h1 h2; rcases h1 with h1 | h1 <;> first | omega | (have hb := HBT.out k h1; omega))).mod Cx42.out (by intro k h1 h2; rcases h1 with h1 | h1 <;> first | omega | (have hb := HBT.out k h1; omega))).mod Cx47.out (by intro k h1 h2; rcases h1 with h1 | h1 <;> first | omega | (have hb := HBT.out k h1; omega))).mod Cx50.out (by intro k h1 h2; rcases h1 with h1 | h1 <;> first | omega | (have hb := HBT.out k h1; omega))).widen (by intro k h1; rcases h1 with h1 | h1 <;> first | exact Or.inl h1 | (right; omega)), ((((Hx29.out.mod Cx35.out (by intro k h1 h2; rcases h1 with h1 | h1 <;> first | omega | (have hb := HBT.out k h1; omega))).mod Cx42.out (by intro k h1 h2; rcases h1 with h1 | h1 <;> first | omega | (have hb := HBT.out k h1; omega))).mod Cx47.out (by intro k h1 h2; rcases h1 with h1 | h1 <;> first | omega | (have hb := HBT.out k h1; omega))).mod Cx50.out (by intro k h1 h2; rcases h1 with h1 | h1 <;> first | omega | (have hb := HBT.out k h1; omega))).widen (by intro k h1; rcases h1 with h1 | h1 <;> first | exact Or.inl h1 | (right; omega))⟩, ⟨_, rfl, HOO.out, RdR_len ((Hx48.out.mod Cx50.out (by intro k h1 h2; omega)).rd.widen (by intro k h1; (try dsimp only at h1 ⊢); right; omega) (Nat.le_refl _))⟩, ⟨_, _, _, _, rfl, HOD.out, (((Hx36.out.mod Cx42.out (by intro k h1 h2; rcases h1 with h1 | h1 <;> first | omega | (have hb := HBT.out k h1; omega))).mod Cx47.out (by intro k h1 h2; rcases h1 with h1 | h1 <;> first | omega | (have hb := HBT.out k h1; omega))).mod Cx50.out (by intro k h1 h2; rcases h1 with h1 | h1 <;> first | omega | (have hb := HBT.out k h1; omega))).widen (by intro k h1; rcases h1 with h1 | h1 <;> first | exact Or.inl h1 | (right; omega)), (((Hx37.out.mod Cx42.out (by intro k h1 h2; rcases h1 with h1 | h1 <;> first | omega | (have hb := HBT.out k h1; omega))).mod Cx47.out (by intro k h1 h2; rcases h1 with h1 | h1 <;> first | omega | (have hb := HBT.out k h1; omega))).mod Cx50.out (by intro k h1 h2; rcases h1 with h1 | h1 <;> first | omega | (have hb := HBT.out k h1; omega))).widen (by intro k h1; rcases h1 with h1 | h1 <;> first | exact Or.inl h1 | (right; omega)), (((Hx38.out.mod Cx42.out (by intro k h1 h2; rcases h1 with h1 | h1 <;> first | omega | (have hb := HBT.out k h1; omega))).mod Cx47.out (by intro k h1 h2; rcases h1 with h1 | h1 <;> first | omega | (have hb := HBT.out k h1; omega))).mod Cx50.out (by intro k h1 h2; rcases h1 with h1 | h1 <;> first | omega | (have hb := HBT.out k h1; omega))).widen (by intro k h1; rcases h1 with h1 | h1 <;> first | exact Or.inl h1 | (right; omega)), ((Hx43.out.mod Cx47.out (by intro k h1 h2; omega) (sB HBT)).mod Cx50.out (by intro k h1 h2; omega) (sB HBT)).rd.widen (by intro k h1; (try dsimp only at h1 ⊢); rcases h1 with h1 | h1 <;> first | exact Or.inl h1 | (right; omega))⟩⟩)
  have HON := hid (MgR.one HRM.out)
  clear Hx15
  clear Hx20
  clear Hx27
  clear Hx28
  clear Hx29
  clear Hx36
  clear Hx37
  clear Hx38
  clear Hx43
  clear Hx48
  go_upto_region 11 with (fail)
  refine wp_region_U 50 [49, 51] [0, 1] (fun a0 HA0 => ?_)
  have oe1 := ev HA0 1 rfl
  have oe2 := ev HA0 2 rfl
  refine QSeq.pure rfl _ (fun E => ex_loadA rfl Try.underlying67 rfl (off := 0) (cs := ((Mg.segs ({ x with rp := x.rp.extract 0 100 } : Mg) cn5 cn10 (x.pr.cells e_ps e_os e_ts) (x.op.cells (Value.slice ao_o (x.op.pl.take 100).length cap_o)) (x.dc.cells f_ps f_os f_ts (Value.slice ao_v (x.dc.l.take 6).length cap_v))).flatten)) (by rw [HSZ.out]; kernel_rfl) (E.v oe1) (Cs.whole Hx49.out)) ?_
  refine QSeq.go fun act E => ?_
  refine qc_store rfl (wanted_none rfl) rfl (((((((HB2.out.mod Cx14.out (by intro h2; omega)).mod Cx19.out (by intro h2; omega)).mod Cx26.out (by intro h2; omega)).mod Cx35.out (by intro h2; omega)).mod Cx42.out (by intro h2; omega)).mod Cx47.out (by intro h2; omega)).mod Cx50.out (by intro h2; omega)) (off := 0) (vs := ((Mg.segs ({ x with rp := x.rp.extract 0 100 } : Mg) cn5 cn10 (x.pr.cells e_ps e_os e_ts) (x.op.cells (Value.slice ao_o (x.op.pl.take 100).length cap_o)) (x.dc.cells f_ps f_os f_ts (Value.slice ao_v (x.dc.l.take 6).length cap_v))).flatten)) (by rw [HSZ.out]; kernel_rfl) HON.out (by rw [HSZ.out]; show 0 + 295 ≤ 295; decide) (E.v oe2) (ec (E.d 0 0)) ?_
  intro u11_1 qc0 hm
  have qB2 := qc0.eqv (b := (((Mg.segs ({ x with rp := x.rp.extract 0 100 } : Mg) cn5 cn10 (x.pr.cells e_ps e_os e_ts) (x.op.cells (Value.slice ao_o (x.op.pl.take 100).length cap_o)) (x.dc.cells f_ps f_os f_ts (Value.slice ao_v (x.dc.l.take 6).length cap_v))).flatten) : List Value).toArray) (lay_whole _ _ (by rw [HSZ.out]; rfl))
  clear qc0
  have Hx55 := hid qB2
  have zu11_1 := hm.size
  have Cx56 := hid (show Mod (fun k => (k = w.heap.size + 1)) u8_4 u11_1 from hm)
  clear hm
  clear act E qB2 HB2
  refine QSeq.nil (t' := [_, _]) rfl ?_
  obtain rfl := HA0.out
  clear HA0 oe1 oe2
  simp only [pz, Act.put, sIB, sCZ, sCS, List.set_nil]
  go_wp2
  exact bodyPost_ret (results_cellA rfl _ _ (w.heap.size + 1) ((Mg.segs ({ x with rp := x.rp.extract 0 100 } : Mg) cn5 cn10 (x.pr.cells e_ps e_os e_ts) (x.op.cells (Value.slice ao_o (x.op.pl.take 100).length cap_o)) (x.dc.cells f_ps f_os f_ts (Value.slice ao_v (x.dc.l.take 6).length cap_v))).flatten) rfl (fun k u hu => by rw [Hx55.out.cell]; simpa using hu) Try.underlying67 rfl (by rw [HSZ.out]; kernel_rfl)) rfl ⟨_, rfl, (HRM.out.mod Cx56.out (by intro k h1 h2; rcases h1 with h1 | h1 <;> first | omega | (have hb := HBT.out k h1; omega))).widen (by intro k h1; rcases h1 with h1 | h1 <;> first | exact Or.inl h1 | (right; omega)), ((((((((HM0.out.trans Cx14.out (by intro k h1 h2; omega)).trans Cx19.out (by intro k h1 h2; omega)).trans Cx26.out (by intro k h1 h2; omega)).trans Cx35.out (by intro k h1 h2; omega)).trans Cx42.out (by intro k h1 h2; omega)).trans Cx47.out (by intro k h1 h2; omega)).trans Cx50.out (by intro k h1 h2; omega)).trans Cx56.out (by intro k h1 h2; omega))⟩
 go_upto_region 7 with (fail)
 refine wp_region_U 50 [35, 36, 37, 38] [0, 1, 2, 3] (fun a0 HA0 => ?_)
 have oe1 := ev HA0 1 rfl
 refine QSeq.pure rfl (.pointer (some ⟨w.heap.size, 286, none⟩)) (fun E => ex_field rfl Try.underlying67 rfl (by kernel_rfl) (E.v oe1)) ?_
 refine QSeq.pure rfl (.string x.rp) (fun E => ex_load1 rfl Try.underlying9 rfl (E.d 0 0) (Cs.seg1 Hx46.out (Mg.lens HOK.out HLn5.out HLn10.out rfl (show (x.op.cells (Value.slice ao_o (x.op.pl.take 100).length cap_o)).length = 34 from HC15.out) rfl) 17 rfl (o := 286) (k := 0) rfl rfl rfl)) ?_
 refine QSeq.pure rfl (.int .i64 ((x.rp.size : Nat) : Int)) (fun E => ex_lenStr rfl (E.d 1 0) Try.underlying9) ?_
 refine QSeq.pure rfl (.bool false) (fun E => ex_binE rfl (E.d 2 0) rfl (guard_ints _ _ _ _ _ _) (run_gtr_i _ _ _ Try.underlying3) (congrArg Value.bool (decide_eq_false (by omega)))) ?_
 refine QSeq.nil (t' := [_, _, _, _]) rfl ?_
 obtain rfl := HA0.out
 clear HA0 oe1
 simp only [pz, Act.put, sIB, sCZ, sCS]
 by_cases hv : x.pr.vl = 9223372036854775807
 ·have HV := Lib.hid hv
  clear hv
  go_upto_region 9 with (fail)
  refine wp_region_U 50 [43, 44, 45, 46] [0, 1, 2, 3] (fun a0 HA0 => ?_)
  have oe1 := ev HA0 1 rfl
  refine QSeq.pure rfl (.pointer (some ⟨w.heap.size, 163, none⟩)) (fun E => ex_field rfl Try.underlying67 rfl (by kernel_rfl) (E.v oe1)) ?_
  refine QSeq.pure rfl (.pointer (some ⟨w.heap.size, 165, none⟩)) (fun E => ex_field rfl Try.underlying53 rfl (by kernel_rfl) (E.d 0 0)) ?_
  refine QSeq.pure rfl (.int .i64 x.pr.vl) (fun E => ex_load1 rfl Try.underlying3 rfl (E.d 1 0) (Cs.seg1 Hx46.out (Mg.lens HOK.out HLn5.out HLn10.out rfl (show (x.op.cells (Value.slice ao_o (x.op.pl.take 100).length cap_o)).length = 34 from HC15.out) rfl) 11 rfl (o := 163) (k := 2) rfl rfl rfl)) ?_
  refine QSeq.pure rfl (.bool true) (fun E => ex_binE rfl (E.d 2 0) rfl (guard_ints _ _ _ _ _ _) (run_eql_i _ _ _ Try.underlying3) (congrArg Value.bool (eq_tt HV.out))) ?_
  refine QSeq.nil (t' := [_, _, _, _]) rfl ?_
  obtain rfl := HA0.out
  clear HA0 oe1
  simp only [pz, Act.put, sIB, sCZ, sCS]
  go_upto_region 10 with (fail)
  refine wp_region_U 50 [47, 48, 52] [0, 1, 2] (fun a0 HA0 => ?_)
  have oe1 := ev HA0 1 rfl
  refine QSeq.pure rfl (.pointer (some ⟨w.heap.size, 163, none⟩)) (fun E => ex_field rfl Try.underlying67 rfl (by kernel_rfl) (E.v oe1)) ?_
  refine QSeq.pure rfl (.pointer (some ⟨w.heap.size, 165, none⟩)) (fun E => ex_field rfl Try.underlying53 rfl (by kernel_rfl) (E.d 0 0)) ?_
  refine QSeq.go fun act E => ?_
  refine qc_store rfl (wanted_none rfl) rfl Hx46.out (off := 165) (vs := [.int .i64 (-1)]) (by kernel_rfl) one1 (by rw [List.size_toArray, flat_sum, (show (Mg.segs x cn5 cn10 (x.pr.cells e_ps e_os e_ts) (x.op.cells (Value.slice ao_o (x.op.pl.take 100).length cap_o)) (x.dc.cells f_ps f_os f_ts (Value.slice ao_v (x.dc.l.take 6).length cap_v))).map List.length = mgN from (Mg.lens HOK.out HLn5.out HLn10.out rfl (show (x.op.cells (Value.slice ao_o (x.op.pl.take 100).length cap_o)).length = 34 from HC15.out) rfl))]; show 165 + 1 ≤ 295; decide) (E.d 1 0) (ec rfl) ?_
  intro u10_2 qc0 hm
  have qB1 := qc0.eqv (b := ((Mg.segs x cn5 cn10 (Pr.cells { x.pr with vl := -1 } e_ps e_os e_ts) (x.op.cells (Value.slice ao_o (x.op.pl.take 100).length cap_o)) (x.dc.cells f_ps f_os f_ts (Value.slice ao_v (x.dc.l.take 6).length cap_v))).flatten : List Value).toArray) ((lay_sub (show (Mg.segs x cn5 cn10 (x.pr.cells e_ps e_os e_ts) (x.op.cells (Value.slice ao_o (x.op.pl.take 100).length cap_o)) (x.dc.cells f_ps f_os f_ts (Value.slice ao_v (x.dc.l.take 6).length cap_v))).map List.length = mgN from (Mg.lens HOK.out HLn5.out HLn10.out rfl (show (x.op.cells (Value.slice ao_o (x.op.pl.take 100).length cap_o)).length = 34 from HC15.out) rfl)) 11 rfl (o := 163) (k := 2) (n := 1) rfl rfl rfl (by show 2 + 1 ≤ 11; decide)).trans rfl)
  clear qc0
  have Hx57 := hid qB1
  have zu10_2 := hm.size
  have Cx58 := hid (show Mod (fun k => (k = w.heap.size)) u6_6 u10_2 from hm)
  clear hm
  clear act E qB1 Hx46
  refine QSeq.nil (t' := [_, _, _]) rfl ?_
  obtain rfl := HA0.out
  clear HA0 oe1
  simp only [pz, Act.put, sIB, sCZ, sCS, List.set_nil]
  have HSZ := hid (show ((Mg.segs x cn5 cn10 (Pr.cells { x.pr with vl := -1 } e_ps e_os e_ts) (x.op.cells (Value.slice ao_o (x.op.pl.take 100).length cap_o)) (x.dc.cells f_ps f_os f_ts (Value.slice ao_v (x.dc.l.take 6).length cap_v))).flatten).length = 295 by rw [flat_sum, show (Mg.segs x cn5 cn10 (Pr.cells { x.pr with vl := -1 } e_ps e_os e_ts) (x.op.cells (Value.slice ao_o (x.op.pl.take 100).length cap_o)) (x.dc.cells f_ps f_os f_ts (Value.slice ao_v (x.dc.l.take 6).length cap_v))).map List.length = mgN from (Mg.lens HOK.out HLn5.out HLn10.out rfl (show (x.op.cells (Value.slice ao_o (x.op.pl.take 100).length cap_o)).length = 34 from HC15.out) rfl)]; rfl)
  have HES := hid (show smallP x = { x with ce := pcCe x.ce, pm := pcPm x.pm, pr := { x.pr with ba := pcBa x.pr.ba, vl := -1 }, op := { x.op with pl := x.op.pl.take 100 }, dc := { x.dc with ba := pcBa x.dc.ba, l := x.dc.l.take 6 } } by unfold smallP; rw [show pcRp x.rp = x.rp from if_neg hn, show pcVl x.pr.vl = -1 from if_pos HV.out])
  have HRM := hid (show MgR.rd (fun k => (R2 k) ∨ (New w1 u10_2 k)) u10_2 ((Mg.segs x cn5 cn10 (Pr.cells { x.pr with vl := -1 } e_ps e_os e_ts) (x.op.cells (Value.slice ao_o (x.op.pl.take 100).length cap_o)) (x.dc.cells f_ps f_os f_ts (Value.slice ao_v (x.dc.l.take 6).length cap_v))).flatten) (smallP x) from HES.out ▸ ⟨_, _, _, _, _, rfl, { HOK.out with }, ((((((Hx15.out.mod Cx19.out (by intro k h1 h2; rcases h1 with h1 | h1 <;> first | omega | (have hb := HBT.out k h1; omega))).mod Cx26.out (by intro k h1 h2; rcases h1 with h1 | h1 <;> first | omega | (have hb := HBT.out k h1; omega))).mod Cx35.out (by intro k h1 h2; rcases h1 with h1 | h1 <;> first | omega | (have hb := HBT.out k h1; omega))).mod Cx42.out (by intro k h1 h2; rcases h1 with h1 | h1 <;> first | omega | (have hb := HBT.out k h1; omega))).mod Cx47.out (by intro k h1 h2; rcases h1 with h1 | h1 <;> first | omega | (have hb := HBT.out k h1; omega))).mod Cx58.out (by intro k h1 h2; rcases h1 with h1 | h1 <;> first | omega | (have hb := HBT.out k h1; omega))).widen (by intro k h1; rcases h1 with h1 | h1 <;> first | exact Or.inl h1 | (right; omega)), (((((Hx20.out.mod Cx26.out (by intro k h1 h2; rcases h1 with h1 | h1 <;> first | omega | (have hb := HBT.out k h1; omega))).mod Cx35.out (by intro k h1 h2; rcases h1 with h1 | h1 <;> first | omega | (have hb := HBT.out k h1; omega))).mod Cx42.out (by intro k h1 h2; rcases h1 with h1 | h1 <;> first | omega | (have hb := HBT.out k h1; omega))).mod Cx47.out (by intro k h1 h2; rcases h1 with h1 | h1 <;> first | omega | (have hb := HBT.out k h1; omega))).mod Cx58.out (by intro k h1 h2; rcases h1 with h1 | h1 <;> first | omega | (have hb := HBT.out k h1; omega))).widen (by intro k h1; rcases h1 with h1 | h1 <;> first | exact Or.inl h1 | (right; omega)), ⟨_, _, _, rfl, ⟨HOP.out.1, HOP.out.2.1, I64_m1, HOP.out.2.2.2⟩, ((((Hx27.out.mod Cx35.out (by intro k h1 h2; rcases h1 with h1 | h1 <;> first | omega | (have hb := HBT.out k h1; omega))).mod Cx42.out (by intro k h1 h2; rcases h1 with h1 | h1 <;> first | omega | (have hb := HBT.out k h1; omega))).mod Cx47.out (by intro k h1 h2; rcases h1 with h1 | h1 <;> first | omega | (have hb := HBT.out k h1; omega))).mod Cx58.out (by intro k h1 h2; rcases h1 with h1 | h1 <;> first | omega | (have hb := HBT.out k h1; omega))).widen (by intro k h1; rcases h1 with h1 | h1 <;> first | exact Or.inl h1 | (right; omega)), ((((Hx28.out.mod Cx35.out (by intro k h1 h2; rcases h1 with h1 | h1 <;> first | omega | (have hb := HBT.out k h1; omega))).mod Cx42.out (by intro k h1 h2; rcases h1 with h1 | h1 <;> first | omega | (have hb := HBT.out k h1; omega))).mod Cx47.out (by intro k h1 h2; rcases h1 with h1 | h1 <;> first | omega | (have hb := HBT.out k h1; omega))).mod Cx58.out (by intro k h1 h2; rcases h1 with h1 | h1 <;> first | omega | (have hb := HBT.out k h1; omega))).widen (by intro k h1; rcases h1 with h1 | h1 <;> first | exact Or.inl h1 | (right; omega)), ((((Hx29.out.mod Cx35.out (by intro k h1 h2; rcases h1 with h1 | h1 <;> first | omega | (have hb := HBT.out k h1; omega))).mod Cx42.out (by intro k h1 h2; rcases h1 with h1 | h1 <;> first | omega | (have hb := HBT.out k h1; omega))).mod Cx47.out (by intro k h1 h2; rcases h1 with h1 | h1 <;> first | omega | (have hb := HBT.out k h1; omega))).mod Cx58.out (by intro k h1 h2; rcases h1 with h1 | h1 <;> first | omega | (have hb := HBT.out k h1; omega))).widen (by intro k h1; rcases h1 with h1 | h1 <;> first | exact Or.inl h1 | (right; omega))⟩, ⟨_, rfl, HOO.out, RdR_len ((Hx48.out.mod Cx58.out (by intro k h1 h2; omega)).rd.widen (by intro k h1; (try dsimp only at h1 ⊢); right; omega) (Nat.le_refl _))⟩, ⟨_, _, _, _, rfl, HOD.out, (((Hx36.out.mod Cx42.out (by intro k h1 h2; rcases h1 with h1 | h1 <;> first | omega | (have hb := HBT.out k h1; omega))).mod Cx47.out (by intro k h1 h2; rcases h1 with h1 | h1 <;> first | omega | (have hb := HBT.out k h1; omega))).mod Cx58.out (by intro k h1 h2; rcases h1 with h1 | h1 <;> first | omega | (have hb := HBT.out k h1; omega))).widen (by intro k h1; rcases h1 with h1 | h1 <;> first | exact Or.inl h1 | (right; omega)), (((Hx37.out.mod Cx42.out (by intro k h1 h2; rcases h1 with h1 | h1 <;> first | omega | (have hb := HBT.out k h1; omega))).mod Cx47.out (by intro k h1 h2; rcases h1 with h1 | h1 <;> first | omega | (have hb := HBT.out k h1; omega))).mod Cx58.out (by intro k h1 h2; rcases h1 with h1 | h1 <;> first | omega | (have hb := HBT.out k h1; omega))).widen (by intro k h1; rcases h1 with h1 | h1 <;> first | exact Or.inl h1 | (right; omega)), (((Hx38.out.mod Cx42.out (by intro k h1 h2; rcases h1 with h1 | h1 <;> first | omega | (have hb := HBT.out k h1; omega))).mod Cx47.out (by intro k h1 h2; rcases h1 with h1 | h1 <;> first | omega | (have hb := HBT.out k h1; omega))).mod Cx58.out (by intro k h1 h2; rcases h1 with h1 | h1 <;> first | omega | (have hb := HBT.out k h1; omega))).widen (by intro k h1; rcases h1 with h1 | h1 <;> first | exact Or.inl h1 | (right; omega)), ((Hx43.out.mod Cx47.out (by intro k h1 h2; omega) (sB HBT)).mod Cx58.out (by intro k h1 h2; omega) (sB HBT)).rd.widen (by intro k h1; (try dsimp only at h1 ⊢); rcases h1 with h1 | h1 <;> first | exact Or.inl h1 | (right; omega))⟩⟩)
  have HON := hid (MgR.one HRM.out)
  clear Hx15
  clear Hx20
  clear Hx27
  clear Hx28
  clear Hx29
  clear Hx36
  clear Hx37
  clear Hx38
  clear Hx43
  clear Hx48
  go_upto_region 11 with (fail)
  refine wp_region_U 50 [49, 51] [0, 1] (fun a0 HA0 => ?_)
  have oe1 := ev HA0 1 rfl
  have oe2 := ev HA0 2 rfl
  refine QSeq.pure rfl _ (fun E => ex_loadA rfl Try.underlying67 rfl (off := 0) (cs := ((Mg.segs x cn5 cn10 (Pr.cells { x.pr with vl := -1 } e_ps e_os e_ts) (x.op.cells (Value.slice ao_o (x.op.pl.take 100).length cap_o)) (x.dc.cells f_ps f_os f_ts (Value.slice ao_v (x.dc.l.take 6).length cap_v))).flatten)) (by rw [HSZ.out]; kernel_rfl) (E.v oe1) (Cs.whole Hx57.out)) ?_
  refine QSeq.go fun act E => ?_
  refine qc_store rfl (wanted_none rfl) rfl (((((((HB2.out.mod Cx14.out (by intro h2; omega)).mod Cx19.out (by intro h2; omega)).mod Cx26.out (by intro h2; omega)).mod Cx35.out (by intro h2; omega)).mod Cx42.out (by intro h2; omega)).mod Cx47.out (by intro h2; omega)).mod Cx58.out (by intro h2; omega)) (off := 0) (vs := ((Mg.segs x cn5 cn10 (Pr.cells { x.pr with vl := -1 } e_ps e_os e_ts) (x.op.cells (Value.slice ao_o (x.op.pl.take 100).length cap_o)) (x.dc.cells f_ps f_os f_ts (Value.slice ao_v (x.dc.l.take 6).length cap_v))).flatten)) (by rw [HSZ.out]; kernel_rfl) HON.out (by rw [HSZ.out]; show 0 + 295 ≤ 295; decide) (E.v oe2) (ec (E.d 0 0)) ?_
  intro u11_1 qc0 hm
  have qB2 := qc0.eqv (b := (((Mg.segs x cn5 cn10 (Pr.cells { x.pr with vl := -1 } e_ps e_os e_ts) (x.op.cells (Value.slice ao_o (x.op.pl.take 100).length cap_o)) (x.dc.cells f_ps f_os f_ts (Value.slice ao_v (x.dc.l.take 6).length cap_v))).flatten) : List Value).toArray) (lay_whole _ _ (by rw [HSZ.out]; rfl))
  clear qc0
  have Hx59 := hid qB2
  have zu11_1 := hm.size
  have Cx60 := hid (show Mod (fun k => (k = w.heap.size + 1)) u10_2 u11_1 from hm)
  clear hm
  clear act E qB2 HB2
  refine QSeq.nil (t' := [_, _]) rfl ?_
  obtain rfl := HA0.out
  clear HA0 oe1 oe2
  simp only [pz, Act.put, sIB, sCZ, sCS, List.set_nil]
  go_wp2
  exact bodyPost_ret (results_cellA rfl _ _ (w.heap.size + 1) ((Mg.segs x cn5 cn10 (Pr.cells { x.pr with vl := -1 } e_ps e_os e_ts) (x.op.cells (Value.slice ao_o (x.op.pl.take 100).length cap_o)) (x.dc.cells f_ps f_os f_ts (Value.slice ao_v (x.dc.l.take 6).length cap_v))).flatten) rfl (fun k u hu => by rw [Hx59.out.cell]; simpa using hu) Try.underlying67 rfl (by rw [HSZ.out]; kernel_rfl)) rfl ⟨_, rfl, (HRM.out.mod Cx60.out (by intro k h1 h2; rcases h1 with h1 | h1 <;> first | omega | (have hb := HBT.out k h1; omega))).widen (by intro k h1; rcases h1 with h1 | h1 <;> first | exact Or.inl h1 | (right; omega)), ((((((((HM0.out.trans Cx14.out (by intro k h1 h2; omega)).trans Cx19.out (by intro k h1 h2; omega)).trans Cx26.out (by intro k h1 h2; omega)).trans Cx35.out (by intro k h1 h2; omega)).trans Cx42.out (by intro k h1 h2; omega)).trans Cx47.out (by intro k h1 h2; omega)).trans Cx58.out (by intro k h1 h2; omega)).trans Cx60.out (by intro k h1 h2; omega))⟩
 have HV := Lib.hid hv
 clear hv
 go_upto_region 9 with (fail)
 refine wp_region_U 50 [43, 44, 45, 46] [0, 1, 2, 3] (fun a0 HA0 => ?_)
 have oe1 := ev HA0 1 rfl
 refine QSeq.pure rfl (.pointer (some ⟨w.heap.size, 163, none⟩)) (fun E => ex_field rfl Try.underlying67 rfl (by kernel_rfl) (E.v oe1)) ?_
 refine QSeq.pure rfl (.pointer (some ⟨w.heap.size, 165, none⟩)) (fun E => ex_field rfl Try.underlying53 rfl (by kernel_rfl) (E.d 0 0)) ?_
 refine QSeq.pure rfl (.int .i64 x.pr.vl) (fun E => ex_load1 rfl Try.underlying3 rfl (E.d 1 0) (Cs.seg1 Hx46.out (Mg.lens HOK.out HLn5.out HLn10.out rfl (show (x.op.cells (Value.slice ao_o (x.op.pl.take 100).length cap_o)).length = 34 from HC15.out) rfl) 11 rfl (o := 163) (k := 2) rfl rfl rfl)) ?_
 refine QSeq.pure rfl (.bool false) (fun E => ex_binE rfl (E.d 2 0) rfl (guard_ints _ _ _ _ _ _) (run_eql_i _ _ _ Try.underlying3) (congrArg Value.bool (eq_ff HV.out))) ?_
 refine QSeq.nil (t' := [_, _, _, _]) rfl ?_
 obtain rfl := HA0.out
 clear HA0 oe1
 simp only [pz, Act.put, sIB, sCZ, sCS]
 have HSZ := hid (show ((Mg.segs x cn5 cn10 (x.pr.cells e_ps e_os e_ts) (x.op.cells (Value.slice ao_o (x.op.pl.take 100).length cap_o)) (x.dc.cells f_ps f_os f_ts (Value.slice ao_v (x.dc.l.take 6).length cap_v))).flatten).length = 295 by rw [flat_sum, show (Mg.segs x cn5 cn10 (x.pr.cells e_ps e_os e_ts) (x.op.cells (Value.slice ao_o (x.op.pl.take 100).length cap_o)) (x.dc.cells f_ps f_os f_ts (Value.slice ao_v (x.dc.l.take 6).length cap_v))).map List.length = mgN from (Mg.lens HOK.out HLn5.out HLn10.out rfl (show (x.op.cells (Value.slice ao_o (x.op.pl.take 100).length cap_o)).length = 34 from HC15.out) rfl)]; rfl)
 have HES := hid (show smallP x = { x with ce := pcCe x.ce, pm := pcPm x.pm, pr := { x.pr with ba := pcBa x.pr.ba, vl := x.pr.vl }, op := { x.op with pl := x.op.pl.take 100 }, dc := { x.dc with ba := pcBa x.dc.ba, l := x.dc.l.take 6 } } by unfold smallP; rw [show pcRp x.rp = x.rp from if_neg hn, show pcVl x.pr.vl = x.pr.vl from if_neg HV.out])
 have HRM := hid (show MgR.rd (fun k => (R2 k) ∨ (New w1 u6_6 k)) u6_6 ((Mg.segs x cn5 cn10 (x.pr.cells e_ps e_os e_ts) (x.op.cells (Value.slice ao_o (x.op.pl.take 100).length cap_o)) (x.dc.cells f_ps f_os f_ts (Value.slice ao_v (x.dc.l.take 6).length cap_v))).flatten) (smallP x) from HES.out ▸ ⟨_, _, _, _, _, rfl, { HOK.out with }, (((((Hx15.out.mod Cx19.out (by intro k h1 h2; rcases h1 with h1 | h1 <;> first | omega | (have hb := HBT.out k h1; omega))).mod Cx26.out (by intro k h1 h2; rcases h1 with h1 | h1 <;> first | omega | (have hb := HBT.out k h1; omega))).mod Cx35.out (by intro k h1 h2; rcases h1 with h1 | h1 <;> first | omega | (have hb := HBT.out k h1; omega))).mod Cx42.out (by intro k h1 h2; rcases h1 with h1 | h1 <;> first | omega | (have hb := HBT.out k h1; omega))).mod Cx47.out (by intro k h1 h2; rcases h1 with h1 | h1 <;> first | omega | (have hb := HBT.out k h1; omega))).widen (by intro k h1; rcases h1 with h1 | h1 <;> first | exact Or.inl h1 | (right; omega)), ((((Hx20.out.mod Cx26.out (by intro k h1 h2; rcases h1 with h1 | h1 <;> first | omega | (have hb := HBT.out k h1; omega))).mod Cx35.out (by intro k h1 h2; rcases h1 with h1 | h1 <;> first | omega | (have hb := HBT.out k h1; omega))).mod Cx42.out (by intro k h1 h2; rcases h1 with h1 | h1 <;> first | omega | (have hb := HBT.out k h1; omega))).mod Cx47.out (by intro k h1 h2; rcases h1 with h1 | h1 <;> first | omega | (have hb := HBT.out k h1; omega))).widen (by intro k h1; rcases h1 with h1 | h1 <;> first | exact Or.inl h1 | (right; omega)), ⟨_, _, _, rfl, HOP.out, (((Hx27.out.mod Cx35.out (by intro k h1 h2; rcases h1 with h1 | h1 <;> first | omega | (have hb := HBT.out k h1; omega))).mod Cx42.out (by intro k h1 h2; rcases h1 with h1 | h1 <;> first | omega | (have hb := HBT.out k h1; omega))).mod Cx47.out (by intro k h1 h2; rcases h1 with h1 | h1 <;> first | omega | (have hb := HBT.out k h1; omega))).widen (by intro k h1; rcases h1 with h1 | h1 <;> first | exact Or.inl h1 | (right; omega)), (((Hx28.out.mod Cx35.out (by intro k h1 h2; rcases h1 with h1 | h1 <;> first | omega | (have hb := HBT.out k h1; omega))).mod Cx42.out (by intro k h1 h2; rcases h1 with h1 | h1 <;> first | omega | (have hb := HBT.out k h1; omega))).mod Cx47.out (by intro k h1 h2; rcases h1 with h1 | h1 <;> first | omega | (have hb := HBT.out k h1; omega))).widen (by intro k h1; rcases h1 with h1 | h1 <;> first | exact Or.inl h1 | (right; omega)), (((Hx29.out.mod Cx35.out (by intro k h1 h2; rcases h1 with h1 | h1 <;> first | omega | (have hb := HBT.out k h1; omega))).mod Cx42.out (by intro k h1 h2; rcases h1 with h1 | h1 <;> first | omega | (have hb := HBT.out k h1; omega))).mod Cx47.out (by intro k h1 h2; rcases h1 with h1 | h1 <;> first | omega | (have hb := HBT.out k h1; omega))).widen (by intro k h1; rcases h1 with h1 | h1 <;> first | exact Or.inl h1 | (right; omega))⟩, ⟨_, rfl, HOO.out, RdR_len (Hx48.out.rd.widen (by intro k h1; (try dsimp only at h1 ⊢); right; omega) (Nat.le_refl _))⟩, ⟨_, _, _, _, rfl, HOD.out, ((Hx36.out.mod Cx42.out (by intro k h1 h2; rcases h1 with h1 | h1 <;> first | omega | (have hb := HBT.out k h1; omega))).mod Cx47.out (by intro k h1 h2; rcases h1 with h1 | h1 <;> first | omega | (have hb := HBT.out k h1; omega))).widen (by intro k h1; rcases h1 with h1 | h1 <;> first | exact Or.inl h1 | (right; omega)), ((Hx37.out.mod Cx42.out (by intro k h1 h2; rcases h1 with h1 | h1 <;> first | omega | (have hb := HBT.out k h1; omega))).mod Cx47.out (by intro k h1 h2; rcases h1 with h1 | h1 <;> first | omega | (have hb := HBT.out k h1; omega))).widen (by intro k h1; rcases h1 with h1 | h1 <;> first | exact Or.inl h1 | (right; omega)), ((Hx38.out.mod Cx42.out (by intro k h1 h2; rcases h1 with h1 | h1 <;> first | omega | (have hb := HBT.out k h1; omega))).mod Cx47.out (by intro k h1 h2; rcases h1 with h1 | h1 <;> first | omega | (have hb := HBT.out k h1; omega))).widen (by intro k h1; rcases h1 with h1 | h1 <;> first | exact Or.inl h1 | (right; omega)), (Hx43.out.mod Cx47.out (by intro k h1 h2; omega) (sB HBT)).rd.widen (by intro k h1; (try dsimp only at h1 ⊢); rcases h1 with h1 | h1 <;> first | exact Or.inl h1 | (right; omega))⟩⟩)
 have HON := hid (MgR.one HRM.out)
 clear Hx15
 clear Hx20
 clear Hx27
 clear Hx28
 clear Hx29
 clear Hx36
 clear Hx37
 clear Hx38
 clear Hx43
 clear Hx48
 go_upto_region 11 with (fail)
 refine wp_region_U 50 [49, 51] [0, 1] (fun a0 HA0 => ?_)
 have oe1 := ev HA0 1 rfl
 have oe2 := ev HA0 2 rfl
 refine QSeq.pure rfl _ (fun E => ex_loadA rfl Try.underlying67 rfl (off := 0) (cs := ((Mg.segs x cn5 cn10 (x.pr.cells e_ps e_os e_ts) (x.op.cells (Value.slice ao_o (x.op.pl.take 100).length cap_o)) (x.dc.cells f_ps f_os f_ts (Value.slice ao_v (x.dc.l.take 6).length cap_v))).flatten)) (by rw [HSZ.out]; kernel_rfl) (E.v oe1) (Cs.whole Hx46.out)) ?_
 refine QSeq.go fun act E => ?_
 refine qc_store rfl (wanted_none rfl) rfl ((((((HB2.out.mod Cx14.out (by intro h2; omega)).mod Cx19.out (by intro h2; omega)).mod Cx26.out (by intro h2; omega)).mod Cx35.out (by intro h2; omega)).mod Cx42.out (by intro h2; omega)).mod Cx47.out (by intro h2; omega)) (off := 0) (vs := ((Mg.segs x cn5 cn10 (x.pr.cells e_ps e_os e_ts) (x.op.cells (Value.slice ao_o (x.op.pl.take 100).length cap_o)) (x.dc.cells f_ps f_os f_ts (Value.slice ao_v (x.dc.l.take 6).length cap_v))).flatten)) (by rw [HSZ.out]; kernel_rfl) HON.out (by rw [HSZ.out]; show 0 + 295 ≤ 295; decide) (E.v oe2) (ec (E.d 0 0)) ?_
 intro u11_1 qc0 hm
 have qB2 := qc0.eqv (b := (((Mg.segs x cn5 cn10 (x.pr.cells e_ps e_os e_ts) (x.op.cells (Value.slice ao_o (x.op.pl.take 100).length cap_o)) (x.dc.cells f_ps f_os f_ts (Value.slice ao_v (x.dc.l.take 6).length cap_v))).flatten) : List Value).toArray) (lay_whole _ _ (by rw [HSZ.out]; rfl))
 clear qc0
 have Hx61 := hid qB2
 have zu11_1 := hm.size
 have Cx62 := hid (show Mod (fun k => (k = w.heap.size + 1)) u6_6 u11_1 from hm)
 clear hm
 clear act E qB2 HB2
 refine QSeq.nil (t' := [_, _]) rfl ?_
 obtain rfl := HA0.out
 clear HA0 oe1 oe2
 simp only [pz, Act.put, sIB, sCZ, sCS, List.set_nil]
 go_wp2
 exact bodyPost_ret (results_cellA rfl _ _ (w.heap.size + 1) ((Mg.segs x cn5 cn10 (x.pr.cells e_ps e_os e_ts) (x.op.cells (Value.slice ao_o (x.op.pl.take 100).length cap_o)) (x.dc.cells f_ps f_os f_ts (Value.slice ao_v (x.dc.l.take 6).length cap_v))).flatten) rfl (fun k u hu => by rw [Hx61.out.cell]; simpa using hu) Try.underlying67 rfl (by rw [HSZ.out]; kernel_rfl)) rfl ⟨_, rfl, (HRM.out.mod Cx62.out (by intro k h1 h2; rcases h1 with h1 | h1 <;> first | omega | (have hb := HBT.out k h1; omega))).widen (by intro k h1; rcases h1 with h1 | h1 <;> first | exact Or.inl h1 | (right; omega)), (((((((HM0.out.trans Cx14.out (by intro k h1 h2; omega)).trans Cx19.out (by intro k h1 h2; omega)).trans Cx26.out (by intro k h1 h2; omega)).trans Cx35.out (by intro k h1 h2; omega)).trans Cx42.out (by intro k h1 h2; omega)).trans Cx47.out (by intro k h1 h2; omega)).trans Cx62.out (by intro k h1 h2; omega))⟩
end Go.Proofs.Ytekbmpjdombedaa

/- The document's own messages on their way; slices whose things lie elsewhere; objects that share what they hold. -/
namespace Go.Gv
open Go Go.RowKit

section
variable {α : Type} {A : Rep α} {e : TypeId} {R E : Nat → Prop} {w w' : World} {v : Value} {l : List α}
/-- a slice of things that is read; what they hold lies in blocks of E -/
def RdT (A : Rep α) (E : Nat → Prop) (w : World) (v : Value) (l : List α) : Prop :=
  ∃ css : List (List Value), css.length = l.length ∧ (∀ (i : Nat) cs a, css[i]? = some cs → l[i]? = some a → A.rd E w cs a) ∧ Rd A.sz w v l.length css.flatten
theorem OwS.rdT (h : OwS A e R E w v l) : RdT A (fun k => E k ∧ v.ownBlock ≠ some k) w v l := by
  obtain ⟨css, h1, h2, h3, h4⟩ := h
  exact ⟨css, h1, h2, Own.rd h3⟩
theorem RdS.rdT (h : RdS A R w v l) : RdT A R w v l := by
  obtain ⟨css, h1, h2, h3, h4⟩ := h
  exact ⟨css, h1, h2, h3⟩
theorem RdT.widen {E' : Nat → Prop} (h : RdT A E w v l) (hs : ∀ k, E k → E' k) : RdT A E' w v l := by
  obtain ⟨css, h1, h2, h3⟩ := h
  exact ⟨css, h1, fun i cs a hi ha => A.wid (h2 i cs a hi ha) hs, h3⟩
theorem RdT.upto {ao : Option Addr} {n cap : Nat} (h : RdT A E w (.slice ao n cap) l) (k : Nat) (hk : k ≤ l.length) : RdT A E w (.slice ao k cap) (l.take k) := by
  obtain ⟨css, h1, h2, h3⟩ := h
  have hs : RdS A (fun _ => True) w (.slice ao n cap) l := ⟨css, h1, fun i cs a hi ha => A.wid (h2 i cs a hi ha) (fun _ _ => trivial), h3, fun _ _ _ => trivial⟩
  have hcl := css_len h1 h2 (fun cs a h => A.len h)
  obtain ⟨hl, ao', cap', e, g1, g2, g3, g4⟩ := h3
  simp only [Value.slice.injEq] at e
  obtain ⟨rfl, rfl, rfl⟩ := e
  have el : (l.take k).length = k := by simp; omega
  have ef : (css.take k).flatten = css.flatten.take (k * A.sz) := by
    have h5 : css.flatten = (css.take k).flatten ++ (css.drop k).flatten := by rw [← List.flatten_append, List.take_append_drop]
    have h6 : (css.take k).flatten.length = k * A.sz := by rw [flat_len (fun x hx => hcl x (List.mem_of_mem_take hx))]; congr 1; simp; omega
    rw [h5, ← h6, List.take_left]
  refine ⟨css.take k, by simp; omega, fun i cs a hi ha => ?_, ?_⟩
  · rw [List.getElem?_take] at hi ha
    split at hi
    · rename_i hik
      rw [if_pos hik] at ha
      exact h2 i cs a hi ha
    · cases hi
  · rw [el, ef]
    refine ⟨?_, ao, cap, rfl, by omega, g2, g3, fun x hx j u hu => g4 x hx j u ?_⟩
    · rw [List.length_take, flat_len hcl, h1]
      exact Nat.min_eq_left (Nat.mul_le_mul_right _ hk)
    · rw [List.getElem?_take] at hu
      split at hu
      · exact hu
      · cases hu
theorem RdT.piece {ao : Option Addr} {n cap : Nat} (h : RdT A E w (.slice ao n cap) l) (k : Nat) (hk : k ≤ l.length) : RdT A E w (slV A.sz ao k l.length cap) (l.drop k) := by
  obtain ⟨css, h1, h2, h3⟩ := h
  have hcl := css_len h1 h2 (fun cs a h => A.len h)
  obtain rfl : n = l.length := by obtain ⟨_, _, _, e, _⟩ := h3; cases e; rfl
  have hc : l.length ≤ cap := by obtain ⟨_, _, _, e, g1, _⟩ := h3; cases e; exact g1
  have hr := h3.sliced k l.length cap hk (Nat.le_refl _) hc (Nat.le_refl _)
  have ef : (css.drop k).flatten = css.flatten.drop (k * A.sz) := by
    have h5 : css.flatten = (css.take k).flatten ++ (css.drop k).flatten := by rw [← List.flatten_append, List.take_append_drop]
    have h6 : (css.take k).flatten.length = k * A.sz := by rw [flat_len (fun x hx => hcl x (List.mem_of_mem_take hx))]; congr 1; simp; omega
    rw [h5, ← h6, List.drop_left' rfl]
  have hlen : (css.drop k).flatten.length = (l.length - k) * A.sz := by rw [flat_len (fun x hx => hcl x (List.mem_of_mem_drop hx)), List.length_drop, h1]
  refine ⟨css.drop k, by simp [h1], fun i cs a hi ha => ?_, ?_⟩
  · rw [List.getElem?_drop] at hi ha
    exact h2 _ cs a hi ha
  · rw [List.length_drop, ef, ← List.take_of_length_le (l := css.flatten.drop (k * A.sz)) (i := (l.length - k) * A.sz) (by rw [← ef, hlen]; exact Nat.le_refl _)]
    exact hr
end
section
variable {P : Program} {ops : Array Oper} {Q : Exit → Act → World → Prop} {i : Nat} {o : Oper} {a : Act} {w w' : World} {KQ : Value → World → Prop} {α : Type} {A : Rep α} {e t : TypeId} {R E E2 : Nat → Prop} {v xv : Value} {l new : List α} {s x : Operand}
/-- things are appended; what they hold lies in E2, apart from the slice's own block -/
theorem qc_appT (ho : ops[i]? = some o) (hw : Region.wanted o (yielded ops a.tmps) = true) (hop : o.op = .call { callee := .builtin .append, args := #[s, x], argTypes := #[t, t] }) (z : Value) (bytes : Nat)
    (ht : P.underlying t = some (.slice e)) (hinfo : (P.info? e).map (fun i => (i.zero, i.size, i.bytes)) = some (some z, A.sz, bytes)) (hzs : z.cells.size = A.sz) (hzE : ∀ u ∈ z.cells.toList, u.oneCell' = true)
    (hs : a.eval s = v) (hx : a.eval x = xv) (hown : OwS A e R E w v l) (hrd : RdT A E2 w xv new) (hd : ∀ k, E2 k → v.ownBlock ≠ some k) (hbytes : (l.length + new.length) * bytes ≤ 140737488355328) (h63 : l.length + new.length ≤ maxLen)
    (h : ∀ ao cap w', OwS A e (fun k => R k ∨ (w.heap.size ≤ k ∧ k < w'.heap.size)) (fun k => E k ∨ E2 k) w' (.slice ao (l.length + new.length) cap) (l ++ new) → Mod R w w' → KQ (.slice ao (l.length + new.length) cap) w') : wpOp P ops Q i (fun a' w' => ∃ v, a' = a.put o.dst v ∧ KQ v w') a w := by
  obtain ⟨i0, hi, hz0, hz1, hz2⟩ := info_parts hinfo
  obtain ⟨css, h1, h3, h4, h5⟩ := hown
  obtain ⟨css2, k1, k2, k3⟩ := hrd
  have hone : ∀ u ∈ css2.flatten, u.oneCell' = true := by
    intro u hu
    obtain ⟨cs, hcs, hu⟩ := List.mem_flatten.1 hu
    obtain ⟨i, hi⟩ := List.getElem?_of_mem hcs
    have h9 := (List.getElem?_eq_some_iff.1 hi).1
    exact A.one (k2 i cs new[i] hi (List.getElem?_eq_getElem (by omega))) u hu
  obtain ⟨ao, cap, w', hr, hown, hm, hb⟩ := run_append (P := P) w t o.type e i0 z A.sz bytes ht hi hz0 hz1 hz2 hzs A.pos hzE v l.length css.flatten h4 xv new.length css2.flatten k3 hone hone hbytes h63
  have hnb : ∀ k, k < w.heap.size → v.ownBlock ≠ some k → (Value.slice ao (l.length + new.length) cap).ownBlock ≠ some k := by
    intro k hk hne he
    rcases hb with hb | ⟨k', hb, hk'⟩
    · exact hne (hb ▸ he)
    · rw [hb] at he; cases he; omega
  refine qc_run ho hw (ex_append hop hs hx hr) (h ao cap w' ⟨css ++ css2, by simp [h1, k1], fun i cs a hi ha => ?_, ?_, fun g hg => ?_⟩ (hm.mono fun k _ hk => h5 k hk.symm))
  · by_cases hil : i < l.length
    · rw [List.getElem?_append_left (by omega)] at hi ha
      have := Rep.mod (A.tight (h3 i cs a hi ha)) hm (fun k hk hS => hk.1.2 hS.symm)
      exact A.wid this fun k hk => ⟨Or.inl hk.1.1, hnb k hk.2 hk.1.2⟩
    · rw [List.getElem?_append_right (by omega)] at hi ha
      rw [h1] at hi
      have := Rep.mod (A.tight (k2 _ cs a hi ha)) hm (fun k hk hS => hd k hk.1 hS.symm)
      exact A.wid this fun k hk => ⟨Or.inr hk.1, hnb k hk.2 (hd k hk.1)⟩
  · rw [List.length_append, List.flatten_append]
    exact hown
  · rcases hb with hb | ⟨k, hb, hk⟩
    · exact Or.inl (h5 g (hb ▸ hg))
    · rw [hb] at hg
      cases hg
      exact Or.inr ⟨hk, Own.lt hown hb⟩
/-- a row of nothing -/
theorem qc_build0 {T : TypeId} {sz : Nat} (hi : ops[i]? = some o) (hw : Region.wanted o (yielded ops a.tmps) = true) (ho : o.op = .buildSlice T 0 #[]) (hu : P.underlying T = some (.slice e)) (hie : (P.info? e).map (·.size) = some sz) (h : ∀ w', Cs w' w.heap.size #[] e → Mod (fun _ => False) w w' → KQ (.slice (some ⟨w.heap.size, 0, none⟩) 0 0) w') :
    wpOp P ops Q i (fun a' w' => ∃ v, a' = a.put o.dst v ∧ KQ v w') a w := by
  obtain ⟨ie, hq, e0⟩ := Option.map_eq_some_iff.1 hie
  have hr : (Instr.buildSlice T 0 #[]).run P w = .ok (.slice (some ⟨w.heap.size, 0, none⟩) 0 0) (w.alloc (.cells #[] e)) := by
    simp [Instr.buildSlice, run_underlying hu, sizeOf, typeInfo, hq, Instr.fill, newRow]
    rw [show (Array.map (fun _ => (default : Value)) (Array.range 0)) = #[] from Array.eq_empty_of_size_eq_zero (by simp)]
  refine qc_run hi hw ?_ (h _ (Cs.new _ _ _) ((Mod.refl _ _).alloc _))
  unfold execOp
  simp [ho, hr, Result.andThen]
theorem OwS.bare {g : Nat} (hc : Cs w g #[] e) : OwS A e (fun k => k = g) E w (.slice (some ⟨g, 0, none⟩) 0 0) [] :=
  ⟨[], rfl, (fun i cs a h => by simp at h), ⟨by simp, by simp, .inr ⟨g, 0, #[], rfl, hc, Nat.le_refl _, Nat.zero_le _, by simp, by simp, by simp⟩⟩, fun k hk => by cases hk; rfl⟩
end
end Go.Gv
namespace Go.Proofs.Ytekbmpjdombedaa
open Go Go.RowKit Go.Gv
theorem run_eql_sl {P : Program} (w : World) {t e : TypeId} (a : Option Addr) (n c : Nat) (h : P.underlying t = some (.slice e)) : (binOp .eql t (.slice a n c) (.slice none 0 0)).run P w = .ok (.bool a.isNone) w := by
  simp only [binOp]
  simp [run_equal_slice_nil w t e a n c h]
theorem guard_sl {op : BinOp} {t : TypeId} {x y : Operand} {a : Option Addr} {n c : Nat} {v : Value} (w : World) {P : Program} : (eqGuard op t x y (.slice a n c) v).run P w = .ok () w := by cases op <;> simp [eqGuard]
/-- the document's messages on their way -/
structure RnV (E : Nat → Prop) (w : World) (x : Nat) (v : Value) (mo : Int) (l : List Mg) (sn lo : Int) : Prop where
  cs : Cs w x #[.int .i64 mo, .int .i64 sn, .int .i64 lo, v] 82
  bd : ∀ k, E k → k < w.heap.size
  ex : ¬ E x
  vx : v.ownBlock ≠ some x
  ow : OwS MgR 67 (fun k => v.ownBlock = some k) E w v l
end Go.Proofs.Ytekbmpjdombedaa
