/- Texts that are built one behind the other: XNt3, XNt4, XNt5, XNt6, XNt7, XCmEq, XEq, XEb. No condition. -/
import Derived.Test.YtekbmpjdombedaaNpP3
set_option maxRecDepth 100000
set_option linter.unusedVariables false
open List renaming setIfInBounds_toArray → sIB, set_cons_zero → sCZ, set_cons_succ → sCS
/- net.Net: Look. -/
namespace Go.Proofs.Ytekbmpjdombedaa
open Go Go.RowKit Go.Gv

set_option maxHeartbeats 4000000 in
theorem Look_in {Eb : Nat → Prop} {w : World} {x : Nat} {v : Value} {mo sn lo : Int} {l : List Mg} {k : Nat} (h : NtV Eb w x v mo l sn lo) (hk : k < l.length) (hP : ∀ m ∈ l, cpMg m) : Calls Try.prog 14 #[.pointer (some ⟨x, 0, none⟩), .int .i64 ((k : Nat) : Int)] w fun e w' => ∃ cn, e = .returned (.tuple #[.agg cn.toArray, .bool true]) ∧ MgR.rd (New w w') w' cn l[k] ∧ Mod (fun _ => False) w w' := by
 have HNV := Lib.hid h
 obtain ⟨hc, hbE, hxE, hvx, ho0⟩ := h
 obtain ⟨Q1, hQ1, ho⟩ : ∃ Q : Nat → Prop, (∀ k, Q k ↔ v.ownBlock = some k) ∧ OwS MgR 67 Q Eb w v l := ⟨_, fun _ => Iff.rfl, ho0⟩
 have hbq : ∀ k, Q1 k → k < w.heap.size := fun k hk => ho0.lt ((hQ1 k).1 hk)
 have hxq : ¬ Q1 x := fun hk => hvx ((hQ1 x).1 hk)
 obtain ⟨ao, cap, rfl⟩ := ho.shape
 have hxl := hc.lt
 have hlm : l.length ≤ 9223372036854775807 := by rw [← maxLen_val]; exact ho.rd.bd
 have HNT := hid (show Cs w x #[.int .i64 mo, Value.slice ao l.length cap, .int .i64 sn, .int .i64 lo] 87 from hc)
 have HOL := Lib.hid ho
 have HQ1 := Lib.hid hQ1
 have HBQ := Lib.hid hbq
 have HBE := Lib.hid hbE
 have HXQ := Lib.hid hxq
 have HXE := Lib.hid hxE
 clear hc ho0 ho hQ1 hbE hxE hvx hbq hxq
 go_enter Try.func14, Try.ntmps14
 go_upto_region 1 with (fail)
 obtain ⟨w1, hw1⟩ : ∃ zz, zz = (w.alloc (.cells ((mg0C 0 0 0) : List Value).toArray 67)) := ⟨_, rfl⟩
 change Code.wp _ _ _ _ (w.alloc (.cells ((mg0C 0 0 0) : List Value).toArray 67))
 rw [← hw1]
 have HB4 := hid (show Cs w1 (w.heap.size) ((mg0C 0 0 0) : List Value).toArray 67 by rw [hw1]; exact Cs.new _ _ _)
 have hm : Mod (fun _ => False) w w1 := by rw [hw1]; exact (Mod.refl _ _).alloc _
 have HM0 := hid (show Mod (fun _ => False) w w1 from hm.mono (fun _ _ h => h.elim))
 have hs1 : w1.heap.size = w.heap.size + 1 := by rw [hw1]; simp
 have Hx1 := hid (HNT.out.mod hm (fun h => h))
 clear HNT
 have Hx2 := hid (HOL.out.mod hm (fun _ _ h => h) (fun _ _ h => h))
 clear HOL
 clear hw1 hm
 go_upto_region 1 with (fail)
 refine wp_region_U 19 [6, 7, 8, 9] [0, 1, 2, 3] (fun a0 HA0 => ?_)
 have oe0 := ev HA0 0 rfl
 have oe1 := ev HA0 1 rfl
 refine QSeq.pure rfl _ (fun E => ex_move rfl (E.v oe0)) ?_
 refine QSeq.pure rfl _ (fun E => ex_move rfl (E.v oe1)) ?_
 refine QSeq.call rfl rfl Try.func22 (NIn_yes (k := ((k : Nat) : Int)) (n := l.length) Hx1.out (by omega)) (fun E => args2 (E.d 0 1) (E.d 1 0)) ?_
 rintro e u1_2 ⟨rfl, hm⟩
 refine ⟨_, rfl, ?_⟩
 have zu1_2 := hm.size
 have Cx3 := hid (show Mod (fun _ => False) w1 u1_2 from hm)
 clear hm
 refine QSeq.pure rfl (.bool false) (fun E => ex_not rfl (E.d 2 0)) ?_
 refine QSeq.nil (t' := [_, _, _, _]) rfl ?_
 obtain rfl := HA0.out
 clear HA0 oe0 oe1
 simp only [pz, Act.put, sIB, sCZ, sCS]
 obtain ⟨g0, o0, cs, eao, hrg, hrd, hcs⟩ := (Hx2.out.mod Cx3.out (fun _ _ h => h) (fun _ _ h => h)).rd.at hk
 subst eao
 generalize hmm : l[k] = m at hrd
 have HMM := Lib.hid hmm
 have HCL := hid (show cs.length = 295 from MgR.len hrd)
 have HOC := hid (MgR.one hrd)
 have HAT := hid (show CellsAt (fun k => Q1 k ∨ Eb k) u1_2 g0 (o0 + k * 295) cs from ⟨hrg, hcs⟩)
 have HRD := hid (show MgR.rd (fun k => Q1 k ∨ Eb k) u1_2 cs m from hrd)
 clear hrg hrd hcs hmm
 have HPK := hid (show cpMg m from HMM.out ▸ hP _ (List.getElem_mem hk))
 clear hP
 go_upto_region 3 with (fail)
 refine wp_region_U 19 [11, 12, 13, 14, 15, 16, 17, 18, 27, 5] [0, 1, 2, 3, 4, 5, 6, 7, 8, 9] (fun a0 HA0 => ?_)
 have oe0 := ev HA0 0 rfl
 have oe1 := ev HA0 1 rfl
 have oe4 := ev HA0 4 rfl
 refine QSeq.pure rfl _ (fun E => ex_move rfl (E.v oe0)) ?_
 refine QSeq.pure rfl (.pointer (some ⟨x, 0, none⟩)) (fun E => ex_nil rfl (E.d 0 0)) ?_
 refine QSeq.pure rfl (.pointer (some ⟨x, 1, none⟩)) (fun E => ex_field rfl Try.underlying87 rfl (by kernel_rfl) (E.d 1 0)) ?_
 refine QSeq.pure rfl _ (fun E => ex_load1 rfl Try.underlying76 rfl (E.d 2 0) (Cs.lit1 (Hx1.out.mod Cx3.out (fun h => h)) rfl)) ?_
 refine QSeq.pure rfl _ (fun E => ex_move rfl (E.v oe1)) ?_
 refine QSeq.pure rfl (.pointer (some ⟨g0, o0 + k * 295, none⟩)) (fun E => ex_idxS (i := k) (s := 295) rfl Try.underlying76 (by kernel_rfl) (E.d 3 1) (E.d 4 0) (by omega)) ?_
 refine QSeq.pure rfl _ (fun E => ex_loadA rfl Try.underlying67 rfl (off := o0 + k * 295) (cs := cs) (by rw [HCL.out]; kernel_rfl) (E.d 5 0) (fun j u hu => (HAT.out).2 j u hu)) ?_
 refine QSeq.call rfl rfl Try.func20 (cop_Mg _ m _ _ HRD.out (by intro k h1; rcases h1 with h1 | h1 <;> first | omega | (have hb := HBQ.out k h1; omega) | (have hb := HBE.out k h1; omega)) HPK.out) (fun E => args1 (E.d 6 0)) ?_
 rintro e u3_7 ⟨cn, rfl, qnw, hm⟩
 have HCN := hid (MgR.len qnw)
 have HNO := hid (MgR.one qnw)
 refine ⟨_, rfl, ?_⟩
 have Hx4 := hid qnw
 have zu3_7 := hm.size
 have Cx5 := hid (show Mod (fun _ => False) u1_2 u3_7 from hm)
 clear hm
 clear qnw
 refine QSeq.go fun act E => ?_
 refine qc_store rfl (wanted_none rfl) rfl ((HB4.out.mod Cx3.out (fun h => h)).mod Cx5.out (fun h => h)) (off := 0) (vs := cn) (by rw [HCN.out]; kernel_rfl) HNO.out (by rw [HCN.out]; decide) (E.v oe4) (ec (E.d 7 0)) ?_
 intro u3_8 qc0 hm
 have qB4 := qc0.eqv (b := (cn : List Value).toArray) (lay_whole _ _ (by rw [HCN.out]; rfl))
 clear qc0
 have Hx6 := hid qB4
 have zu3_8 := hm.size
 have HMu3_8 := hid hm
 have Cx7 := hid (Mod.goS (S' := (fun k => (k = w.heap.size))) Cx5.out hm (fun _ h => h.elim) (by intro k h0 h2; exact h2))
 clear hm Cx5
 clear act E qB4 HB4
 refine QSeq.pure rfl (.bool true) (fun E => ex_assign rfl rfl) ?_
 have Hx8 := hid (Hx4.out.mod HMu3_8.out (by intro k h1 h2; omega))
 clear Hx4 HMu3_8
 refine QSeq.nil (t' := [_, _, _, _, _, _, _, _, _, _]) rfl ?_
 obtain rfl := HA0.out
 clear HA0 oe0 oe1 oe4
 simp only [pz, Act.put, sIB, sCZ, sCS, List.set_nil]
 go_wp2
 refine bodyPost_ret (results_cellA_tmp rfl _ _ (w.heap.size) cn rfl (fun ix u hu => by rw [Hx6.out.cell]; simpa using hu) Try.underlying67 rfl (by rw [HCN.out]; kernel_rfl)) rfl ?_
 exact ⟨_, rfl, HMM.out ▸ (Hx8.out.widen (R' := (fun k => New w u3_8 k)) (by intro k h1; omega)), ((HM0.out.trans Cx3.out (fun _ _ h => h.elim)).trans Cx7.out (by intro k h1 h2; omega))⟩
set_option maxHeartbeats 4000000 in
theorem Look_out {Eb : Nat → Prop} {w : World} {x : Nat} {v : Value} {mo sn lo : Int} {l : List Mg} {k : Int} (h : NtV Eb w x v mo l sn lo) (hk : ¬ (0 ≤ k ∧ k < (l.length : Nat))) : Calls Try.prog 14 #[.pointer (some ⟨x, 0, none⟩), .int .i64 k] w fun e w' => ∃ cn, e = .returned (.tuple #[.agg cn.toArray, .bool false]) ∧ MgR.rd (New w w') w' cn (mg0 0 0 0) ∧ Mod (fun _ => False) w w' := by
 have HNV := Lib.hid h
 obtain ⟨hc, hbE, hxE, hvx, ho0⟩ := h
 obtain ⟨Q1, hQ1, ho⟩ : ∃ Q : Nat → Prop, (∀ k, Q k ↔ v.ownBlock = some k) ∧ OwS MgR 67 Q Eb w v l := ⟨_, fun _ => Iff.rfl, ho0⟩
 have hbq : ∀ k, Q1 k → k < w.heap.size := fun k hk => ho0.lt ((hQ1 k).1 hk)
 have hxq : ¬ Q1 x := fun hk => hvx ((hQ1 x).1 hk)
 obtain ⟨ao, cap, rfl⟩ := ho.shape
 have hxl := hc.lt
 have hlm : l.length ≤ 9223372036854775807 := by rw [← maxLen_val]; exact ho.rd.bd
 have HNT := hid (show Cs w x #[.int .i64 mo, Value.slice ao l.length cap, .int .i64 sn, .int .i64 lo] 87 from hc)
 have HOL := Lib.hid ho
 have HQ1 := Lib.hid hQ1
 have HBQ := Lib.hid hbq
 have HBE := Lib.hid hbE
 have HXQ := Lib.hid hxq
 have HXE := Lib.hid hxE
 clear hc ho0 ho hQ1 hbE hxE hvx hbq hxq
 go_enter Try.func14, Try.ntmps14
 go_upto_region 1 with (fail)
 obtain ⟨w1, hw1⟩ : ∃ zz, zz = (w.alloc (.cells ((mg0C 0 0 0) : List Value).toArray 67)) := ⟨_, rfl⟩
 change Code.wp _ _ _ _ (w.alloc (.cells ((mg0C 0 0 0) : List Value).toArray 67))
 rw [← hw1]
 have HB4 := hid (show Cs w1 (w.heap.size) ((mg0C 0 0 0) : List Value).toArray 67 by rw [hw1]; exact Cs.new _ _ _)
 have hm : Mod (fun _ => False) w w1 := by rw [hw1]; exact (Mod.refl _ _).alloc _
 have HM0 := hid (show Mod (fun _ => False) w w1 from hm.mono (fun _ _ h => h.elim))
 have hs1 : w1.heap.size = w.heap.size + 1 := by rw [hw1]; simp
 have Hx1 := hid (HNT.out.mod hm (fun h => h))
 clear HNT
 have Hx2 := hid (HOL.out.mod hm (fun _ _ h => h) (fun _ _ h => h))
 clear HOL
 clear hw1 hm
 go_upto_region 1 with (fail)
 refine wp_region_U 19 [6, 7, 8, 9] [0, 1, 2, 3] (fun a0 HA0 => ?_)
 have oe0 := ev HA0 0 rfl
 have oe1 := ev HA0 1 rfl
 refine QSeq.pure rfl _ (fun E => ex_move rfl (E.v oe0)) ?_
 refine QSeq.pure rfl _ (fun E => ex_move rfl (E.v oe1)) ?_
 refine QSeq.call rfl rfl Try.func22 (NIn_no (k := k) (n := l.length) Hx1.out hk) (fun E => args2 (E.d 0 1) (E.d 1 0)) ?_
 rintro e u1_2 ⟨rfl, hm⟩
 refine ⟨_, rfl, ?_⟩
 have zu1_2 := hm.size
 have Cx3 := hid (show Mod (fun _ => False) w1 u1_2 from hm)
 clear hm
 refine QSeq.pure rfl (.bool true) (fun E => ex_not rfl (E.d 2 0)) ?_
 refine QSeq.nil (t' := [_, _, _, _]) rfl ?_
 obtain rfl := HA0.out
 clear HA0 oe0 oe1
 simp only [pz, Act.put, sIB, sCZ, sCS]
 go_upto_region 2 with (fail)
 refine wp_region_U 19 [10, 20, 5] [0, 1, 2] (fun a0 HA0 => ?_)
 have oe4 := ev HA0 4 rfl
 refine QSeq.pure rfl (.agg ((mg0C 0 0 0) : List Value).toArray) (fun E => ex_build0 rfl (r := ((mg0C 0 0 0) : List Value).toArray) (by kernel_rfl)) ?_
 refine QSeq.go fun act E => ?_
 refine qc_store rfl (wanted_none rfl) rfl (HB4.out.mod Cx3.out (fun h => h)) (off := 0) (vs := (mg0C 0 0 0)) (by kernel_rfl) (zMg_one w) (by rw [List.size_toArray]; omega) (E.v oe4) (ec (E.d 0 0)) ?_
 intro u2_1 qc0 hm
 have qB4 := qc0.eqv (b := ((mg0C 0 0 0) : List Value).toArray) (lay_whole _ _ (by kernel_rfl))
 clear qc0
 have Hx4 := hid qB4
 have zu2_1 := hm.size
 have Cx5 := hid (show Mod (fun k => (k = w.heap.size)) u1_2 u2_1 from hm)
 clear hm
 clear act E qB4 HB4
 refine QSeq.pure rfl (.bool false) (fun E => ex_assign rfl rfl) ?_
 refine QSeq.nil (t' := [_, _, _]) rfl ?_
 obtain rfl := HA0.out
 clear HA0 oe4
 simp only [pz, Act.put, sIB, sCZ, sCS, List.set_nil]
 go_wp2
 refine bodyPost_ret (results_cellA_tmp rfl _ _ (w.heap.size) (mg0C 0 0 0) rfl (fun ix u hu => by rw [Hx4.out.cell]; simpa using hu) Try.underlying67 rfl (by kernel_rfl)) rfl ?_
 exact ⟨_, rfl, mg0_rd I64_0 I64_0 I64_0 _ _, ((HM0.out.trans Cx3.out (fun _ _ h => h.elim)).trans Cx5.out (by intro k h1 h2; omega))⟩
end Go.Proofs.Ytekbmpjdombedaa

/- net.Net: Take. -/
namespace Go.Proofs.Ytekbmpjdombedaa
open Go Go.RowKit Go.Gv

set_option maxHeartbeats 4000000 in
theorem Take_in {Eb : Nat → Prop} {w : World} {x : Nat} {v : Value} {mo sn lo : Int} {l : List Mg} {k : Nat} (h : NtV Eb w x v mo l sn lo) (hk : k < l.length) (hP : ∀ m ∈ l, cpMg m) : Calls Try.prog 10 #[.pointer (some ⟨x, 0, none⟩), .int .i64 ((k : Nat) : Int)] w fun e w' => ∃ cn v', e = .returned (.tuple #[.agg cn.toArray, .bool true]) ∧ NtV Eb w' x v' mo (l.eraseIdx k) sn lo ∧
    (∀ k, v'.ownBlock = some k → v.ownBlock = some k ∨ New w w' k) ∧ MgR.rd (New w w') w' cn l[k] ∧ Mod (fun k => k = x ∨ v.ownBlock = some k) w w' := by
  have HNV := Lib.hid h
  obtain ⟨hc, hbE, hxE, hvx, ho0⟩ := h
  obtain ⟨Q1, hQ1, ho⟩ : ∃ Q : Nat → Prop, (∀ k, Q k ↔ v.ownBlock = some k) ∧ OwS MgR 67 Q Eb w v l := ⟨_, fun _ => Iff.rfl, ho0⟩
  have hbq : ∀ k, Q1 k → k < w.heap.size := fun k hk => ho0.lt ((hQ1 k).1 hk)
  have hxq : ¬ Q1 x := fun hk => hvx ((hQ1 x).1 hk)
  obtain ⟨ao, cap, rfl⟩ := ho.shape
  have hxl := hc.lt
  have hlm : l.length ≤ 9223372036854775807 := by rw [← maxLen_val]; exact ho.rd.bd
  have HNT := hid (show Cs w x #[.int .i64 mo, Value.slice ao l.length cap, .int .i64 sn, .int .i64 lo] 87 from hc)
  have HOL := Lib.hid ho
  have HQ1 := Lib.hid hQ1
  have HBQ := Lib.hid hbq
  have HBE := Lib.hid hbE
  have HXQ := Lib.hid hxq
  have HXE := Lib.hid hxE
  clear hc ho0 ho hQ1 hbE hxE hvx hbq hxq
  go_enter Try.func10, Try.ntmps10
  go_upto_region 1 with (fail)
  obtain ⟨w1, hw1⟩ : ∃ zz, zz = (w.alloc (.cells ((mg0C 0 0 0) : List Value).toArray 67)) := ⟨_, rfl⟩
  change Code.wp _ _ _ _ (w.alloc (.cells ((mg0C 0 0 0) : List Value).toArray 67))
  rw [← hw1]
  have HB4 := hid (show Cs w1 (w.heap.size) ((mg0C 0 0 0) : List Value).toArray 67 by rw [hw1]; exact Cs.new _ _ _)
  have hm : Mod (fun _ => False) w w1 := by rw [hw1]; exact (Mod.refl _ _).alloc _
  have HM0 := hid (show Mod (fun k => (k = x) ∨ (Q1 k)) w w1 from hm.mono (fun _ _ h => h.elim))
  have hs1 : w1.heap.size = w.heap.size + 1 := by rw [hw1]; simp
  have Hx1 := hid (HNT.out.mod hm (fun h => h))
  clear HNT
  have Hx2 := hid (HOL.out.mod hm (fun _ _ h => h) (fun _ _ h => h))
  clear HOL
  clear hw1 hm
  go_upto_region 1 with (fail)
  refine wp_region_U 28 [9, 10, 11, 8, 12, 13, 6, 35, 7] [0, 1, 2, 3, 4, 5, 6, 7, 8] (fun a0 HA0 => ?_)
  have oe0 := ev HA0 0 rfl
  have oe1 := ev HA0 1 rfl
  refine QSeq.pure rfl _ (fun E => ex_move rfl (E.v oe0)) ?_
  refine QSeq.pure rfl _ (fun E => ex_move rfl (E.v oe1)) ?_
  refine QSeq.call rfl rfl Try.func14 (Look_in (k := k) (NtV.mk Hx1.out (fun k hk => by have hb := HBE.out k hk; omega) HXE.out (fun hk => HXQ.out ((HQ1.out _).2 hk)) Hx2.out.own) hk hP) (fun E => args2 (E.d 0 1) (E.d 1 0)) ?_
  rintro e u1_2 ⟨cn, rfl, qnw, hm⟩
  have HCN := hid (MgR.len qnw)
  have HNO := hid (MgR.one qnw)
  refine ⟨_, rfl, ?_⟩
  have Hx3 := hid qnw
  have zu1_2 := hm.size
  have Cx4 := hid (show Mod (fun _ => False) w1 u1_2 from hm)
  clear hm
  clear qnw
  refine QSeq.pure rfl _ (fun E => ex_move rfl (E.d 2 0)) ?_
  refine QSeq.pure rfl (.agg cn.toArray) (fun E => ex_extract rfl (E.d 3 0) rfl) ?_
  refine QSeq.pure rfl (.bool true) (fun E => ex_extract rfl (E.d 3 1) rfl) ?_
  refine QSeq.go fun act E => ?_
  refine qc_alloc rfl (wanted_none rfl) rfl (z := (mg0C 0 0 0)) (by kernel_rfl) ?_
  intro u1_6 qq6 hm
  have zl1_6 := qq6.lt
  have Hx5 := hid qq6
  have zu1_6 := hm.size
  have HMu1_6 := hid hm
  have Cx6 := hid (Cx4.out.goE hm)
  clear hm Cx4
  clear act E qq6
  refine QSeq.go fun act E => ?_
  have hlz : (cn).length = List.length ((mg0C 0 0 0) : List Value) := (by rw [HCN.out]; kernel_rfl)
  refine qc_store rfl (wanted_none rfl) rfl Hx5.out (off := 0) (vs := cn) (by rw [hlz]; kernel_rfl) HNO.out (by rw [hlz]; exact Nat.le_of_eq (Nat.zero_add _)) (E.d 6 0) (ec (E.d 4 2)) ?_
  intro u1_7 qc0 hm
  have qq6 := qc0.eqv (b := (cn : List Value).toArray) (lay_whole (((mg0C 0 0 0) : List Value).toArray) _ (by rw [hlz]; rfl))
  clear qc0 hlz
  have Hx7 := hid qq6
  have zu1_7 := hm.size
  have HMu1_7 := hid hm
  have Cx8 := hid (Mod.goS (S' := (fun _ => False)) Cx6.out hm (fun _ h => h) (by intro k h0 h2; omega))
  clear hm Cx6
  clear act E qq6 Hx5
  refine QSeq.pure rfl _ (fun E => ex_assign rfl (E.d 5 2)) ?_
  have Hx9 := hid ((Hx3.out.mod HMu1_6.out (fun _ _ h => h)).mod HMu1_7.out (by intro k h1 h2; omega))
  clear Hx3 HMu1_6 HMu1_7
  refine QSeq.nil (t' := [_, _, _, _, _, _, _, _, _]) rfl ?_
  obtain rfl := HA0.out
  clear HA0 oe0 oe1
  simp only [pz, Act.put, sIB, sCZ, sCS, List.set_nil]
  go_upto_region 2 with (fail)
  refine wp_region_U 28 [14] [0] (fun a0 HA0 => ?_)
  have oe7 := ev HA0 7 rfl
  refine QSeq.pure rfl _ (fun E => ex_move rfl (E.v oe7)) ?_
  refine QSeq.nil (t' := [_]) rfl ?_
  obtain rfl := HA0.out
  clear HA0 oe7
  simp only [pz, Act.put, sIB, sCZ, sCS]
  go_upto_region 3 with (fail)
  refine wp_region_U 28 [15, 16, 17, 18, 19, 20, 21, 22, 23, 24, 25, 39] [0, 1, 2, 3, 4, 5, 6, 7, 8, 9, 10, 11] (fun a0 HA0 => ?_)
  have oe0 := ev HA0 0 rfl
  have oe1 := ev HA0 1 rfl
  refine QSeq.pure rfl _ (fun E => ex_move rfl (E.v oe0)) ?_
  refine QSeq.pure rfl _ (fun E => ex_move rfl (E.v oe0)) ?_
  refine QSeq.pure rfl (.pointer (some ⟨x, 0, none⟩)) (fun E => ex_nil rfl (E.d 1 0)) ?_
  refine QSeq.pure rfl (.pointer (some ⟨x, 1, none⟩)) (fun E => ex_field rfl Try.underlying87 rfl (by kernel_rfl) (E.d 2 0)) ?_
  refine QSeq.pure rfl _ (fun E => ex_load1 rfl Try.underlying76 rfl (E.d 3 0) (Cs.lit1 (Hx1.out.mod Cx8.out (fun h => h)) rfl)) ?_
  refine QSeq.pure rfl _ (fun E => ex_move rfl (E.v oe1)) ?_
  refine QSeq.pure rfl _ (fun E => ex_move rfl (E.v oe1)) ?_
  refine QSeq.pure rfl (.int .i64 ((k + 1 : Nat) : Int)) (fun E => ex_binE rfl (E.d 6 0) rfl (guard_ints _ _ _ _ _ _) (run_add_i _ _ Try.underlying3) (congrArg (Value.int .i64) (i64_eq (b := ((k + 1 : Nat) : Int)) (by omega) (by omega) (by omega)))) ?_
  refine QSeq.call rfl rfl Try.func21 (Delete_Q (Hx2.out.mod Cx8.out (fun _ _ h => h) (fun _ _ h => h)) hk) (fun E => args3 (E.d 4 3) (E.d 5 2) (E.d 7 0)) ?_
  rintro e u3_8 ⟨vd, rfl, ql, hm⟩
  obtain ⟨aod, capd, rfl⟩ := ql.shape
  refine ⟨_, rfl, ?_⟩
  have Hx10 := hid (ql.widen (R' := (fun k => (Q1 k))) (E' := (fun k => (Eb k))) (fun _ h => h) (fun _ h => h))
  have zu3_8 := hm.size
  have Cx11 := hid (show Mod (fun k => (Q1 k)) u1_7 u3_8 from hm)
  clear hm
  clear ql Hx2
  refine QSeq.pure rfl (.pointer (some ⟨x, 0, none⟩)) (fun E => ex_nil rfl (E.d 0 8)) ?_
  refine QSeq.pure rfl (.pointer (some ⟨x, 1, none⟩)) (fun E => ex_field rfl Try.underlying87 rfl (by kernel_rfl) (E.d 9 0)) ?_
  refine QSeq.go fun act E => ?_
  refine qc_store rfl (wanted_none rfl) rfl ((Hx1.out.mod Cx8.out (fun h => h)).mod Cx11.out (by intro h2; first | omega | (have hb := HBQ.out _ h2; omega) | exact HXQ.out h2 | exact HXE.out h2)) (off := 1) (vs := [Value.slice aod (l.eraseIdx k).length capd]) (by kernel_rfl) one1 (by simp) (E.d 10 0) (ec (E.d 8 2)) ?_
  intro u3_11 qc0 hm
  have qnt := qc0.eqv (b := #[.int .i64 mo, Value.slice aod (l.eraseIdx k).length capd, .int .i64 sn, .int .i64 lo]) rfl
  clear qc0
  have Hx12 := hid qnt
  have zu3_11 := hm.size
  have HMu3_11 := hid hm
  have Cx13 := hid (Mod.goS (S' := (fun k => (Q1 k) ∨ (k = x))) Cx11.out hm (fun _ h => Or.inl h) (by intro k h0 h2; exact Or.inr (h2)))
  clear hm Cx11
  clear act E qnt Hx1
  have Hx14 := hid (Hx10.out.mod HMu3_11.out (by intro k h1 h2; first | omega | (have hb := HBQ.out k h1; omega) | exact HXQ.out (h2 ▸ h1) | exact HXQ.out (h1 ▸ h2) | exact HXE.out (h2 ▸ h1) | exact HXE.out (h1 ▸ h2)) (by intro k h1 h2; first | omega | (have hb := HBE.out k h1; omega) | exact HXQ.out (h2 ▸ h1) | exact HXQ.out (h1 ▸ h2) | exact HXE.out (h2 ▸ h1) | exact HXE.out (h1 ▸ h2)))
  clear Hx10 HMu3_11
  refine QSeq.nil (t' := [_, _, _, _, _, _, _, _, _, _, _, _]) rfl ?_
  obtain rfl := HA0.out
  clear HA0 oe0 oe1
  simp only [pz, Act.put, sIB, sCZ, sCS, List.set_nil]
  go_upto_region 4 with (fail)
  refine wp_region_U 28 [26, 27, 30, 5] [0, 1, 2, 3] (fun a0 HA0 => ?_)
  have oe4 := ev HA0 4 rfl
  have oe6 := ev HA0 6 rfl
  have oe7 := ev HA0 7 rfl
  refine QSeq.pure rfl _ (fun E => ex_loadA rfl Try.underlying67 rfl (off := 0) (cs := cn) (by rw [HCN.out]; kernel_rfl) (E.v oe6) (Cs.whole (Hx7.out.mod Cx13.out (by intro h2; rcases h2 with h2 | h2 <;> first | omega | (have hb := HBQ.out _ h2; omega) | exact HXQ.out h2 | exact HXE.out h2)))) ?_
  refine QSeq.pure rfl _ (fun E => ex_move rfl (E.v oe7)) ?_
  refine QSeq.go fun act E => ?_
  refine qc_store rfl (wanted_none rfl) rfl ((HB4.out.mod Cx8.out (fun h => h)).mod Cx13.out (by intro h2; rcases h2 with h2 | h2 <;> first | omega | (have hb := HBQ.out _ h2; omega) | exact HXQ.out h2 | exact HXE.out h2)) (off := 0) (vs := cn) (by rw [HCN.out]; kernel_rfl) HNO.out (by rw [HCN.out]; decide) (E.v oe4) (ec (E.d 0 1)) ?_
  intro u4_2 qc0 hm
  have qB4 := qc0.eqv (b := (cn : List Value).toArray) (lay_whole _ _ (by rw [HCN.out]; kernel_rfl))
  clear qc0
  have Hx15 := hid qB4
  have zu4_2 := hm.size
  have Cx16 := hid (show Mod (fun k => (k = w.heap.size)) u3_11 u4_2 from hm)
  clear hm
  clear act E qB4 HB4
  refine QSeq.pure rfl _ (fun E => ex_assign rfl (E.d 1 1)) ?_
  refine QSeq.nil (t' := [_, _, _, _]) rfl ?_
  obtain rfl := HA0.out
  clear HA0 oe4 oe6 oe7
  simp only [pz, Act.put, sIB, sCZ, sCS, List.set_nil]
  go_wp2
  refine bodyPost_ret (results_cellA_tmp rfl _ _ (w.heap.size) cn rfl (fun ix u hu => by rw [Hx15.out.cell]; simpa using hu) Try.underlying67 rfl (by rw [HCN.out]; kernel_rfl)) rfl ?_
  exact ⟨cn, _, rfl, ⟨(Hx12.out.mod Cx16.out (by intro h2; omega)), (fun k hk => by have hb := HBE.out k hk; omega), HXE.out, (fun hk => by have hk := ((Hx14.out.mod Cx16.out (sB HBQ) (sB HBE))).blk _ hk; skip <;> first | exact HXQ.out hk | omega), ((Hx14.out.mod Cx16.out (sB HBQ) (sB HBE))).own⟩, (fun k hk => by have hk := ((Hx14.out.mod Cx16.out (sB HBQ) (sB HBE))).blk _ hk; skip <;> first | exact Or.inl ((HQ1.out _).1 hk) | exact Or.inr (by unfold New; omega)), (((Hx9.out.mod Cx13.out (by intro k h1 h2; rcases h2 with h2 | h2 <;> first | omega | (have hb := HBQ.out k h2; omega) | exact HXQ.out (h2 ▸ h1) | exact HXQ.out (h1 ▸ h2) | exact HXE.out (h2 ▸ h1) | exact HXE.out (h1 ▸ h2))).mod Cx16.out (by intro k h1 h2; omega)).widen (R' := (fun k => New w u4_2 k)) (by intro k h1; omega)), ((((HM0.out.trans Cx8.out (fun _ _ h => h.elim)).trans Cx13.out (by intro k h1 h2; rcases h2 with h2 | h2 <;> first | exact h2 | omega | exact Or.inl h2 | exact Or.inr h2 | exact Or.inr (Or.inl h2) | exact Or.inr (Or.inr h2) | (have hb := HBQ.out k h2; omega))).trans Cx16.out (by intro k h1 h2; first | exact h2 | omega | exact Or.inl h2 | exact Or.inr h2 | exact Or.inr (Or.inl h2) | exact Or.inr (Or.inr h2))).mono (fun k _ hk => by rcases hk with hk | hk; exact Or.inl hk; exact Or.inr ((HQ1.out k).1 hk)))⟩
set_option maxHeartbeats 4000000 in
theorem Take_out {Eb : Nat → Prop} {w : World} {x : Nat} {v : Value} {mo sn lo : Int} {l : List Mg} {k : Int} (h : NtV Eb w x v mo l sn lo) (hk : ¬ (0 ≤ k ∧ k < (l.length : Nat))) : Calls Try.prog 10 #[.pointer (some ⟨x, 0, none⟩), .int .i64 k] w fun e w' => ∃ cn, e = .returned (.tuple #[.agg cn.toArray, .bool false]) ∧ MgR.rd (New w w') w' cn (mg0 0 0 0) ∧ Mod (fun _ => False) w w' := by
  have HNV := Lib.hid h
  obtain ⟨hc, hbE, hxE, hvx, ho0⟩ := h
  obtain ⟨Q1, hQ1, ho⟩ : ∃ Q : Nat → Prop, (∀ k, Q k ↔ v.ownBlock = some k) ∧ OwS MgR 67 Q Eb w v l := ⟨_, fun _ => Iff.rfl, ho0⟩
  have hbq : ∀ k, Q1 k → k < w.heap.size := fun k hk => ho0.lt ((hQ1 k).1 hk)
  have hxq : ¬ Q1 x := fun hk => hvx ((hQ1 x).1 hk)
  obtain ⟨ao, cap, rfl⟩ := ho.shape
  have hxl := hc.lt
  have hlm : l.length ≤ 9223372036854775807 := by rw [← maxLen_val]; exact ho.rd.bd
  have HNT := hid (show Cs w x #[.int .i64 mo, Value.slice ao l.length cap, .int .i64 sn, .int .i64 lo] 87 from hc)
  have HOL := Lib.hid ho
  have HQ1 := Lib.hid hQ1
  have HBQ := Lib.hid hbq
  have HBE := Lib.hid hbE
  have HXQ := Lib.hid hxq
  have HXE := Lib.hid hxE
  clear hc ho0 ho hQ1 hbE hxE hvx hbq hxq
  go_enter Try.func10, Try.ntmps10
  go_upto_region 1 with (fail)
  obtain ⟨w1, hw1⟩ : ∃ zz, zz = (w.alloc (.cells ((mg0C 0 0 0) : List Value).toArray 67)) := ⟨_, rfl⟩
  change Code.wp _ _ _ _ (w.alloc (.cells ((mg0C 0 0 0) : List Value).toArray 67))
  rw [← hw1]
  have HB4 := hid (show Cs w1 (w.heap.size) ((mg0C 0 0 0) : List Value).toArray 67 by rw [hw1]; exact Cs.new _ _ _)
  have hm : Mod (fun _ => False) w w1 := by rw [hw1]; exact (Mod.refl _ _).alloc _
  have HM0 := hid (show Mod (fun _ => False) w w1 from hm.mono (fun _ _ h => h.elim))
  have hs1 : w1.heap.size = w.heap.size + 1 := by rw [hw1]; simp
  have Hx1 := hid (HNT.out.mod hm (fun h => h))
  clear HNT
  have Hx2 := hid (HOL.out.mod hm (fun _ _ h => h) (fun _ _ h => h))
  clear HOL
  clear hw1 hm
  go_upto_region 1 with (fail)
  refine wp_region_U 28 [9, 10, 11, 8, 12, 13, 6, 35, 7] [0, 1, 2, 3, 4, 5, 6, 7, 8] (fun a0 HA0 => ?_)
  have oe0 := ev HA0 0 rfl
  have oe1 := ev HA0 1 rfl
  refine QSeq.pure rfl _ (fun E => ex_move rfl (E.v oe0)) ?_
  refine QSeq.pure rfl _ (fun E => ex_move rfl (E.v oe1)) ?_
  refine QSeq.call rfl rfl Try.func14 (Look_out (k := k) (NtV.mk Hx1.out (fun k hk => by have hb := HBE.out k hk; omega) HXE.out (fun hk => HXQ.out ((HQ1.out _).2 hk)) Hx2.out.own) hk) (fun E => args2 (E.d 0 1) (E.d 1 0)) ?_
  rintro e u1_2 ⟨cn, rfl, qnw, hm⟩
  have HCN := hid (MgR.len qnw)
  have HNO := hid (MgR.one qnw)
  refine ⟨_, rfl, ?_⟩
  have Hx3 := hid qnw
  have zu1_2 := hm.size
  have Cx4 := hid (show Mod (fun _ => False) w1 u1_2 from hm)
  clear hm
  clear qnw
  refine QSeq.pure rfl _ (fun E => ex_move rfl (E.d 2 0)) ?_
  refine QSeq.pure rfl (.agg cn.toArray) (fun E => ex_extract rfl (E.d 3 0) rfl) ?_
  refine QSeq.pure rfl (.bool false) (fun E => ex_extract rfl (E.d 3 1) rfl) ?_
  refine QSeq.go fun act E => ?_
  refine qc_alloc rfl (wanted_none rfl) rfl (z := (mg0C 0 0 0)) (by kernel_rfl) ?_
  intro u1_6 qq6 hm
  have zl1_6 := qq6.lt
  have Hx5 := hid qq6
  have zu1_6 := hm.size
  have HMu1_6 := hid hm
  have Cx6 := hid (Cx4.out.goE hm)
  clear hm Cx4
  clear act E qq6
  refine QSeq.go fun act E => ?_
  have hlz : (cn).length = List.length ((mg0C 0 0 0) : List Value) := (by rw [HCN.out]; kernel_rfl)
  refine qc_store rfl (wanted_none rfl) rfl Hx5.out (off := 0) (vs := cn) (by rw [hlz]; kernel_rfl) HNO.out (by rw [hlz]; exact Nat.le_of_eq (Nat.zero_add _)) (E.d 6 0) (ec (E.d 4 2)) ?_
  intro u1_7 qc0 hm
  have qq6 := qc0.eqv (b := (cn : List Value).toArray) (lay_whole (((mg0C 0 0 0) : List Value).toArray) _ (by rw [hlz]; rfl))
  clear qc0 hlz
  have Hx7 := hid qq6
  have zu1_7 := hm.size
  have HMu1_7 := hid hm
  have Cx8 := hid (Mod.goS (S' := (fun _ => False)) Cx6.out hm (fun _ h => h) (by intro k h0 h2; omega))
  clear hm Cx6
  clear act E qq6 Hx5
  refine QSeq.pure rfl _ (fun E => ex_assign rfl (E.d 5 2)) ?_
  have Hx9 := hid ((Hx3.out.mod HMu1_6.out (fun _ _ h => h)).mod HMu1_7.out (by intro k h1 h2; omega))
  clear Hx3 HMu1_6 HMu1_7
  refine QSeq.nil (t' := [_, _, _, _, _, _, _, _, _]) rfl ?_
  obtain rfl := HA0.out
  clear HA0 oe0 oe1
  simp only [pz, Act.put, sIB, sCZ, sCS, List.set_nil]
  go_upto_region 2 with (fail)
  refine wp_region_U 28 [14] [0] (fun a0 HA0 => ?_)
  have oe7 := ev HA0 7 rfl
  refine QSeq.pure rfl _ (fun E => ex_move rfl (E.v oe7)) ?_
  refine QSeq.nil (t' := [_]) rfl ?_
  obtain rfl := HA0.out
  clear HA0 oe7
  simp only [pz, Act.put, sIB, sCZ, sCS]
  go_upto_region 4 with (fail)
  refine wp_region_U 28 [26, 27, 30, 5] [0, 1, 2, 3] (fun a0 HA0 => ?_)
  have oe4 := ev HA0 4 rfl
  have oe6 := ev HA0 6 rfl
  have oe7 := ev HA0 7 rfl
  refine QSeq.pure rfl _ (fun E => ex_loadA rfl Try.underlying67 rfl (off := 0) (cs := cn) (by rw [HCN.out]; kernel_rfl) (E.v oe6) (Cs.whole Hx7.out)) ?_
  refine QSeq.pure rfl _ (fun E => ex_move rfl (E.v oe7)) ?_
  refine QSeq.go fun act E => ?_
  refine qc_store rfl (wanted_none rfl) rfl (HB4.out.mod Cx8.out (fun h => h)) (off := 0) (vs := cn) (by rw [HCN.out]; kernel_rfl) HNO.out (by rw [HCN.out]; decide) (E.v oe4) (ec (E.d 0 1)) ?_
  intro u4_2 qc0 hm
  have qB4 := qc0.eqv (b := (cn : List Value).toArray) (lay_whole _ _ (by rw [HCN.out]; kernel_rfl))
  clear qc0
  have Hx10 := hid qB4
  have zu4_2 := hm.size
  have Cx11 := hid (show Mod (fun k => (k = w.heap.size)) u1_7 u4_2 from hm)
  clear hm
  clear act E qB4 HB4
  refine QSeq.pure rfl _ (fun E => ex_assign rfl (E.d 1 1)) ?_
  refine QSeq.nil (t' := [_, _, _, _]) rfl ?_
  obtain rfl := HA0.out
  clear HA0 oe4 oe6 oe7
  simp only [pz, Act.put, sIB, sCZ, sCS, List.set_nil]
  go_wp2
  refine bodyPost_ret (results_cellA_tmp rfl _ _ (w.heap.size) cn rfl (fun ix u hu => by rw [Hx10.out.cell]; simpa using hu) Try.underlying67 rfl (by rw [HCN.out]; kernel_rfl)) rfl ?_
  exact ⟨_, rfl, ((Hx9.out.mod Cx11.out (by intro k h1 h2; omega)).widen (R' := (fun k => New w u4_2 k)) (by intro k h1; omega)), ((HM0.out.trans Cx8.out (fun _ _ h => h.elim)).trans Cx11.out (by intro k h1 h2; omega))⟩
end Go.Proofs.Ytekbmpjdombedaa

/- net.Net: Double. -/
namespace Go.Proofs.Ytekbmpjdombedaa
open Go Go.RowKit Go.Gv

set_option maxHeartbeats 4000000 in
theorem Double_yes {Eb : Nat → Prop} {w : World} {x : Nat} {v : Value} {mo sn lo : Int} {l : List Mg} {k : Nat} (h : NtV Eb w x v mo l sn lo) (hk : k < l.length ∧ ((l.length : Nat) : Int) < mo) (hmo : mo ≤ 4096) : Calls Try.prog 16 #[.pointer (some ⟨x, 0, none⟩), .int .i64 ((k : Nat) : Int)] w fun e w' => ∃ v', e = .returned (.bool true) ∧ NtV (fun k => Eb k ∨ New w w' k) w' x v' mo (l ++ [l[k]'hk.1]) sn lo ∧
    (∀ k, v'.ownBlock = some k → v.ownBlock = some k ∨ New w w' k) ∧ Mod (fun k => k = x ∨ v.ownBlock = some k) w w' := by
  have HNV := Lib.hid h
  obtain ⟨hc, hbE, hxE, hvx, ho0⟩ := h
  obtain ⟨Q1, hQ1, ho⟩ : ∃ Q : Nat → Prop, (∀ k, Q k ↔ v.ownBlock = some k) ∧ OwS MgR 67 Q Eb w v l := ⟨_, fun _ => Iff.rfl, ho0⟩
  have hbq : ∀ k, Q1 k → k < w.heap.size := fun k hk => ho0.lt ((hQ1 k).1 hk)
  have hxq : ¬ Q1 x := fun hk => hvx ((hQ1 x).1 hk)
  obtain ⟨ao, cap, rfl⟩ := ho.shape
  have hxl := hc.lt
  have hlm : l.length ≤ 9223372036854775807 := by rw [← maxLen_val]; exact ho.rd.bd
  have HNT := hid (show Cs w x #[.int .i64 mo, Value.slice ao l.length cap, .int .i64 sn, .int .i64 lo] 87 from hc)
  have HOL := Lib.hid ho
  have HQ1 := Lib.hid hQ1
  have HBQ := Lib.hid hbq
  have HBE := Lib.hid hbE
  have HXQ := Lib.hid hxq
  have HXE := Lib.hid hxE
  clear hc ho0 ho hQ1 hbE hxE hvx hbq hxq
  go_enter Try.func16, Try.ntmps16
  go_upto_region 1 with (fail)
  have HM0 := hid (Mod.refl (fun k => (k = x) ∨ (Q1 k)) w)
  go_upto_region 1 with (fail)
  generalize ha0 : Act.mk _ _ = a0
  have oe0 : a0.eval (.tmp 0) = .pointer (some ⟨x, 0, none⟩) := by rw [← ha0]; rfl
  have oe1 : a0.eval (.tmp 1) = .int .i64 ((k : Nat) : Int) := by rw [← ha0]; rfl
  have hsz0 : a0.tmps.size = 37 := by rw [← ha0]; rfl
  have HA0 := hid ha0
  clear ha0
  refine wp_region_Q0 37 hsz0 [5, 6, 7, 8, 9, 10, 11, 12, 13, 14, 15, 16, 17, 18, 19, 20] [qi (.pointer (some ⟨x, 0, none⟩)), qi (.int .i64 ((k : Nat) : Int)), qi (.bool true), qi (.bool false), qi (.bool false), qi (.pointer (some ⟨x, 0, none⟩)), qi (.pointer (some ⟨x, 0, none⟩)), qi (.pointer (some ⟨x, 1, none⟩)), qi (.slice ao l.length cap), qi (.int .i64 l.length), qi (.pointer (some ⟨x, 0, none⟩)), qi (.pointer (some ⟨x, 0, none⟩)), qi (.pointer (some ⟨x, 0, none⟩)), qi (.int .i64 mo), qi (.bool false), qi (.bool false)] ⟨qi_stable, qi_stable, qi_stable, qi_stable, qi_stable, qi_stable, qi_stable, qi_stable, qi_stable, qi_stable, qi_stable, qi_stable, qi_stable, qi_stable, qi_stable, qi_stable, trivial⟩ [] ⟨?_, ?_, ?_, ?_, ?_, ?_, ?_, ?_, ?_, ?_, ?_, ?_, ?_, ?_, ?_, ?_, trivial⟩ ?_
  · exact stq (fun E => ex_move rfl (E.v oe0))
  · exact stq (fun E => ex_move rfl (E.v oe1))
  · refine stepq_env rfl rfl rfl fun _ _ _ _ _ hm _ _ _ hd _ _ => ?_
    have h0 := hd ⟨0, .data⟩ (by simp) rfl _ rfl
    have h1 := hd ⟨1, .data⟩ (by simp) rfl _ rfl
    refine qe_callF (args := #[.pointer (some ⟨x, 0, none⟩), .int .i64 ((k : Nat) : Int)]) rfl (wanted_none rfl) rfl Try.func22 (args2 h0 h1) (NIn_yes (k := ((k : Nat) : Int)) (n := l.length) (HNT.out.mod hm.old (by intro h2; omega)) (by omega)) ?_
    rintro e w2 ⟨rfl, hm2⟩
    exact ⟨_, rfl, QE.still hm2, rfl⟩
  · exact stq (fun E => ex_not rfl (E.d 2))
  · exact stq (fun E => ex_move rfl (E.d 3))
  · refine stepq_env rfl rfl rfl fun _ _ _ _ _ _ _ hout hsz hd _ _ => ?_
    have h4 := hd ⟨4, .guard⟩ (by simp) rfl _ rfl
    refine qe_run rfl ((wanted_of rfl rfl (hsz 9 (by decide)) h4).trans rfl) (ex_move rfl ((hout 0 (by decide)).trans oe0)) QE.refl ?_
    rfl
  · refine stepq_env rfl rfl rfl fun _ _ _ _ _ _ _ _ hsz hd _ _ => ?_
    have h4 := hd ⟨4, .guard⟩ (by simp) rfl _ rfl
    have h5 := hd ⟨5, .data⟩ (by simp) rfl _ rfl
    refine qe_run rfl ((wanted_of rfl rfl (hsz 9 (by decide)) h4).trans rfl) (ex_nil rfl h5) QE.refl ?_
    rfl
  · refine stepq_env rfl rfl rfl fun _ _ _ _ _ _ _ _ hsz hd _ _ => ?_
    have h4 := hd ⟨4, .guard⟩ (by simp) rfl _ rfl
    have h6 := hd ⟨6, .data⟩ (by simp) rfl _ rfl
    refine qe_run rfl ((wanted_of rfl rfl (hsz 9 (by decide)) h4).trans rfl) (ex_field rfl Try.underlying87 rfl (by kernel_rfl) h6) QE.refl ?_
    rfl
  · refine stepq_env rfl rfl rfl fun _ _ _ _ _ hm _ _ hsz hd _ _ => ?_
    have h4 := hd ⟨4, .guard⟩ (by simp) rfl _ rfl
    have h7 := hd ⟨7, .data⟩ (by simp) rfl _ rfl
    refine qe_run rfl ((wanted_of rfl rfl (hsz 9 (by decide)) h4).trans rfl) (ex_load1 rfl Try.underlying76 rfl h7 (Cs.lit1 (HNT.out.mod hm.old (by intro h2; omega)) rfl)) QE.refl ?_
    rfl
  · refine stepq_env rfl rfl rfl fun _ _ _ _ _ _ _ _ hsz hd _ _ => ?_
    have h4 := hd ⟨4, .guard⟩ (by simp) rfl _ rfl
    have h8 := hd ⟨8, .data⟩ (by simp) rfl _ rfl
    refine qe_run rfl ((wanted_of rfl rfl (hsz 9 (by decide)) h4).trans rfl) (ex_lenS rfl h8 Try.underlying76) QE.refl ?_
    rfl
  · refine stepq_env rfl rfl rfl fun _ _ _ _ _ _ _ hout hsz hd _ _ => ?_
    have h4 := hd ⟨4, .guard⟩ (by simp) rfl _ rfl
    refine qe_run rfl ((wanted_of rfl rfl (hsz 9 (by decide)) h4).trans rfl) (ex_move rfl ((hout 0 (by decide)).trans oe0)) QE.refl ?_
    rfl
  · refine stepq_env rfl rfl rfl fun _ _ _ _ _ _ _ _ hsz hd _ _ => ?_
    have h4 := hd ⟨4, .guard⟩ (by simp) rfl _ rfl
    have h10 := hd ⟨10, .data⟩ (by simp) rfl _ rfl
    refine qe_run rfl ((wanted_of rfl rfl (hsz 9 (by decide)) h4).trans rfl) (ex_nil rfl h10) QE.refl ?_
    rfl
  · refine stepq_env rfl rfl rfl fun _ _ _ _ _ _ _ _ hsz hd _ _ => ?_
    have h4 := hd ⟨4, .guard⟩ (by simp) rfl _ rfl
    have h11 := hd ⟨11, .data⟩ (by simp) rfl _ rfl
    refine qe_run rfl ((wanted_of rfl rfl (hsz 9 (by decide)) h4).trans rfl) (ex_field rfl Try.underlying87 rfl (by kernel_rfl) h11) QE.refl ?_
    rfl
  · refine stepq_env rfl rfl rfl fun _ _ _ _ _ hm _ _ hsz hd _ _ => ?_
    have h4 := hd ⟨4, .guard⟩ (by simp) rfl _ rfl
    have h12 := hd ⟨12, .data⟩ (by simp) rfl _ rfl
    refine qe_run rfl ((wanted_of rfl rfl (hsz 9 (by decide)) h4).trans rfl) (ex_load1 rfl Try.underlying3 rfl h12 (Cs.lit1 (HNT.out.mod hm.old (by intro h2; omega)) rfl)) QE.refl ?_
    rfl
  · refine stepq_env rfl rfl rfl fun _ _ _ _ _ _ _ _ hsz hd _ _ => ?_
    have h4 := hd ⟨4, .guard⟩ (by simp) rfl _ rfl
    have h9 := hd ⟨9, .data⟩ (by simp) rfl _ rfl
    have h13 := hd ⟨13, .data⟩ (by simp) rfl _ rfl
    refine qe_run rfl ((wanted_of rfl rfl (hsz 9 (by decide)) h4).trans rfl) (ex_binE rfl h9 h13 (guard_ints _ _ _ _ _ _) (run_geq_i _ _ _ Try.underlying3) (congrArg Value.bool (decide_eq_false (by omega)))) QE.refl ?_
    rfl
  · exact stq (fun E => ex_pick rfl (E.d 4) rfl (E.d 14))
  intro u1_0 hr
  have zu1_0 := hr.size
  have Cx1 := hid (hr.new (S := (fun _ => False)))
  clear hr
  refine QChain.nil fun vs hl hzz hrows hne => ?_
  obtain ⟨Z, hYZ, hZb, hV⟩ := hzz
  have f0 := fvi hV hl 0
  have f1 := fvi hV hl 1
  have f2 := fvi hV hl 2
  have f4 := fvi hV hl 4
  have f5 := fvi hV hl 5
  have f9 := fvi hV hl 9
  have f10 := fvi hV hl 10
  have f15 := fvi hV hl 15
  rw [show vs = [gw vs 0, gw vs 1, gw vs 2, gw vs 3, gw vs 4, gw vs 5, gw vs 6, gw vs 7, gw vs 8, gw vs 9, gw vs 10, gw vs 11, gw vs 12, gw vs 13, gw vs 14, gw vs 15] from (gw_eta hl).trans rfl]
  have ha0 := HA0.out
  subst ha0
  clear HA0 hV hYZ hZb hsz0 hrows hne oe0 oe1
  simp only [putAll, Act.put, sIB, sCZ, sCS, f0, f1, f2, f4, f5, f9, f10, f15]
  clear hl f0 f1 f2 f4 f5 f9 f10 f15
  obtain ⟨g0, cs, eao, hrg, hrd, hcs⟩ := (HOL.out.mod Cx1.out (fun _ _ h => h) (fun _ _ h => h)).at3 hk.1
  subst eao
  generalize hmm : l[k] = m at hrd
  have HMM := Lib.hid hmm
  have HCL := hid (show cs.length = 295 from MgR.len hrd)
  have HOC := hid (MgR.one hrd)
  have HAT := hid (show CellsAt Q1 u1_0 g0 (0 + k * 295) cs from ⟨hrg, hcs⟩)
  obtain ⟨Q2, hQ2⟩ : ∃ Q : Nat → Prop, Q = fun b => Eb b ∧ b ≠ g0 := ⟨_, rfl⟩
  rw [← hQ2] at hrd
  have HB2 := hid (show ∀ b, Q2 b → b < w.heap.size from fun b hb => by rw [hQ2] at hb; exact HBE.out b hb.1)
  have HQ2 := hid (show ∀ b, Q1 b → Q2 b → False from fun b h1 hb => by rw [hQ2] at hb; have h3 := (HQ1.out b).1 h1; cases h3; exact hb.2 rfl)
  have HQE := hid (show ∀ b, Q2 b → Eb b from fun b hb => by rw [hQ2] at hb; exact hb.1)
  have HX2 := hid (show ¬ Q2 x from fun hb => by rw [hQ2] at hb; exact HXE.out hb.1)
  have HRD := hid (show MgR.rd Q2 u1_0 cs m from hrd)
  clear hrg hrd hcs hmm hQ2
  go_upto_region 3 with (fail)
  generalize ha0 : Act.mk _ _ = a0
  have oe0 : a0.eval (.tmp 0) = .pointer (some ⟨x, 0, none⟩) := by rw [← ha0]; rfl
  have oe1 : a0.eval (.tmp 1) = .int .i64 ((k : Nat) : Int) := by rw [← ha0]; rfl
  have hsz0 : a0.tmps.size = 37 := by rw [← ha0]; rfl
  have HA0 := hid ha0
  clear ha0
  refine wp_region_Q1 37 hsz0 [21, 22, 23, 24, 25, 26, 27, 28, 29, 30, 31, 32, 33, 34, 35, 36, 53] (fun k => (Q1 k) ∨ (k = x)) (fun k j => (k = 1 ∧ ((Q1 j))) ∨ (k = 2 ∧ ((j = x)))) (by intro k j h; (try dsimp only at h ⊢); rcases h with ⟨-, h⟩ | ⟨-, h⟩; (exact Or.inl (h)); (exact Or.inr (h))) [qi (.pointer (some ⟨x, 0, none⟩)), qi (.pointer (some ⟨x, 0, none⟩)), qi (.pointer (some ⟨x, 0, none⟩)), qi (.pointer (some ⟨x, 1, none⟩)), qi (.slice (some ⟨g0, 0, none⟩) l.length cap), qi (.pointer (some ⟨x, 0, none⟩)), qi (.pointer (some ⟨x, 0, none⟩)), qi (.pointer (some ⟨x, 1, none⟩)), qi (.slice (some ⟨g0, 0, none⟩) l.length cap), qi (.int .i64 ((k : Nat) : Int)), qi (.pointer (some ⟨g0, 0 + k * 295, none⟩)), qi (.agg cs.toArray), qv 0, qv 1, qi (.pointer (some ⟨x, 0, none⟩)), qi (.pointer (some ⟨x, 1, none⟩)), qv 2] ⟨qi_stable, qi_stable, qi_stable, qi_stable, qi_stable, qi_stable, qi_stable, qi_stable, qi_stable, qi_stable, qi_stable, qi_stable, qv_stable, qv_stable, qi_stable, qi_stable, qv_stable, trivial⟩ [12, 13, 16] ⟨?_, ?_, ?_, ?_, ?_, ?_, ?_, ?_, ?_, ?_, ?_, ?_, ?_, ?_, ?_, ?_, ?_, trivial⟩ ?_
  · exact stq (fun E => ex_move rfl (E.v oe0))
  · exact stq (fun E => ex_move rfl (E.v oe0))
  · exact stq (fun E => ex_nil rfl (E.d 1))
  · exact stq (fun E => ex_field rfl Try.underlying87 rfl (by kernel_rfl) (E.d 2))
  · refine stepq_env rfl rfl rfl fun _ _ _ _ _ _ hm0 _ _ hd hub _ => ?_
    have h3 := hd ⟨3, .data⟩ (by simp) rfl _ rfl
    refine qe_run rfl (wanted_none rfl) (ex_load1 rfl Try.underlying76 rfl h3 (Cs.lit1 ((HNT.out.mod Cx1.out (fun h => h)).mod hm0 (by intro h2; have hu := hub 2 16 rfl (by kernel_rfl); rcases h2 with ⟨h0, kk, hk, h2⟩ | h2 <;> first | omega | (rcases h2 with ⟨hkk, h2⟩ | ⟨hkk, h2⟩ <;> first | omega | (have hb := HBQ.out _ h2; omega) | exact HXQ.out h2 | exact HXE.out h2 | exact HX2.out h2))) rfl)) QE.refl ?_
    rfl
  · exact stq (fun E => ex_move rfl (E.v oe0))
  · exact stq (fun E => ex_nil rfl (E.d 5))
  · exact stq (fun E => ex_field rfl Try.underlying87 rfl (by kernel_rfl) (E.d 6))
  · refine stepq_env rfl rfl rfl fun _ _ _ _ _ _ hm0 _ _ hd hub _ => ?_
    have h7 := hd ⟨7, .data⟩ (by simp) rfl _ rfl
    refine qe_run rfl (wanted_none rfl) (ex_load1 rfl Try.underlying76 rfl h7 (Cs.lit1 ((HNT.out.mod Cx1.out (fun h => h)).mod hm0 (by intro h2; have hu := hub 2 16 rfl (by kernel_rfl); rcases h2 with ⟨h0, kk, hk, h2⟩ | h2 <;> first | omega | (rcases h2 with ⟨hkk, h2⟩ | ⟨hkk, h2⟩ <;> first | omega | (have hb := HBQ.out _ h2; omega) | exact HXQ.out h2 | exact HXE.out h2 | exact HX2.out h2))) rfl)) QE.refl ?_
    rfl
  · exact stq (fun E => ex_move rfl (E.v oe1))
  · exact stq (fun E => ex_idxS (i := k) (s := 295) rfl Try.underlying76 (by kernel_rfl) (E.d 8) (E.d 9) (by omega))
  · refine stepq_env rfl rfl rfl fun _ _ _ _ _ _ hm0 _ _ hd hub _ => ?_
    have h10 := hd ⟨10, .data⟩ (by simp) rfl _ rfl
    refine qe_run rfl (wanted_none rfl) (ex_loadA rfl Try.underlying67 rfl (off := 0 + k * 295) (cs := cs) (by rw [HCL.out]; kernel_rfl) h10 (fun j u hu => ((HAT.out.mod hm0 (by intro k h1 h2; have hu := hub 1 13 rfl (by kernel_rfl); rcases h2 with ⟨h0, kk, hk, h2⟩ | h2 <;> first | omega | (first | omega | (have hb := HBQ.out k h1; omega) | (have hb := HBE.out k h1; omega) | (have hb := HB2.out k h1; omega) | (have hb := HBQ.out k h2; omega) | (have hb := HBE.out k h2; omega) | (have hb := HB2.out k h2; omega) | exact HQ2.out k h1 h2 | exact HQ2.out k h2 h1 | (have hb := HBQ.out k h1; have hb2 := HBE.out k h2; omega) | (have hb := HBQ.out k h1; have hb2 := HB2.out k h2; omega) | (have hb := HBE.out k h1; have hb2 := HBQ.out k h2; omega) | (have hb := HBE.out k h1; have hb2 := HB2.out k h2; omega) | (have hb := HB2.out k h1; have hb2 := HBQ.out k h2; omega) | (have hb := HB2.out k h1; have hb2 := HBE.out k h2; omega) | exact HXQ.out (h2 ▸ h1) | exact HXQ.out (h1 ▸ h2) | exact HXE.out (h2 ▸ h1) | exact HXE.out (h1 ▸ h2) | exact HX2.out (h2 ▸ h1) | exact HX2.out (h1 ▸ h2))))).2 j u hu)) QE.refl ?_
    rfl
  · exact stepq_chain rfl
  · exact stepq_chain rfl
  · exact stq (fun E => ex_nil rfl (E.d 0))
  · exact stq (fun E => ex_field rfl Try.underlying87 rfl (by kernel_rfl) (E.d 14))
  · exact stepq_chain rfl
  intro u3_0 hr
  have zu3_0 := hr.size
  clear HAT
  have Cx2 := hid (hr.new (S := (fun k => (Q1 k) ∨ (k = x))))
  have Hx3 := hid ((HNT.out.mod Cx1.out (fun h => h)).mod hr (by intro h2; omega))
  clear HNT
  have Hx4 := hid ((HOL.out.mod Cx1.out (fun _ _ h => h) (fun _ _ h => h)).mod hr (by intro k h1 h2; have hb := HBQ.out k h1; omega) (by intro k h1 h2; have hb := HBE.out k h1; omega))
  clear HOL
  clear hr
  refine QChain.go fun Z act E => ?_
  refine qc_buildS (e := 67) (cs := cs) (zc := [.int .i64 0, .int .i64 0, .int .i64 0, .int .i64 0, .int .i64 0, .int .u8 0, .int .u8 0, .int .u8 0, .int .u8 0, .int .u8 0, .int .u8 0, .int .u8 0, .int .u8 0, .int .u8 0, .int .u8 0, .int .u8 0, .int .u8 0, .int .u8 0, .int .u8 0, .int .u8 0, .int .u8 0, .int .u8 0, .int .u8 0, .int .u8 0, .int .u8 0, .int .u8 0, .int .u8 0, .int .u8 0, .int .u8 0, .int .u8 0, .int .u8 0, .int .u8 0, .int .u8 0, .int .u8 0, .int .u8 0, .int .u8 0, .int .u8 0, .int .i64 0, .int .i64 0, .int .i64 0, .int .i64 0, .int .i64 0, .int .i64 0, .int .u8 0, .int .u8 0, .int .u8 0, .int .u8 0, .int .u8 0, .int .u8 0, .int .u8 0, .int .u8 0, .int .u8 0, .int .u8 0, .int .u8 0, .int .u8 0, .int .u8 0, .int .u8 0, .int .u8 0, .int .u8 0, .int .u8 0, .int .u8 0, .int .u8 0, .int .u8 0, .int .u8 0, .int .u8 0, .int .u8 0, .int .u8 0, .int .u8 0, .int .u8 0, .int .u8 0, .int .u8 0, .int .u8 0, .int .u8 0, .int .u8 0, .int .u8 0, .int .u64 0, .int .i64 0, .int .i64 0, .int .i64 0, .int .i64 0, .int .u8 0, .int .u8 0, .int .u8 0, .int .u8 0, .int .u8 0, .int .u8 0, .int .u8 0, .int .u8 0, .int .u8 0, .int .u8 0, .int .u8 0, .int .u8 0, .int .u8 0, .int .u8 0, .int .u8 0, .int .u8 0, .int .u8 0, .int .u8 0, .int .u8 0, .int .u8 0, .int .u8 0, .int .u8 0, .int .u8 0, .int .u8 0, .int .u8 0, .int .u8 0, .int .u8 0, .int .u8 0, .int .u8 0, .int .u8 0, .int .u8 0, .int .u8 0, .int .i64 0, .int .i64 0, .int .i64 0, .slice none 0 0, .int .i64 0, .int .i64 0, .int .i64 0, .int .u8 0, .int .u8 0, .int .u8 0, .int .u8 0, .int .u8 0, .int .u8 0, .int .u8 0, .int .u8 0, .int .u8 0, .int .u8 0, .int .u8 0, .int .u8 0, .int .u8 0, .int .u8 0, .int .u8 0, .int .u8 0, .int .u8 0, .int .u8 0, .int .u8 0, .int .u8 0, .int .u8 0, .int .u8 0, .int .u8 0, .int .u8 0, .int .u8 0, .int .u8 0, .int .u8 0, .int .u8 0, .int .u8 0, .int .u8 0, .int .u8 0, .int .u8 0, .int .u64 0, .int .i64 0, .int .i64 0, .int .i64 0, .int .i64 0, .int .u64 0, .int .i64 0, .int .i64 0, .int .u64 0, .slice none 0 0, .int .i64 0, .int .i64 0, .int .i64 0, .int .i64 0, .int .i64 0, .int .i64 0, .int .i64 0, .int .u64 0, .slice none 0 0, .slice none 0 0, .slice none 0 0, .int .i64 0, .int .i64 0, .int .i64 0, .int .i64 0, .int .i64 0, .int .i64 0, .int .u8 0, .int .u8 0, .int .u8 0, .int .u8 0, .int .u8 0, .int .u8 0, .int .u8 0, .int .u8 0, .int .u8 0, .int .u8 0, .int .u8 0, .int .u8 0, .int .u8 0, .int .u8 0, .int .u8 0, .int .u8 0, .int .u8 0, .int .u8 0, .int .u8 0, .int .u8 0, .int .u8 0, .int .u8 0, .int .u8 0, .int .u8 0, .int .u8 0, .int .u8 0, .int .u8 0, .int .u8 0, .int .u8 0, .int .u8 0, .int .u8 0, .int .u8 0, .int .i64 0, .int .i64 0, .int .i64 0, .int .i64 0, .int .i64 0, .int .u8 0, .int .u8 0, .int .u8 0, .int .u8 0, .int .u8 0, .int .u8 0, .int .u8 0, .int .u8 0, .int .u8 0, .int .u8 0, .int .u8 0, .int .u8 0, .int .u8 0, .int .u8 0, .int .u8 0, .int .u8 0, .int .u8 0, .int .u8 0, .int .u8 0, .int .u8 0, .int .u8 0, .int .u8 0, .int .u8 0, .int .u8 0, .int .u8 0, .int .u8 0, .int .u8 0, .int .u8 0, .int .u8 0, .int .u8 0, .int .u8 0, .int .u8 0, .int .u64 0, .int .i64 0, .slice none 0 0, .int .u8 0, .int .u8 0, .int .u8 0, .int .u8 0, .int .u8 0, .int .u8 0, .int .u8 0, .int .u8 0, .int .u8 0, .int .u8 0, .int .u8 0, .int .u8 0, .int .u8 0, .int .u8 0, .int .u8 0, .int .u8 0, .int .u8 0, .int .u8 0, .int .u8 0, .int .u8 0, .int .u8 0, .int .u8 0, .int .u8 0, .int .u8 0, .int .u8 0, .int .u8 0, .int .u8 0, .int .u8 0, .int .u8 0, .int .u8 0, .int .u8 0, .int .u8 0, .int .i64 0, .int .i64 0, .int .i64 0, .int .i64 0, .string ByteArray.empty, .int .i64 0, .int .i64 0, .int .i64 0, .int .u64 0, .slice none 0 0, .slice none 0 0, .slice none 0 0, .slice none 0 0]) (sz := 295) rfl (wanted_none rfl) rfl Try.underlying76 (by kernel_rfl) rfl (by decide) (by decide) (E.d 11) HCL.out ?_
  intro u3_1a qrow hm
  have zl3_12 := qrow.lt
  have zu3_1a := hm.size
  refine ⟨hm.mono (fun _ _ h => h.elim), (fun _ => rfl), ?_⟩
  intro u3_1 hr
  have zu3_1 := hr.size
  have Hx5 := hid (qrow.mod hr (by intro h2; omega))
  have hmr := Mod.after hm hr
  have Hx6 := hid (Hx3.out.mod hmr (by intro h2; omega))
  have Hx7 := hid (Hx4.out.mod hmr (by intro k h1 h2; have hb := HBQ.out k h1; omega) (by intro k h1 h2; have hb := HBE.out k h1; omega))
  clear Hx3 Hx4
  clear hmr
  have Cx8 := hid (Cx2.out.go hm hr)
  clear Cx2 hm hr Z act E qrow
  refine QChain.go fun Z act E => ?_
  refine qc_appS (A := MgR) (e := 67) rfl (wanted_none rfl) rfl (.agg (mg0C 0 0 0).toArray) 960 Try.underlying76 info_Mg (by rfl) (of_decide_eq_true (by kernel_rfl)) (E.d 4) (chv (v := .slice (some ⟨u3_0.heap.size, 0, none⟩) 1 1) (E.d 12)) (Hx7.out) (RdS.single (R := (fun k => (Q2 k) ∨ (k = u3_0.heap.size))) Hx5.out ((HRD.out.mod Cx8.out (by intro k h1 h2; rcases h2 with h2 | h2 <;> first | omega | (have hb := HB2.out k h1; omega) | (have hb := HBQ.out k h2; omega) | exact HQ2.out k h1 h2 | exact HQ2.out k h2 h1 | (have hb := HB2.out k h1; have hb2 := HBQ.out k h2; omega) | exact HXQ.out (h2 ▸ h1) | exact HXQ.out (h1 ▸ h2) | exact HXE.out (h2 ▸ h1) | exact HXE.out (h1 ▸ h2) | exact HX2.out (h2 ▸ h1) | exact HX2.out (h1 ▸ h2))).widen (fun k h => Or.inl h)) (by right; rfl)) (by intro k h1 h2; rcases h1 with h1 | h1 <;> first | omega | (have hb := HB2.out k h1; omega) | (have hb := HBQ.out k h2; omega) | exact HQ2.out k h1 h2 | exact HQ2.out k h2 h1 | (have hb := HB2.out k h1; have hb2 := HBQ.out k h2; omega) | exact HXQ.out (h2 ▸ h1) | exact HXQ.out (h1 ▸ h2) | exact HXE.out (h2 ▸ h1) | exact HXE.out (h1 ▸ h2) | exact HX2.out (h2 ▸ h1) | exact HX2.out (h1 ▸ h2)) (by simp only [List.length_cons, List.length_nil]; omega) (by rw [maxLen_val]; simp only [List.length_cons, List.length_nil]; omega) ?_
  intro ao4 cap4 u3_2a ql hm
  have zu3_2a := hm.size
  refine ⟨hm.mono (by intro k hk h; first | omega | exact Or.inl ⟨(by have hb := HBQ.out k h; omega), Or.inl ⟨rfl, h⟩⟩), (fun _ => rfl), ?_⟩
  intro u3_2 hr
  have zu3_2 := hr.size
  have Hx9 := hid ((ql.widen (R' := (fun k => (Q1 k) ∨ (New u3_1 u3_2a k))) (E' := (fun k => (Eb k) ∨ (Q2 k) ∨ (k = u3_0.heap.size))) (fun _ h => h) (by intro k h1; rcases h1 with h1 | (h1 | h1) <;> first | omega | exact h1.elim | exact Or.inl h1 | exact Or.inr (Or.inl h1) | exact Or.inr (Or.inr (h1)))).mod hr (by intro k h1 h2; rcases h1 with h1 | h1 <;> first | omega | (have hb := HBQ.out k h1; omega) | exact HXQ.out (h2 ▸ h1) | exact HXQ.out (h1 ▸ h2) | exact HXE.out (h2 ▸ h1) | exact HXE.out (h1 ▸ h2) | exact HX2.out (h2 ▸ h1) | exact HX2.out (h1 ▸ h2)) (by intro k h1 h2; rcases h1 with h1 | h1 | h1 <;> first | omega | (have hb := HBE.out k h1; omega) | (have hb := HB2.out k h1; omega) | exact HXQ.out (h2 ▸ h1) | exact HXQ.out (h1 ▸ h2) | exact HXE.out (h2 ▸ h1) | exact HXE.out (h1 ▸ h2) | exact HX2.out (h2 ▸ h1) | exact HX2.out (h1 ▸ h2)))
  have hmr := hm.two hr
  have Hx10 := hid (Hx6.out.mod hmr (by intro h2; rcases h2 with h2 | h2 <;> first | omega | (have hb := HBQ.out _ h2; omega) | exact HXQ.out h2 | exact HXE.out h2 | exact HX2.out h2))
  have Hx11 := hid (Hx5.out.mod hmr (by intro h2; rcases h2 with h2 | h2 <;> first | omega | (have hb := HBQ.out _ h2; omega) | exact HXQ.out h2 | exact HXE.out h2 | exact HX2.out h2))
  clear Hx6 Hx5
  clear hmr
  have Cx12 := hid (Cx8.out.goM hm hr (by intro k h0 h2; first | omega | exact Or.inl h2 | exact Or.inr (h2)))
  clear Cx8 hm hr Z act E ql Hx7
  refine QChain.go fun Z act E => ?_
  refine qc_store rfl (wanted_none rfl) rfl Hx10.out (off := 1) (vs := [Value.slice ao4 (l.length + 1) cap4]) (by kernel_rfl) one1 (by simp) (E.d 15) (ec (chv (v := .slice ao4 (l.length + 1) cap4) (E.d 13))) ?_
  intro u3_3a qc0 hm
  have qnt := qc0.eqv (b := #[.int .i64 mo, Value.slice ao4 (l.length + 1) cap4, .int .i64 sn, .int .i64 lo]) rfl
  clear qc0
  have zu3_3a := hm.size
  refine ⟨hm.mono (by intro k hk h; omega), (fun _ => rfl), ?_⟩
  intro u3_3 hr
  have zu3_3 := hr.size
  have Hx13 := hid (qnt.mod hr (by intro h2; omega))
  have hmr := hm.two hr
  have Hx14 := hid (Hx9.out.mod hmr (by intro k h1 h2; rcases h1 with h1 | h1 <;> rcases h2 with h2 | h2 <;> first | omega | (have hb := HBQ.out k h1; omega) | exact HXQ.out (h2 ▸ h1) | exact HXQ.out (h1 ▸ h2) | exact HXE.out (h2 ▸ h1) | exact HXE.out (h1 ▸ h2) | exact HX2.out (h2 ▸ h1) | exact HX2.out (h1 ▸ h2)) (by intro k h1 h2; rcases h1 with h1 | h1 | h1 <;> rcases h2 with h2 | h2 <;> first | omega | (have hb := HBE.out k h1; omega) | (have hb := HB2.out k h1; omega) | exact HXQ.out (h2 ▸ h1) | exact HXQ.out (h1 ▸ h2) | exact HXE.out (h2 ▸ h1) | exact HXE.out (h1 ▸ h2) | exact HX2.out (h2 ▸ h1) | exact HX2.out (h1 ▸ h2)))
  have Hx15 := hid (Hx11.out.mod hmr (by intro h2; omega))
  clear Hx9 Hx11
  clear hmr
  have Cx16 := hid (Cx12.out.goM hm hr (by intro k h0 h2; first | omega | exact Or.inl h2 | exact Or.inr (h2)))
  clear Cx12 hm hr Z act E qnt Hx10
  refine QChain.nil fun vs hl hzz hrows hne => ?_
  obtain ⟨Z, hYZ, hZb, hV⟩ := hzz
  have f0 := fvi hV hl 0
  have f1 := fvi hV hl 1
  have f5 := fvi hV hl 5
  have f9 := fvi hV hl 9
  have f12 := fvc hV hl 12
  have f13 := fvc hV hl 13
  rw [show vs = [gw vs 0, gw vs 1, gw vs 2, gw vs 3, gw vs 4, gw vs 5, gw vs 6, gw vs 7, gw vs 8, gw vs 9, gw vs 10, gw vs 11, gw vs 12, gw vs 13, gw vs 14, gw vs 15, gw vs 16] from (gw_eta hl).trans rfl]
  have ha0 := HA0.out
  subst ha0
  clear HA0 hV hYZ hZb hsz0 hrows hne oe0 oe1
  simp only [putAll, Act.put, sIB, sCZ, sCS, List.set_nil, f0, f1, f5, f9, f12, f13]
  clear hl f0 f1 f5 f9 f12 f13
  go_upto_region 4 with (fail)
  refine wp_region_U 37 [4] [0] (fun a0 HA0 => ?_)
  refine QSeq.pure rfl (.bool true) (fun E => ex_assign rfl rfl) ?_
  refine QSeq.nil (t' := [_]) rfl ?_
  obtain rfl := HA0.out
  clear HA0
  simp only [pz, Act.put, sIB, sCZ, sCS]
  go_wp2
  go_ret
  refine ⟨.slice ao4 (l.length + 1) cap4, rfl, ?_⟩
  rw [HMM.out]
  exact ⟨⟨Hx13.out, (fun k hk => by rcases hk with hk | hk; (have hb := HBE.out k hk; omega); exact hk.2), (fun hk => by rcases hk with hk | hk; exact HXE.out hk; (have := hk.1; omega)), (fun hk => by have hk := (Hx14.out).blk _ hk; rcases hk with hk | hk <;> first | exact HXQ.out hk | omega), (Hx14.out.widen (R' := (fun k => (Q1 k) ∨ (New u3_1 u3_2a k))) (E' := fun k => Eb k ∨ New w u3_3 k) (fun _ h => h) (by intro k hk; rcases hk with hk | hk | hk <;> first | exact Or.inl hk | exact Or.inl (HQE.out _ hk) | exact Or.inr (by unfold New; omega))).own⟩, (fun k hk => by have hk := (Hx14.out).blk _ hk; rcases hk with hk | hk <;> first | exact Or.inl ((HQ1.out _).1 hk) | exact Or.inr (by unfold New; omega)), (((HM0.out.trans Cx1.out (fun _ _ h => h.elim)).trans Cx16.out (by intro k h1 h2; rcases h2 with h2 | h2 <;> first | exact h2 | omega | exact Or.inl h2 | exact Or.inr h2 | exact Or.inr (Or.inl h2) | exact Or.inr (Or.inr h2) | (have hb := HBQ.out k h2; omega))).mono (fun k _ hk => by rcases hk with hk | hk; exact Or.inl hk; exact Or.inr ((HQ1.out k).1 hk)))⟩
set_option maxHeartbeats 4000000 in
theorem Double_full {Eb : Nat → Prop} {w : World} {x : Nat} {v : Value} {mo sn lo : Int} {l : List Mg} {k : Nat} (h : NtV Eb w x v mo l sn lo) (hk : k < l.length ∧ mo ≤ (l.length : Nat)) : Calls Try.prog 16 #[.pointer (some ⟨x, 0, none⟩), .int .i64 ((k : Nat) : Int)] w fun e w' => e = .returned (.bool false) ∧ Mod (fun _ => False) w w' := by
  have HNV := Lib.hid h
  obtain ⟨hc, hbE, hxE, hvx, ho0⟩ := h
  obtain ⟨Q1, hQ1, ho⟩ : ∃ Q : Nat → Prop, (∀ k, Q k ↔ v.ownBlock = some k) ∧ OwS MgR 67 Q Eb w v l := ⟨_, fun _ => Iff.rfl, ho0⟩
  have hbq : ∀ k, Q1 k → k < w.heap.size := fun k hk => ho0.lt ((hQ1 k).1 hk)
  have hxq : ¬ Q1 x := fun hk => hvx ((hQ1 x).1 hk)
  obtain ⟨ao, cap, rfl⟩ := ho.shape
  have hxl := hc.lt
  have hlm : l.length ≤ 9223372036854775807 := by rw [← maxLen_val]; exact ho.rd.bd
  have HNT := hid (show Cs w x #[.int .i64 mo, Value.slice ao l.length cap, .int .i64 sn, .int .i64 lo] 87 from hc)
  have HOL := Lib.hid ho
  have HQ1 := Lib.hid hQ1
  have HBQ := Lib.hid hbq
  have HBE := Lib.hid hbE
  have HXQ := Lib.hid hxq
  have HXE := Lib.hid hxE
  clear hc ho0 ho hQ1 hbE hxE hvx hbq hxq
  go_enter Try.func16, Try.ntmps16
  go_upto_region 1 with (fail)
  have HM0 := hid (Mod.refl (fun _ => False) w)
  go_upto_region 1 with (fail)
  generalize ha0 : Act.mk _ _ = a0
  have oe0 : a0.eval (.tmp 0) = .pointer (some ⟨x, 0, none⟩) := by rw [← ha0]; rfl
  have oe1 : a0.eval (.tmp 1) = .int .i64 ((k : Nat) : Int) := by rw [← ha0]; rfl
  have hsz0 : a0.tmps.size = 37 := by rw [← ha0]; rfl
  have HA0 := hid ha0
  clear ha0
  refine wp_region_Q0 37 hsz0 [5, 6, 7, 8, 9, 10, 11, 12, 13, 14, 15, 16, 17, 18, 19, 20] [qi (.pointer (some ⟨x, 0, none⟩)), qi (.int .i64 ((k : Nat) : Int)), qi (.bool true), qi (.bool false), qi (.bool false), qi (.pointer (some ⟨x, 0, none⟩)), qi (.pointer (some ⟨x, 0, none⟩)), qi (.pointer (some ⟨x, 1, none⟩)), qi (.slice ao l.length cap), qi (.int .i64 l.length), qi (.pointer (some ⟨x, 0, none⟩)), qi (.pointer (some ⟨x, 0, none⟩)), qi (.pointer (some ⟨x, 0, none⟩)), qi (.int .i64 mo), qi (.bool true), qi (.bool true)] ⟨qi_stable, qi_stable, qi_stable, qi_stable, qi_stable, qi_stable, qi_stable, qi_stable, qi_stable, qi_stable, qi_stable, qi_stable, qi_stable, qi_stable, qi_stable, qi_stable, trivial⟩ [] ⟨?_, ?_, ?_, ?_, ?_, ?_, ?_, ?_, ?_, ?_, ?_, ?_, ?_, ?_, ?_, ?_, trivial⟩ ?_
  · exact stq (fun E => ex_move rfl (E.v oe0))
  · exact stq (fun E => ex_move rfl (E.v oe1))
  · refine stepq_env rfl rfl rfl fun _ _ _ _ _ hm _ _ _ hd _ _ => ?_
    have h0 := hd ⟨0, .data⟩ (by simp) rfl _ rfl
    have h1 := hd ⟨1, .data⟩ (by simp) rfl _ rfl
    refine qe_callF (args := #[.pointer (some ⟨x, 0, none⟩), .int .i64 ((k : Nat) : Int)]) rfl (wanted_none rfl) rfl Try.func22 (args2 h0 h1) (NIn_yes (k := ((k : Nat) : Int)) (n := l.length) (HNT.out.mod hm.old (by intro h2; omega)) (by omega)) ?_
    rintro e w2 ⟨rfl, hm2⟩
    exact ⟨_, rfl, QE.still hm2, rfl⟩
  · exact stq (fun E => ex_not rfl (E.d 2))
  · exact stq (fun E => ex_move rfl (E.d 3))
  · refine stepq_env rfl rfl rfl fun _ _ _ _ _ _ _ hout hsz hd _ _ => ?_
    have h4 := hd ⟨4, .guard⟩ (by simp) rfl _ rfl
    refine qe_run rfl ((wanted_of rfl rfl (hsz 9 (by decide)) h4).trans rfl) (ex_move rfl ((hout 0 (by decide)).trans oe0)) QE.refl ?_
    rfl
  · refine stepq_env rfl rfl rfl fun _ _ _ _ _ _ _ _ hsz hd _ _ => ?_
    have h4 := hd ⟨4, .guard⟩ (by simp) rfl _ rfl
    have h5 := hd ⟨5, .data⟩ (by simp) rfl _ rfl
    refine qe_run rfl ((wanted_of rfl rfl (hsz 9 (by decide)) h4).trans rfl) (ex_nil rfl h5) QE.refl ?_
    rfl
  · refine stepq_env rfl rfl rfl fun _ _ _ _ _ _ _ _ hsz hd _ _ => ?_
    have h4 := hd ⟨4, .guard⟩ (by simp) rfl _ rfl
    have h6 := hd ⟨6, .data⟩ (by simp) rfl _ rfl
    refine qe_run rfl ((wanted_of rfl rfl (hsz 9 (by decide)) h4).trans rfl) (ex_field rfl Try.underlying87 rfl (by kernel_rfl) h6) QE.refl ?_
    rfl
  · refine stepq_env rfl rfl rfl fun _ _ _ _ _ hm _ _ hsz hd _ _ => ?_
    have h4 := hd ⟨4, .guard⟩ (by simp) rfl _ rfl
    have h7 := hd ⟨7, .data⟩ (by simp) rfl _ rfl
    refine qe_run rfl ((wanted_of rfl rfl (hsz 9 (by decide)) h4).trans rfl) (ex_load1 rfl Try.underlying76 rfl h7 (Cs.lit1 (HNT.out.mod hm.old (by intro h2; omega)) rfl)) QE.refl ?_
    rfl
  · refine stepq_env rfl rfl rfl fun _ _ _ _ _ _ _ _ hsz hd _ _ => ?_
    have h4 := hd ⟨4, .guard⟩ (by simp) rfl _ rfl
    have h8 := hd ⟨8, .data⟩ (by simp) rfl _ rfl
    refine qe_run rfl ((wanted_of rfl rfl (hsz 9 (by decide)) h4).trans rfl) (ex_lenS rfl h8 Try.underlying76) QE.refl ?_
    rfl
  · refine stepq_env rfl rfl rfl fun _ _ _ _ _ _ _ hout hsz hd _ _ => ?_
    have h4 := hd ⟨4, .guard⟩ (by simp) rfl _ rfl
    refine qe_run rfl ((wanted_of rfl rfl (hsz 9 (by decide)) h4).trans rfl) (ex_move rfl ((hout 0 (by decide)).trans oe0)) QE.refl ?_
    rfl
  · refine stepq_env rfl rfl rfl fun _ _ _ _ _ _ _ _ hsz hd _ _ => ?_
    have h4 := hd ⟨4, .guard⟩ (by simp) rfl _ rfl
    have h10 := hd ⟨10, .data⟩ (by simp) rfl _ rfl
    refine qe_run rfl ((wanted_of rfl rfl (hsz 9 (by decide)) h4).trans rfl) (ex_nil rfl h10) QE.refl ?_
    rfl
  · refine stepq_env rfl rfl rfl fun _ _ _ _ _ _ _ _ hsz hd _ _ => ?_
    have h4 := hd ⟨4, .guard⟩ (by simp) rfl _ rfl
    have h11 := hd ⟨11, .data⟩ (by simp) rfl _ rfl
    refine qe_run rfl ((wanted_of rfl rfl (hsz 9 (by decide)) h4).trans rfl) (ex_field rfl Try.underlying87 rfl (by kernel_rfl) h11) QE.refl ?_
    rfl
  · refine stepq_env rfl rfl rfl fun _ _ _ _ _ hm _ _ hsz hd _ _ => ?_
    have h4 := hd ⟨4, .guard⟩ (by simp) rfl _ rfl
    have h12 := hd ⟨12, .data⟩ (by simp) rfl _ rfl
    refine qe_run rfl ((wanted_of rfl rfl (hsz 9 (by decide)) h4).trans rfl) (ex_load1 rfl Try.underlying3 rfl h12 (Cs.lit1 (HNT.out.mod hm.old (by intro h2; omega)) rfl)) QE.refl ?_
    rfl
  · refine stepq_env rfl rfl rfl fun _ _ _ _ _ _ _ _ hsz hd _ _ => ?_
    have h4 := hd ⟨4, .guard⟩ (by simp) rfl _ rfl
    have h9 := hd ⟨9, .data⟩ (by simp) rfl _ rfl
    have h13 := hd ⟨13, .data⟩ (by simp) rfl _ rfl
    refine qe_run rfl ((wanted_of rfl rfl (hsz 9 (by decide)) h4).trans rfl) (ex_binE rfl h9 h13 (guard_ints _ _ _ _ _ _) (run_geq_i _ _ _ Try.underlying3) (congrArg Value.bool (decide_eq_true (by omega)))) QE.refl ?_
    rfl
  · exact stq (fun E => ex_pick rfl (E.d 4) rfl (E.d 14))
  intro u1_0 hr
  have zu1_0 := hr.size
  have Cx1 := hid (hr.new (S := (fun _ => False)))
  clear hr
  refine QChain.nil fun vs hl hzz hrows hne => ?_
  obtain ⟨Z, hYZ, hZb, hV⟩ := hzz
  have f0 := fvi hV hl 0
  have f1 := fvi hV hl 1
  have f2 := fvi hV hl 2
  have f4 := fvi hV hl 4
  have f5 := fvi hV hl 5
  have f9 := fvi hV hl 9
  have f10 := fvi hV hl 10
  have f15 := fvi hV hl 15
  rw [show vs = [gw vs 0, gw vs 1, gw vs 2, gw vs 3, gw vs 4, gw vs 5, gw vs 6, gw vs 7, gw vs 8, gw vs 9, gw vs 10, gw vs 11, gw vs 12, gw vs 13, gw vs 14, gw vs 15] from (gw_eta hl).trans rfl]
  have ha0 := HA0.out
  subst ha0
  clear HA0 hV hYZ hZb hsz0 hrows hne oe0 oe1
  simp only [putAll, Act.put, sIB, sCZ, sCS, f0, f1, f2, f4, f5, f9, f10, f15]
  clear hl f0 f1 f2 f4 f5 f9 f10 f15
  go_upto_region 2 with (fail)
  refine wp_region_U 37 [4] [0] (fun a0 HA0 => ?_)
  refine QSeq.pure rfl (.bool false) (fun E => ex_assign rfl rfl) ?_
  refine QSeq.nil (t' := [_]) rfl ?_
  obtain rfl := HA0.out
  clear HA0
  simp only [pz, Act.put, sIB, sCZ, sCS]
  go_wp2
  go_ret
  exact ⟨rfl, (HM0.out.trans Cx1.out (fun _ _ h => h.elim))⟩
set_option maxHeartbeats 4000000 in
theorem Double_out {Eb : Nat → Prop} {w : World} {x : Nat} {v : Value} {mo sn lo : Int} {l : List Mg} {k : Int} (h : NtV Eb w x v mo l sn lo) (hk : ¬ (0 ≤ k ∧ k < (l.length : Nat))) : Calls Try.prog 16 #[.pointer (some ⟨x, 0, none⟩), .int .i64 k] w fun e w' => e = .returned (.bool false) ∧ Mod (fun _ => False) w w' := by
  have HNV := Lib.hid h
  obtain ⟨hc, hbE, hxE, hvx, ho0⟩ := h
  obtain ⟨Q1, hQ1, ho⟩ : ∃ Q : Nat → Prop, (∀ k, Q k ↔ v.ownBlock = some k) ∧ OwS MgR 67 Q Eb w v l := ⟨_, fun _ => Iff.rfl, ho0⟩
  have hbq : ∀ k, Q1 k → k < w.heap.size := fun k hk => ho0.lt ((hQ1 k).1 hk)
  have hxq : ¬ Q1 x := fun hk => hvx ((hQ1 x).1 hk)
  obtain ⟨ao, cap, rfl⟩ := ho.shape
  have hxl := hc.lt
  have hlm : l.length ≤ 9223372036854775807 := by rw [← maxLen_val]; exact ho.rd.bd
  have HNT := hid (show Cs w x #[.int .i64 mo, Value.slice ao l.length cap, .int .i64 sn, .int .i64 lo] 87 from hc)
  have HOL := Lib.hid ho
  have HQ1 := Lib.hid hQ1
  have HBQ := Lib.hid hbq
  have HBE := Lib.hid hbE
  have HXQ := Lib.hid hxq
  have HXE := Lib.hid hxE
  clear hc ho0 ho hQ1 hbE hxE hvx hbq hxq
  go_enter Try.func16, Try.ntmps16
  go_upto_region 1 with (fail)
  have HM0 := hid (Mod.refl (fun _ => False) w)
  go_upto_region 1 with (fail)
  generalize ha0 : Act.mk _ _ = a0
  have oe0 : a0.eval (.tmp 0) = .pointer (some ⟨x, 0, none⟩) := by rw [← ha0]; rfl
  have oe1 : a0.eval (.tmp 1) = .int .i64 k := by rw [← ha0]; rfl
  have hsz0 : a0.tmps.size = 37 := by rw [← ha0]; rfl
  have HA0 := hid ha0
  clear ha0
  refine wp_region_Q0 37 hsz0 [5, 6, 7, 8, 9, 10, 11, 12, 13, 14, 15, 16, 17, 18, 19, 20] [qi (.pointer (some ⟨x, 0, none⟩)), qi (.int .i64 k), qi (.bool false), qi (.bool true), qi (.bool true), qi undef, qi undef, qi undef, qi undef, qi undef, qi undef, qi undef, qi undef, qi undef, qi undef, qi (.bool true)] ⟨qi_stable, qi_stable, qi_stable, qi_stable, qi_stable, qi_stable, qi_stable, qi_stable, qi_stable, qi_stable, qi_stable, qi_stable, qi_stable, qi_stable, qi_stable, qi_stable, trivial⟩ [] ⟨?_, ?_, ?_, ?_, ?_, ?_, ?_, ?_, ?_, ?_, ?_, ?_, ?_, ?_, ?_, ?_, trivial⟩ ?_
  · exact stq (fun E => ex_move rfl (E.v oe0))
  · exact stq (fun E => ex_move rfl (E.v oe1))
  · refine stepq_env rfl rfl rfl fun _ _ _ _ _ hm _ _ _ hd _ _ => ?_
    have h0 := hd ⟨0, .data⟩ (by simp) rfl _ rfl
    have h1 := hd ⟨1, .data⟩ (by simp) rfl _ rfl
    refine qe_callF (args := #[.pointer (some ⟨x, 0, none⟩), .int .i64 k]) rfl (wanted_none rfl) rfl Try.func22 (args2 h0 h1) (NIn_no (k := k) (n := l.length) (HNT.out.mod hm.old (by intro h2; omega)) hk) ?_
    rintro e w2 ⟨rfl, hm2⟩
    exact ⟨_, rfl, QE.still hm2, rfl⟩
  · exact stq (fun E => ex_not rfl (E.d 2))
  · exact stq (fun E => ex_move rfl (E.d 3))
  · refine stepq_env rfl rfl rfl fun _ _ _ _ _ _ _ _ hsz hd _ _ => ?_
    have h4 := hd ⟨4, .guard⟩ (by simp) rfl _ rfl
    exact qe_skip rfl ((wanted_of rfl rfl (hsz 9 (by decide)) h4).trans rfl) rfl
  · refine stepq_env rfl rfl rfl fun _ _ _ _ _ _ _ _ hsz hd _ _ => ?_
    have h4 := hd ⟨4, .guard⟩ (by simp) rfl _ rfl
    exact qe_skip rfl ((wanted_of rfl rfl (hsz 9 (by decide)) h4).trans rfl) rfl
  · refine stepq_env rfl rfl rfl fun _ _ _ _ _ _ _ _ hsz hd _ _ => ?_
    have h4 := hd ⟨4, .guard⟩ (by simp) rfl _ rfl
    exact qe_skip rfl ((wanted_of rfl rfl (hsz 9 (by decide)) h4).trans rfl) rfl
  · refine stepq_env rfl rfl rfl fun _ _ _ _ _ _ _ _ hsz hd _ _ => ?_
    have h4 := hd ⟨4, .guard⟩ (by simp) rfl _ rfl
    exact qe_skip rfl ((wanted_of rfl rfl (hsz 9 (by decide)) h4).trans rfl) rfl
  · refine stepq_env rfl rfl rfl fun _ _ _ _ _ _ _ _ hsz hd _ _ => ?_
    have h4 := hd ⟨4, .guard⟩ (by simp) rfl _ rfl
    exact qe_skip rfl ((wanted_of rfl rfl (hsz 9 (by decide)) h4).trans rfl) rfl
  · refine stepq_env rfl rfl rfl fun _ _ _ _ _ _ _ _ hsz hd _ _ => ?_
    have h4 := hd ⟨4, .guard⟩ (by simp) rfl _ rfl
    exact qe_skip rfl ((wanted_of rfl rfl (hsz 9 (by decide)) h4).trans rfl) rfl
  · refine stepq_env rfl rfl rfl fun _ _ _ _ _ _ _ _ hsz hd _ _ => ?_
    have h4 := hd ⟨4, .guard⟩ (by simp) rfl _ rfl
    exact qe_skip rfl ((wanted_of rfl rfl (hsz 9 (by decide)) h4).trans rfl) rfl
  · refine stepq_env rfl rfl rfl fun _ _ _ _ _ _ _ _ hsz hd _ _ => ?_
    have h4 := hd ⟨4, .guard⟩ (by simp) rfl _ rfl
    exact qe_skip rfl ((wanted_of rfl rfl (hsz 9 (by decide)) h4).trans rfl) rfl
  · refine stepq_env rfl rfl rfl fun _ _ _ _ _ _ _ _ hsz hd _ _ => ?_
    have h4 := hd ⟨4, .guard⟩ (by simp) rfl _ rfl
    exact qe_skip rfl ((wanted_of rfl rfl (hsz 9 (by decide)) h4).trans rfl) rfl
  · refine stepq_env rfl rfl rfl fun _ _ _ _ _ _ _ _ hsz hd _ _ => ?_
    have h4 := hd ⟨4, .guard⟩ (by simp) rfl _ rfl
    exact qe_skip rfl ((wanted_of rfl rfl (hsz 9 (by decide)) h4).trans rfl) rfl
  · exact stq (fun E => ex_pick rfl (E.d 4) rfl (E.d 14))
  intro u1_0 hr
  have zu1_0 := hr.size
  have Cx1 := hid (hr.new (S := (fun _ => False)))
  clear hr
  refine QChain.nil fun vs hl hzz hrows hne => ?_
  obtain ⟨Z, hYZ, hZb, hV⟩ := hzz
  have f0 := fvi hV hl 0
  have f1 := fvi hV hl 1
  have f2 := fvi hV hl 2
  have f4 := fvi hV hl 4
  have f5 := fvi hV hl 5
  have f9 := fvi hV hl 9
  have f10 := fvi hV hl 10
  have f15 := fvi hV hl 15
  rw [show vs = [gw vs 0, gw vs 1, gw vs 2, gw vs 3, gw vs 4, gw vs 5, gw vs 6, gw vs 7, gw vs 8, gw vs 9, gw vs 10, gw vs 11, gw vs 12, gw vs 13, gw vs 14, gw vs 15] from (gw_eta hl).trans rfl]
  have ha0 := HA0.out
  subst ha0
  clear HA0 hV hYZ hZb hsz0 hrows hne oe0 oe1
  simp only [putAll, Act.put, sIB, sCZ, sCS, f0, f1, f2, f4, f5, f9, f10, f15]
  clear hl f0 f1 f2 f4 f5 f9 f10 f15
  go_upto_region 2 with (fail)
  refine wp_region_U 37 [4] [0] (fun a0 HA0 => ?_)
  refine QSeq.pure rfl (.bool false) (fun E => ex_assign rfl rfl) ?_
  refine QSeq.nil (t' := [_]) rfl ?_
  obtain rfl := HA0.out
  clear HA0
  simp only [pz, Act.put, sIB, sCZ, sCS]
  go_wp2
  go_ret
  exact ⟨rfl, (HM0.out.trans Cx1.out (fun _ _ h => h.elim))⟩
end Go.Proofs.Ytekbmpjdombedaa

/- net.Net: Send. -/
namespace Go.Proofs.Ytekbmpjdombedaa
open Go Go.RowKit Go.Gv

set_option maxHeartbeats 8000000 in
theorem Send_Q {Eb : Nat → Prop} {w : World} {x : Nat} {v : Value} {mo sn lo : Int} {l : List Mg} {R2 : Nat → Prop} {ms : List Mg} {vm : Value} {p : Nat} (h : NtV Eb w x v mo l sn lo) (hms : RdS MgR R2 w vm ms) (hB2 : ∀ k, R2 k → k < w.heap.size) (h2 : ∀ k, R2 k → k ≠ x ∧ v.ownBlock ≠ some k) (hP : ∀ m ∈ ms, cpMg m) (hml : ms.length ≤ 1000) (hlo : ((l.length : Nat) : Int) ≤ mo) (hmo : mo ≤ 4096)
    (hsn : 0 ≤ sn ∧ sn ≤ 1000000) (hlb : 0 ≤ lo ∧ lo ≤ 1000000) (hp : p = min ms.length (mo - (l.length : Nat)).toNat) : Calls Try.prog 8 #[.pointer (some ⟨x, 0, none⟩), vm] w fun e w' => ∃ v', e = .returned (.int .i64 ((p : Nat) : Int)) ∧ NtV (fun k => Eb k ∨ New w w' k) w' x v' mo (l ++ ms.take p) (sn + ((p : Nat) : Int)) (lo + ((ms.length : Nat) : Int) - ((p : Nat) : Int)) ∧
    (∀ k, v'.ownBlock = some k → v.ownBlock = some k ∨ New w w' k) ∧ Mod (fun k => k = x ∨ v.ownBlock = some k) w w' := by
  obtain ⟨hc, hbE, hxE, hvx, ho0⟩ := h
  obtain ⟨Q1, hQ1, ho⟩ : ∃ Q : Nat → Prop, (∀ k, Q k ↔ v.ownBlock = some k) ∧ OwS MgR 67 Q Eb w v l := ⟨_, fun _ => Iff.rfl, ho0⟩
  have hbq : ∀ k, Q1 k → k < w.heap.size := fun k hk => ho0.lt ((hQ1 k).1 hk)
  have hxq : ¬ Q1 x := fun hk => hvx ((hQ1 x).1 hk)
  obtain ⟨ao, cap, rfl⟩ := ho.shape
  have hxl := hc.lt
  have hlm : l.length ≤ 9223372036854775807 := by rw [← maxLen_val]; exact ho.rd.bd
  have HNT := hid (show Cs w x #[.int .i64 mo, Value.slice ao l.length cap, .int .i64 sn, .int .i64 lo] 87 from hc)
  have HOL := Lib.hid ho
  have HQ1 := Lib.hid hQ1
  have HBQ := Lib.hid hbq
  have HBE := Lib.hid hbE
  have HXQ := Lib.hid hxq
  have HXE := Lib.hid hxE
  clear hc ho0 ho hQ1 hbE hxE hvx hbq hxq
  obtain ⟨am, capm, rfl⟩ := hms.shape
  have HMS := Lib.hid hms
  have HB2 := Lib.hid hB2
  have HQ2 := hid (show ∀ b, Q1 b → R2 b → False from fun b h1 hb => (h2 b hb).2 ((HQ1.out b).1 h1))
  have HX2 := hid (show ¬ R2 x from fun hb => (h2 x hb).1 rfl)
  have HP := Lib.hid hP
  obtain ⟨r, hr⟩ : ∃ r, r = (mo - (l.length : Nat)).toNat := ⟨_, rfl⟩
  have hrl : ((l.length + r : Nat) : Int) = mo := by omega
  rw [← hr] at hp
  clear hms hB2 h2 hP hr
  go_enter Try.func8, Try.ntmps8
  go_upto_region 2 with (fail)
  have HM0 := hid (Mod.refl (fun k => (k = x) ∨ (Q1 k)) w)
  go_upto_region 2 with (fail)
  refine wp_region_U 60 [8, 9, 10] [0, 1, 2] (fun a0 HA0 => ?_)
  have oe1 := ev HA0 1 rfl
  refine QSeq.pure rfl _ (fun E => ex_move rfl (E.v oe1)) ?_
  refine QSeq.pure rfl (.int .i64 ms.length) (fun E => ex_lenS rfl (E.d 0 0) Try.underlying76) ?_
  refine QSeq.pure rfl (.int .i64 0) (fun E => ex_move rfl rfl) ?_
  refine QSeq.nil (t' := [_, _, _]) rfl ?_
  obtain rfl := HA0.out
  clear HA0 oe1
  simp only [pz, Act.put, sIB, sCZ, sCS]
  go_wp2
  go_loopw [5, 10] (fun tp ti wr => ∃ (j p0 : Nat) (v0 : Value), tp = .int .i64 ((p0 : Nat) : Int) ∧ ti = .int .i64 ((j : Nat) : Int) ∧ j ≤ ms.length ∧ p0 = min j r ∧ w.heap.size ≤ wr.heap.size ∧ Cs wr x #[.int .i64 mo, v0, .int .i64 sn, .int .i64 lo] 87 ∧ OwS MgR 67 (fun k => (Q1 k) ∨ (New w wr k)) (fun k => (Eb k) ∨ (New w wr k)) wr v0 (l ++ ms.take p0) ∧ RdS MgR R2 wr (.slice am ms.length capm) ms ∧ Mod (fun k => k = x ∨ Q1 k) w wr) (fun _ ti _ => ms.length - (intOf ti).toNat)
  case atStart => exact ⟨0, 0, _, rfl, rfl, Nat.zero_le _, by omega, Nat.le_refl _, HNT.out, (by rw [List.take_zero, List.append_nil]; exact HOL.out.widen (fun _ h => Or.inl h) (fun _ h => Or.inl h)), HMS.out, HM0.out⟩
  case round =>
    obtain ⟨j, p0, v0, rfl, rfl, hj, hp0, hz, k1, k2, k3, k4⟩ := hrel
    obtain ⟨wl, rfl⟩ : ∃ x, x = wr := ⟨_, rfl⟩
    have hll : (l ++ ms.take p0).length = l.length + p0 := by rw [List.length_append, List.length_take]; omega
    obtain ⟨aol, capl, rfl⟩ := k2.shape
    have K1 := Lib.hid k1
    have K2 := Lib.hid k2
    have K3 := Lib.hid k3
    have K4 := Lib.hid k4
    clear k1 k2 k3 k4 HNT HOL HMS HM0
    by_cases hlt : j < ms.length
    · skip
      go_upto_region 3 with (fail)
      refine wp_region_U 60 [11] [0] (fun a0 HA0 => ?_)
      have oe9 := ev HA0 9 rfl
      have oe10 := ev HA0 10 rfl
      refine QSeq.pure rfl (.bool true) (fun E => ex_binE rfl (E.v oe10) (E.v oe9) (guard_ints _ _ _ _ _ _) (run_lss_i _ _ _ Try.underlying3) (congrArg Value.bool (decide_eq_true (by omega)))) ?_
      refine QSeq.nil (t' := [_]) rfl ?_
      obtain rfl := HA0.out
      clear HA0 oe9 oe10
      simp only [pz, Act.put, sIB, sCZ, sCS]
      obtain ⟨g0, o0, cs, eao, hrg, hrd, hcs⟩ := K3.out.at hlt
      subst eao
      generalize hmm : ms[j] = m at hrd
      have HMM := Lib.hid hmm
      have HCL := hid (show cs.length = 295 from MgR.len hrd)
      have HOC := hid (MgR.one hrd)
      have HAT := hid (show CellsAt R2 wl g0 (o0 + j * 295) cs from ⟨hrg, hcs⟩)
      have HRD := hid (show MgR.rd R2 wl cs m from hrd)
      have HPK := hid (show cpMg m from HMM.out ▸ HP.out _ (List.getElem_mem hlt))
      clear hrg hrd hcs hmm
      go_upto_region 4 with (fail)
      refine wp_region_U 60 [12, 13, 7, 63] [0, 1, 2, 3] (fun a0 HA0 => ?_)
      have oe8 := ev HA0 8 rfl
      have oe10 := ev HA0 10 rfl
      refine QSeq.pure rfl (.pointer (some ⟨g0, o0 + j * 295, none⟩)) (fun E => ex_idxS (i := j) (s := 295) rfl Try.underlying76 (by kernel_rfl) (E.v oe8) (E.v oe10) (by omega)) ?_
      refine QSeq.pure rfl _ (fun E => ex_loadA rfl Try.underlying67 rfl (off := o0 + j * 295) (cs := cs) (by rw [HCL.out]; kernel_rfl) (E.d 0 0) (fun j u hu => (HAT.out).2 j u hu)) ?_
      refine QSeq.go fun act E => ?_
      refine qc_alloc rfl (wanted_none rfl) rfl (z := (mg0C 0 0 0)) (by kernel_rfl) ?_
      intro u4_2 qq7 hm
      have zl4_2 := qq7.lt
      have Hx1 := hid qq7
      have zu4_2 := hm.size
      have Cx2 := hid (show Mod (fun _ => False) wl u4_2 from hm)
      clear hm
      clear act E qq7
      refine QSeq.go fun act E => ?_
      have hlz : (cs).length = List.length ((mg0C 0 0 0) : List Value) := (by rw [HCL.out]; kernel_rfl)
      refine qc_store rfl (wanted_none rfl) rfl Hx1.out (off := 0) (vs := cs) (by rw [hlz]; kernel_rfl) HOC.out (by rw [hlz]; exact Nat.le_of_eq (Nat.zero_add _)) (E.d 2 0) (ec (E.d 1 1)) ?_
      intro u4_3 qc0 hm
      have qq7 := qc0.eqv (b := (cs : List Value).toArray) (lay_whole (((mg0C 0 0 0) : List Value).toArray) _ (by rw [hlz]; rfl))
      clear qc0 hlz
      have Hx3 := hid qq7
      have zu4_3 := hm.size
      have HMu4_3 := hid hm
      have Cx4 := hid (Mod.goS (S' := (fun _ => False)) Cx2.out hm (fun _ h => h) (by intro k h0 h2; omega))
      clear hm Cx2
      clear act E qq7 Hx1
      clear HMu4_3
      refine QSeq.nil (t' := [_, _, _, _]) rfl ?_
      obtain rfl := HA0.out
      clear HA0 oe8 oe10
      simp only [pz, Act.put, sIB, sCZ, sCS, List.set_nil]
      by_cases hjr : j < r
      · skip
        have hpj : p0 = j := by omega
        go_upto_region 5 with (fail)
        generalize ha0 : Act.mk _ _ = a0
        have oe0 : a0.eval (.tmp 0) = .pointer (some ⟨x, 0, none⟩) := by rw [← ha0]; rfl
        have hsz0 : a0.tmps.size = 60 := by rw [← ha0]; rfl
        have HA0 := hid ha0
        clear ha0
        refine wp_region_Q0 60 hsz0 [14, 15, 16, 17, 18, 19, 20, 21, 22, 23] [qi (.pointer (some ⟨x, 0, none⟩)), qi (.pointer (some ⟨x, 0, none⟩)), qi (.pointer (some ⟨x, 1, none⟩)), qi (.slice aol (l ++ ms.take p0).length capl), qi (.int .i64 ((l.length + p0 : Nat) : Int)), qi (.pointer (some ⟨x, 0, none⟩)), qi (.pointer (some ⟨x, 0, none⟩)), qi (.pointer (some ⟨x, 0, none⟩)), qi (.int .i64 mo), qi (.bool true)] ⟨qi_stable, qi_stable, qi_stable, qi_stable, qi_stable, qi_stable, qi_stable, qi_stable, qi_stable, qi_stable, trivial⟩ [] ⟨?_, ?_, ?_, ?_, ?_, ?_, ?_, ?_, ?_, ?_, trivial⟩ ?_
        · exact stq (fun E => ex_move rfl (E.v oe0))
        · exact stq (fun E => ex_nil rfl (E.d 0))
        · exact stq (fun E => ex_field rfl Try.underlying87 rfl (by kernel_rfl) (E.d 1))
        · exact stq (fun E => ex_load1 rfl Try.underlying76 rfl (E.d 2) (Cs.lit1 ((K1.out.mod Cx4.out (fun h => h)).mod E.m.old (by intro h2; omega)) rfl))
        · exact stq (fun E => ex_lenS rfl ((E.d 3).trans (show Value.slice aol (l ++ ms.take p0).length capl = .slice aol (l.length + p0) capl from by rw [hll])) Try.underlying76)
        · exact stq (fun E => ex_move rfl (E.v oe0))
        · exact stq (fun E => ex_nil rfl (E.d 5))
        · exact stq (fun E => ex_field rfl Try.underlying87 rfl (by kernel_rfl) (E.d 6))
        · exact stq (fun E => ex_load1 rfl Try.underlying3 rfl (E.d 7) (Cs.lit1 ((K1.out.mod Cx4.out (fun h => h)).mod E.m.old (by intro h2; omega)) rfl))
        · exact stq (fun E => ex_binE rfl (E.d 4) (E.d 8) (guard_ints _ _ _ _ _ _) (run_lss_i _ _ _ Try.underlying3) (congrArg Value.bool (decide_eq_true (by omega))))
        intro u5_0 hr
        have zu5_0 := hr.size
        have Cx5 := hid (hr.new (S := (fun _ => False)))
        clear hr
        refine QChain.nil fun vs hl hzz hrows hne => ?_
        obtain ⟨Z, hYZ, hZb, hV⟩ := hzz
        have f0 := fvi hV hl 0
        have f4 := fvi hV hl 4
        have f5 := fvi hV hl 5
        have f9 := fvi hV hl 9
        rw [show vs = [gw vs 0, gw vs 1, gw vs 2, gw vs 3, gw vs 4, gw vs 5, gw vs 6, gw vs 7, gw vs 8, gw vs 9] from (gw_eta hl).trans rfl]
        have ha0 := HA0.out
        subst ha0
        clear HA0 hV hYZ hZb hsz0 hrows hne oe0
        simp only [putAll, Act.put, sIB, sCZ, sCS, f0, f4, f5, f9]
        clear hl f0 f4 f5 f9
        go_upto_region 6 with (fail)
        generalize ha0 : Act.mk _ _ = a0
        have oe0 : a0.eval (.tmp 0) = .pointer (some ⟨x, 0, none⟩) := by rw [← ha0]; rfl
        have oe7 : a0.eval (.tmp 7) = .pointer (some ⟨wl.heap.size, 0, none⟩) := by rw [← ha0]; rfl
        have hsz0 : a0.tmps.size = 60 := by rw [← ha0]; rfl
        have HA0 := hid ha0
        clear ha0
        refine wp_region_Q1 60 hsz0 [24, 25, 26, 27, 28, 29, 30, 31, 32, 33, 34, 71] (fun k => (Q1 k) ∨ (New w wl k) ∨ (k = x)) (fun k j => (k = 2 ∧ ((Q1 j) ∨ (New w wl j))) ∨ (k = 3 ∧ ((j = x)))) (by intro k j h; (try dsimp only at h ⊢); rcases h with ⟨-, h | h⟩ | ⟨-, h⟩; (exact Or.inl (h)); (exact Or.inr (Or.inl (h))); (exact Or.inr (Or.inr (h)))) [qi (.pointer (some ⟨x, 0, none⟩)), qi (.pointer (some ⟨x, 0, none⟩)), qi (.pointer (some ⟨x, 0, none⟩)), qi (.pointer (some ⟨x, 1, none⟩)), qi (.slice aol (l ++ ms.take p0).length capl), qi (.agg cs.toArray), qv 0, qv 1, qv 2, qi (.pointer (some ⟨x, 0, none⟩)), qi (.pointer (some ⟨x, 1, none⟩)), qv 3] ⟨qi_stable, qi_stable, qi_stable, qi_stable, qi_stable, qi_stable, qv_stable, qv_stable, qv_stable, qi_stable, qi_stable, qv_stable, trivial⟩ [6, 7, 8, 11] ⟨?_, ?_, ?_, ?_, ?_, ?_, ?_, ?_, ?_, ?_, ?_, ?_, trivial⟩ ?_
        · exact stq (fun E => ex_move rfl (E.v oe0))
        · exact stq (fun E => ex_move rfl (E.v oe0))
        · exact stq (fun E => ex_nil rfl (E.d 1))
        · exact stq (fun E => ex_field rfl Try.underlying87 rfl (by kernel_rfl) (E.d 2))
        · refine stepq_env rfl rfl rfl fun _ _ _ _ _ _ hm0 _ _ hd hub _ => ?_
          have h3 := hd ⟨3, .data⟩ (by simp) rfl _ rfl
          refine qe_run rfl (wanted_none rfl) (ex_load1 rfl Try.underlying76 rfl h3 (Cs.lit1 (((K1.out.mod Cx4.out (fun h => h)).mod Cx5.out (fun h => h)).mod hm0 (by intro h2; have hu := hub 3 11 rfl (by kernel_rfl); rcases h2 with ⟨h0, kk, hk, h2⟩ | h2 <;> first | omega | (rcases h2 with ⟨hkk, h2 | h2⟩ | ⟨hkk, h2⟩ <;> first | omega | (have hb := HBQ.out _ h2; omega) | exact HXQ.out h2 | exact HXE.out h2 | exact HX2.out h2))) rfl)) QE.refl ?_
          rfl
        · exact stq (fun E => ex_loadA rfl Try.underlying67 rfl (off := 0) (cs := cs) (by rw [HCL.out]; kernel_rfl) (E.v oe7) (Cs.whole ((Hx3.out.mod Cx5.out (fun h => h)).mod E.m (by intro h2; rcases h2 with ⟨h0, h2 | h2 | h2⟩ | h2 <;> first | omega | (have hb := HBQ.out _ h2; omega) | exact HXQ.out h2 | exact HXE.out h2 | exact HX2.out h2))))
        · exact stepq_chain rfl
        · exact stepq_chain rfl
        · exact stepq_chain rfl
        · exact stq (fun E => ex_nil rfl (E.d 0))
        · exact stq (fun E => ex_field rfl Try.underlying87 rfl (by kernel_rfl) (E.d 9))
        · exact stepq_chain rfl
        intro u6_0 hr
        have zu6_0 := hr.size
        have Cx6 := hid (hr.new (S := (fun k => (Q1 k) ∨ (New w wl k) ∨ (k = x))))
        have Hx7 := hid (((K1.out.mod Cx4.out (fun h => h)).mod Cx5.out (fun h => h)).mod hr (by intro h2; omega))
        clear K1
        have Hx8 := hid (((K2.out.mod Cx4.out (fun _ _ h => h) (fun _ _ h => h)).mod Cx5.out (fun _ _ h => h) (fun _ _ h => h)).mod hr (by intro k h1 h2; rcases h1 with h1 | h1 <;> first | omega | (have hb := HBQ.out k h1; omega) | exact HXQ.out (h2 ▸ h1) | exact HXQ.out (h1 ▸ h2) | exact HXE.out (h2 ▸ h1) | exact HXE.out (h1 ▸ h2) | exact HX2.out (h2 ▸ h1) | exact HX2.out (h1 ▸ h2)) (by intro k h1 h2; rcases h1 with h1 | h1 <;> first | omega | (have hb := HBE.out k h1; omega) | exact HXQ.out (h2 ▸ h1) | exact HXQ.out (h1 ▸ h2) | exact HXE.out (h2 ▸ h1) | exact HXE.out (h1 ▸ h2) | exact HX2.out (h2 ▸ h1) | exact HX2.out (h1 ▸ h2)))
        clear K2
        clear hr
        refine QChain.go fun Z act E => ?_
        refine qc_callF (args := #[.agg cs.toArray]) rfl (wanted_none rfl) rfl Try.func20 (args1 (E.d 5)) (cop_Mg _ m _ _ (((HRD.out.mod Cx4.out (fun _ _ h => h)).mod Cx5.out (fun _ _ h => h)).mod Cx6.out (by intro k h1 h2; rcases h2 with h2 | h2 | h2 <;> first | omega | (have hb := HB2.out k h1; omega) | (have hb := HBQ.out k h2; omega) | exact HQ2.out k h1 h2 | exact HQ2.out k h2 h1 | (have hb := HB2.out k h1; have hb2 := HBQ.out k h2; omega) | exact HXQ.out (h2 ▸ h1) | exact HXQ.out (h1 ▸ h2) | exact HXE.out (h2 ▸ h1) | exact HXE.out (h1 ▸ h2) | exact HX2.out (h2 ▸ h1) | exact HX2.out (h1 ▸ h2))) (by intro k h1; have hb := HB2.out k h1; omega) HPK.out) ?_
        rintro e u6_1a ⟨cn, rfl, qnw, hm⟩
        have HCN := hid (MgR.len qnw)
        have zu6_1a := hm.size
        refine ⟨_, rfl, hm.mono (fun _ _ h => h.elim), (fun _ => rfl), ?_⟩
        intro u6_1 hr
        have zu6_1 := hr.size
        have Hx9 := hid ((qnw.widen (R' := (fun k => (New u6_0 u6_1a k))) (fun _ h => h)).mod hr (by intro k h1 h2; omega))
        have hmr := Mod.after hm hr
        have Hx10 := hid (Hx7.out.mod hmr (by intro h2; omega))
        have Hx11 := hid (Hx8.out.mod hmr (by intro k h1 h2; rcases h1 with h1 | h1 <;> first | omega | (have hb := HBQ.out k h1; omega) | exact HXQ.out (h2 ▸ h1) | exact HXQ.out (h1 ▸ h2) | exact HXE.out (h2 ▸ h1) | exact HXE.out (h1 ▸ h2) | exact HX2.out (h2 ▸ h1) | exact HX2.out (h1 ▸ h2)) (by intro k h1 h2; rcases h1 with h1 | h1 <;> first | omega | (have hb := HBE.out k h1; omega) | exact HXQ.out (h2 ▸ h1) | exact HXQ.out (h1 ▸ h2) | exact HXE.out (h2 ▸ h1) | exact HXE.out (h1 ▸ h2) | exact HX2.out (h2 ▸ h1) | exact HX2.out (h1 ▸ h2)))
        clear Hx7 Hx8
        clear hmr
        have Cx12 := hid (Cx6.out.go hm hr)
        clear Cx6 hm hr Z act E qnw
        refine QChain.go fun Z act E => ?_
        refine qc_buildS (e := 67) (cs := cn) (zc := [.int .i64 0, .int .i64 0, .int .i64 0, .int .i64 0, .int .i64 0, .int .u8 0, .int .u8 0, .int .u8 0, .int .u8 0, .int .u8 0, .int .u8 0, .int .u8 0, .int .u8 0, .int .u8 0, .int .u8 0, .int .u8 0, .int .u8 0, .int .u8 0, .int .u8 0, .int .u8 0, .int .u8 0, .int .u8 0, .int .u8 0, .int .u8 0, .int .u8 0, .int .u8 0, .int .u8 0, .int .u8 0, .int .u8 0, .int .u8 0, .int .u8 0, .int .u8 0, .int .u8 0, .int .u8 0, .int .u8 0, .int .u8 0, .int .u8 0, .int .i64 0, .int .i64 0, .int .i64 0, .int .i64 0, .int .i64 0, .int .i64 0, .int .u8 0, .int .u8 0, .int .u8 0, .int .u8 0, .int .u8 0, .int .u8 0, .int .u8 0, .int .u8 0, .int .u8 0, .int .u8 0, .int .u8 0, .int .u8 0, .int .u8 0, .int .u8 0, .int .u8 0, .int .u8 0, .int .u8 0, .int .u8 0, .int .u8 0, .int .u8 0, .int .u8 0, .int .u8 0, .int .u8 0, .int .u8 0, .int .u8 0, .int .u8 0, .int .u8 0, .int .u8 0, .int .u8 0, .int .u8 0, .int .u8 0, .int .u8 0, .int .u64 0, .int .i64 0, .int .i64 0, .int .i64 0, .int .i64 0, .int .u8 0, .int .u8 0, .int .u8 0, .int .u8 0, .int .u8 0, .int .u8 0, .int .u8 0, .int .u8 0, .int .u8 0, .int .u8 0, .int .u8 0, .int .u8 0, .int .u8 0, .int .u8 0, .int .u8 0, .int .u8 0, .int .u8 0, .int .u8 0, .int .u8 0, .int .u8 0, .int .u8 0, .int .u8 0, .int .u8 0, .int .u8 0, .int .u8 0, .int .u8 0, .int .u8 0, .int .u8 0, .int .u8 0, .int .u8 0, .int .u8 0, .int .u8 0, .int .i64 0, .int .i64 0, .int .i64 0, .slice none 0 0, .int .i64 0, .int .i64 0, .int .i64 0, .int .u8 0, .int .u8 0, .int .u8 0, .int .u8 0, .int .u8 0, .int .u8 0, .int .u8 0, .int .u8 0, .int .u8 0, .int .u8 0, .int .u8 0, .int .u8 0, .int .u8 0, .int .u8 0, .int .u8 0, .int .u8 0, .int .u8 0, .int .u8 0, .int .u8 0, .int .u8 0, .int .u8 0, .int .u8 0, .int .u8 0, .int .u8 0, .int .u8 0, .int .u8 0, .int .u8 0, .int .u8 0, .int .u8 0, .int .u8 0, .int .u8 0, .int .u8 0, .int .u64 0, .int .i64 0, .int .i64 0, .int .i64 0, .int .i64 0, .int .u64 0, .int .i64 0, .int .i64 0, .int .u64 0, .slice none 0 0, .int .i64 0, .int .i64 0, .int .i64 0, .int .i64 0, .int .i64 0, .int .i64 0, .int .i64 0, .int .u64 0, .slice none 0 0, .slice none 0 0, .slice none 0 0, .int .i64 0, .int .i64 0, .int .i64 0, .int .i64 0, .int .i64 0, .int .i64 0, .int .u8 0, .int .u8 0, .int .u8 0, .int .u8 0, .int .u8 0, .int .u8 0, .int .u8 0, .int .u8 0, .int .u8 0, .int .u8 0, .int .u8 0, .int .u8 0, .int .u8 0, .int .u8 0, .int .u8 0, .int .u8 0, .int .u8 0, .int .u8 0, .int .u8 0, .int .u8 0, .int .u8 0, .int .u8 0, .int .u8 0, .int .u8 0, .int .u8 0, .int .u8 0, .int .u8 0, .int .u8 0, .int .u8 0, .int .u8 0, .int .u8 0, .int .u8 0, .int .i64 0, .int .i64 0, .int .i64 0, .int .i64 0, .int .i64 0, .int .u8 0, .int .u8 0, .int .u8 0, .int .u8 0, .int .u8 0, .int .u8 0, .int .u8 0, .int .u8 0, .int .u8 0, .int .u8 0, .int .u8 0, .int .u8 0, .int .u8 0, .int .u8 0, .int .u8 0, .int .u8 0, .int .u8 0, .int .u8 0, .int .u8 0, .int .u8 0, .int .u8 0, .int .u8 0, .int .u8 0, .int .u8 0, .int .u8 0, .int .u8 0, .int .u8 0, .int .u8 0, .int .u8 0, .int .u8 0, .int .u8 0, .int .u8 0, .int .u64 0, .int .i64 0, .slice none 0 0, .int .u8 0, .int .u8 0, .int .u8 0, .int .u8 0, .int .u8 0, .int .u8 0, .int .u8 0, .int .u8 0, .int .u8 0, .int .u8 0, .int .u8 0, .int .u8 0, .int .u8 0, .int .u8 0, .int .u8 0, .int .u8 0, .int .u8 0, .int .u8 0, .int .u8 0, .int .u8 0, .int .u8 0, .int .u8 0, .int .u8 0, .int .u8 0, .int .u8 0, .int .u8 0, .int .u8 0, .int .u8 0, .int .u8 0, .int .u8 0, .int .u8 0, .int .u8 0, .int .i64 0, .int .i64 0, .int .i64 0, .int .i64 0, .string ByteArray.empty, .int .i64 0, .int .i64 0, .int .i64 0, .int .u64 0, .slice none 0 0, .slice none 0 0, .slice none 0 0, .slice none 0 0]) (sz := 295) rfl (wanted_none rfl) rfl Try.underlying76 (by kernel_rfl) rfl (by decide) (by decide) (chv (v := .agg cn.toArray) (E.d 6)) (MgR.len Hx9.out) ?_
        intro u6_2a qrow hm
        have zl6_7 := qrow.lt
        have zu6_2a := hm.size
        refine ⟨hm.mono (fun _ _ h => h.elim), (fun _ => rfl), ?_⟩
        intro u6_2 hr
        have zu6_2 := hr.size
        have Hx13 := hid (qrow.mod hr (by intro h2; omega))
        have hmr := Mod.after hm hr
        have Hx14 := hid (Hx10.out.mod hmr (by intro h2; omega))
        have Hx15 := hid (Hx11.out.mod hmr (by intro k h1 h2; rcases h1 with h1 | h1 <;> first | omega | (have hb := HBQ.out k h1; omega) | exact HXQ.out (h2 ▸ h1) | exact HXQ.out (h1 ▸ h2) | exact HXE.out (h2 ▸ h1) | exact HXE.out (h1 ▸ h2) | exact HX2.out (h2 ▸ h1) | exact HX2.out (h1 ▸ h2)) (by intro k h1 h2; rcases h1 with h1 | h1 <;> first | omega | (have hb := HBE.out k h1; omega) | exact HXQ.out (h2 ▸ h1) | exact HXQ.out (h1 ▸ h2) | exact HXE.out (h2 ▸ h1) | exact HXE.out (h1 ▸ h2) | exact HX2.out (h2 ▸ h1) | exact HX2.out (h1 ▸ h2)))
        have Hx16 := hid (Hx9.out.mod hmr (by intro k h1 h2; omega))
        clear Hx10 Hx11 Hx9
        clear hmr
        have Cx17 := hid (Cx12.out.go hm hr)
        clear Cx12 hm hr Z act E qrow
        refine QChain.go fun Z act E => ?_
        refine qc_appS (A := MgR) (e := 67) rfl (wanted_none rfl) rfl (.agg (mg0C 0 0 0).toArray) 960 Try.underlying76 info_Mg (by rfl) (of_decide_eq_true (by kernel_rfl)) (E.d 4) (chv (v := .slice (some ⟨u6_1.heap.size, 0, none⟩) 1 1) (E.d 7)) (Hx15.out) (RdS.single (R := (fun k => (New u6_0 u6_1a k) ∨ (k = u6_1.heap.size))) Hx13.out (Hx16.out.widen (by intro k h1; first | omega | exact h1.elim | exact Or.inl h1 | exact Or.inr (h1))) (by right; rfl)) (by intro k h1 h2; rcases h2 with h2 | h2 <;> first | omega | (have hb := HBQ.out k h2; omega) | exact HXQ.out (h2 ▸ h1) | exact HXQ.out (h1 ▸ h2) | exact HXE.out (h2 ▸ h1) | exact HXE.out (h1 ▸ h2) | exact HX2.out (h2 ▸ h1) | exact HX2.out (h1 ▸ h2)) (by simp only [List.length_cons, List.length_nil]; omega) (by rw [maxLen_val]; simp only [List.length_cons, List.length_nil]; omega) ?_
        intro ao9 cap9 u6_3a ql hm
        have zu6_3a := hm.size
        refine ⟨hm.mono (by intro k hk h; rcases h with h | h <;> first | omega | exact Or.inl ⟨(by have hb := HBQ.out k h; omega), Or.inl ⟨rfl, Or.inl h⟩⟩), (fun _ => rfl), ?_⟩
        intro u6_3 hr
        have zu6_3 := hr.size
        have Hx18 := hid ((ql.widen (R' := (fun k => (Q1 k) ∨ (New w wl k) ∨ (New u6_2 u6_3a k))) (E' := (fun k => (Eb k) ∨ (New w wl k) ∨ (New u6_0 u6_1a k) ∨ (k = u6_1.heap.size))) (by intro k h1; simp only [or_assoc] at h1 ⊢; exact h1) (by intro k h1; rcases h1 with (h1 | h1) | (h1 | h1) <;> first | omega | exact h1.elim | exact Or.inl h1 | exact Or.inr (Or.inl h1) | exact Or.inr (Or.inr (Or.inl h1)) | exact Or.inr (Or.inr (Or.inr (h1))))).mod hr (by intro k h1 h2; rcases h1 with h1 | h1 | h1 <;> first | omega | (have hb := HBQ.out k h1; omega) | exact HXQ.out (h2 ▸ h1) | exact HXQ.out (h1 ▸ h2) | exact HXE.out (h2 ▸ h1) | exact HXE.out (h1 ▸ h2) | exact HX2.out (h2 ▸ h1) | exact HX2.out (h1 ▸ h2)) (by intro k h1 h2; rcases h1 with h1 | h1 | h1 | h1 <;> first | omega | (have hb := HBE.out k h1; omega) | exact HXQ.out (h2 ▸ h1) | exact HXQ.out (h1 ▸ h2) | exact HXE.out (h2 ▸ h1) | exact HXE.out (h1 ▸ h2) | exact HX2.out (h2 ▸ h1) | exact HX2.out (h1 ▸ h2)))
        have hmr := hm.two hr
        have Hx19 := hid (Hx14.out.mod hmr (by intro h2; rcases h2 with (h2 | h2) | h2 <;> first | omega | (have hb := HBQ.out _ h2; omega) | exact HXQ.out h2 | exact HXE.out h2 | exact HX2.out h2))
        have Hx20 := hid (Hx16.out.mod hmr (by intro k h1 h2; rcases h2 with (h2 | h2) | h2 <;> first | omega | (have hb := HBQ.out k h2; omega) | exact HXQ.out (h2 ▸ h1) | exact HXQ.out (h1 ▸ h2) | exact HXE.out (h2 ▸ h1) | exact HXE.out (h1 ▸ h2) | exact HX2.out (h2 ▸ h1) | exact HX2.out (h1 ▸ h2)))
        have Hx21 := hid (Hx13.out.mod hmr (by intro h2; rcases h2 with (h2 | h2) | h2 <;> first | omega | (have hb := HBQ.out _ h2; omega) | exact HXQ.out h2 | exact HXE.out h2 | exact HX2.out h2))
        clear Hx14 Hx16 Hx13
        clear hmr
        have Cx22 := hid (Cx17.out.goM hm hr (by intro k h0 h2; rcases h2 with h2 | h2 <;> first | omega | exact Or.inl h2 | exact Or.inr (Or.inl h2) | exact Or.inr (Or.inr (h2))))
        clear Cx17 hm hr Z act E ql Hx15
        refine QChain.go fun Z act E => ?_
        refine qc_store rfl (wanted_none rfl) rfl Hx19.out (off := 1) (vs := [Value.slice ao9 ((l ++ ms.take p0).length + 1) cap9]) (by kernel_rfl) one1 (by simp) (E.d 10) (ec (chv (v := .slice ao9 ((l ++ ms.take p0).length + 1) cap9) (E.d 8))) ?_
        intro u6_4a qc0 hm
        have qnt := qc0.eqv (b := #[.int .i64 mo, Value.slice ao9 ((l ++ ms.take p0).length + 1) cap9, .int .i64 sn, .int .i64 lo]) rfl
        clear qc0
        have zu6_4a := hm.size
        refine ⟨hm.mono (by intro k hk h; omega), (fun _ => rfl), ?_⟩
        intro u6_4 hr
        have zu6_4 := hr.size
        have Hx23 := hid (qnt.mod hr (by intro h2; omega))
        have hmr := hm.two hr
        have Hx24 := hid (Hx18.out.mod hmr (by intro k h1 h2; rcases h1 with h1 | h1 | h1 <;> rcases h2 with h2 | h2 <;> first | omega | (have hb := HBQ.out k h1; omega) | exact HXQ.out (h2 ▸ h1) | exact HXQ.out (h1 ▸ h2) | exact HXE.out (h2 ▸ h1) | exact HXE.out (h1 ▸ h2) | exact HX2.out (h2 ▸ h1) | exact HX2.out (h1 ▸ h2)) (by intro k h1 h2; rcases h1 with h1 | h1 | h1 | h1 <;> rcases h2 with h2 | h2 <;> first | omega | (have hb := HBE.out k h1; omega) | exact HXQ.out (h2 ▸ h1) | exact HXQ.out (h1 ▸ h2) | exact HXE.out (h2 ▸ h1) | exact HXE.out (h1 ▸ h2) | exact HX2.out (h2 ▸ h1) | exact HX2.out (h1 ▸ h2)))
        have Hx25 := hid (Hx20.out.mod hmr (by intro k h1 h2; omega))
        have Hx26 := hid (Hx21.out.mod hmr (by intro h2; omega))
        clear Hx18 Hx20 Hx21
        clear hmr
        have Cx27 := hid (Cx22.out.goM hm hr (by intro k h0 h2; first | omega | exact Or.inl h2 | exact Or.inr (Or.inl h2) | exact Or.inr (Or.inr (h2))))
        clear Cx22 hm hr Z act E qnt Hx19
        refine QChain.nil fun vs hl hzz hrows hne => ?_
        obtain ⟨Z, hYZ, hZb, hV⟩ := hzz
        have f0 := fvi hV hl 0
        have f1 := fvi hV hl 1
        have f6 := fvc hV hl 6
        have f7 := fvc hV hl 7
        have f8 := fvc hV hl 8
        rw [show vs = [gw vs 0, gw vs 1, gw vs 2, gw vs 3, gw vs 4, gw vs 5, gw vs 6, gw vs 7, gw vs 8, gw vs 9, gw vs 10, gw vs 11] from (gw_eta hl).trans rfl]
        have ha0 := HA0.out
        subst ha0
        clear HA0 hV hYZ hZb hsz0 hrows hne oe0 oe7
        simp only [putAll, Act.put, sIB, sCZ, sCS, List.set_nil, f0, f1, f6, f7, f8]
        clear hl f0 f1 f6 f7 f8
        go_upto_region 7 with (fail)
        refine wp_region_U 60 [35, 36, 5] [0, 1, 2] (fun a0 HA0 => ?_)
        have oe5 := ev HA0 5 rfl
        refine QSeq.pure rfl _ (fun E => ex_move rfl (E.y 2 oe5)) ?_
        refine QSeq.pure rfl (.int .i64 ((p0 + 1 : Nat) : Int)) (fun E => ex_binE rfl (E.d 0 0) rfl (guard_ints _ _ _ _ _ _) (run_add_i _ _ Try.underlying3) (congrArg (Value.int .i64) (i64_eq (b := ((p0 + 1 : Nat) : Int)) (by omega) (by omega) (by omega)))) ?_
        refine QSeq.pure rfl _ (fun E => ex_assign rfl (E.d 1 0)) ?_
        refine QSeq.nil (t' := [_, _, _]) rfl ?_
        obtain rfl := HA0.out
        clear HA0 oe5
        simp only [pz, Act.put, sIB, sCZ, sCS]
        go_upto_region 8 with (fail)
        refine wp_region_U 60 [37, 10] [0, 1] (fun a0 HA0 => ?_)
        have oe10 := ev HA0 10 rfl
        refine QSeq.pure rfl (.int .i64 ((j + 1 : Nat) : Int)) (fun E => ex_binE rfl (E.y 1 oe10) rfl (guard_ints _ _ _ _ _ _) (run_add_i _ _ Try.underlying3) (congrArg (Value.int .i64) (i64_eq (b := ((j + 1 : Nat) : Int)) (by omega) (by omega) (by omega)))) ?_
        refine QSeq.pure rfl _ (fun E => ex_move rfl (E.d 0 0)) ?_
        refine QSeq.nil (t' := [_, _]) rfl ?_
        obtain rfl := HA0.out
        clear HA0 oe10
        simp only [pz, Act.put, sIB, sCZ, sCS]
        go_wp2
        go_roundw
        case rel => exact ⟨j + 1, p0 + 1, _, rfl, by go_num, by omega, by omega, by omega, Hx23.out, (by rw [show l ++ ms.take (p0 + 1) = (l ++ ms.take p0) ++ [m] from (by subst hpj; rw [List.take_succ_eq_append_getElem hlt, HMM.out, List.append_assoc])]; exact (Hx24.out).widen (R' := fun k => Q1 k ∨ New w u6_4 k) (E' := fun k => Eb k ∨ New w u6_4 k) (by intro k h1; rcases h1 with h1 | h1 | h1 <;> first | exact Or.inl h1 | exact Or.inr (by unfold New; omega)) (by intro k h1; rcases h1 with h1 | h1 | h1 | h1 <;> first | exact Or.inl h1 | exact Or.inr (by unfold New; omega))), (((K3.out.mod Cx4.out (fun _ _ h => h)).mod Cx5.out (fun _ _ h => h)).mod Cx27.out (by intro k h1 h2; rcases h2 with h2 | h2 | h2 <;> first | omega | (have hb := HB2.out k h1; omega) | (have hb := HBQ.out k h2; omega) | exact HQ2.out k h1 h2 | exact HQ2.out k h2 h1 | (have hb := HB2.out k h1; have hb2 := HBQ.out k h2; omega) | exact HXQ.out (h2 ▸ h1) | exact HXQ.out (h1 ▸ h2) | exact HXE.out (h2 ▸ h1) | exact HXE.out (h1 ▸ h2) | exact HX2.out (h2 ▸ h1) | exact HX2.out (h1 ▸ h2))), (((K4.out.trans Cx4.out (fun _ _ h => h.elim)).trans Cx5.out (fun _ _ h => h.elim)).trans Cx27.out (by intro k h1 h2; rcases h2 with h2 | h2 | h2 <;> first | exact h2 | omega | exact Or.inl h2 | exact Or.inr h2 | exact Or.inr (Or.inl h2) | exact Or.inr (Or.inr h2) | (have hb := HBQ.out k h2; omega)))⟩
        case measure => simp [intOf]; omega
      · skip
        go_upto_region 5 with (fail)
        generalize ha0 : Act.mk _ _ = a0
        have oe0 : a0.eval (.tmp 0) = .pointer (some ⟨x, 0, none⟩) := by rw [← ha0]; rfl
        have hsz0 : a0.tmps.size = 60 := by rw [← ha0]; rfl
        have HA0 := hid ha0
        clear ha0
        refine wp_region_Q0 60 hsz0 [14, 15, 16, 17, 18, 19, 20, 21, 22, 23] [qi (.pointer (some ⟨x, 0, none⟩)), qi (.pointer (some ⟨x, 0, none⟩)), qi (.pointer (some ⟨x, 1, none⟩)), qi (.slice aol (l ++ ms.take p0).length capl), qi (.int .i64 ((l.length + p0 : Nat) : Int)), qi (.pointer (some ⟨x, 0, none⟩)), qi (.pointer (some ⟨x, 0, none⟩)), qi (.pointer (some ⟨x, 0, none⟩)), qi (.int .i64 mo), qi (.bool false)] ⟨qi_stable, qi_stable, qi_stable, qi_stable, qi_stable, qi_stable, qi_stable, qi_stable, qi_stable, qi_stable, trivial⟩ [] ⟨?_, ?_, ?_, ?_, ?_, ?_, ?_, ?_, ?_, ?_, trivial⟩ ?_
        · exact stq (fun E => ex_move rfl (E.v oe0))
        · exact stq (fun E => ex_nil rfl (E.d 0))
        · exact stq (fun E => ex_field rfl Try.underlying87 rfl (by kernel_rfl) (E.d 1))
        · exact stq (fun E => ex_load1 rfl Try.underlying76 rfl (E.d 2) (Cs.lit1 ((K1.out.mod Cx4.out (fun h => h)).mod E.m.old (by intro h2; omega)) rfl))
        · exact stq (fun E => ex_lenS rfl ((E.d 3).trans (show Value.slice aol (l ++ ms.take p0).length capl = .slice aol (l.length + p0) capl from by rw [hll])) Try.underlying76)
        · exact stq (fun E => ex_move rfl (E.v oe0))
        · exact stq (fun E => ex_nil rfl (E.d 5))
        · exact stq (fun E => ex_field rfl Try.underlying87 rfl (by kernel_rfl) (E.d 6))
        · exact stq (fun E => ex_load1 rfl Try.underlying3 rfl (E.d 7) (Cs.lit1 ((K1.out.mod Cx4.out (fun h => h)).mod E.m.old (by intro h2; omega)) rfl))
        · exact stq (fun E => ex_binE rfl (E.d 4) (E.d 8) (guard_ints _ _ _ _ _ _) (run_lss_i _ _ _ Try.underlying3) (congrArg Value.bool (decide_eq_false (by omega))))
        intro u5_0 hr
        have zu5_0 := hr.size
        have Cx28 := hid (hr.new (S := (fun _ => False)))
        clear hr
        refine QChain.nil fun vs hl hzz hrows hne => ?_
        obtain ⟨Z, hYZ, hZb, hV⟩ := hzz
        have f0 := fvi hV hl 0
        have f4 := fvi hV hl 4
        have f5 := fvi hV hl 5
        have f9 := fvi hV hl 9
        rw [show vs = [gw vs 0, gw vs 1, gw vs 2, gw vs 3, gw vs 4, gw vs 5, gw vs 6, gw vs 7, gw vs 8, gw vs 9] from (gw_eta hl).trans rfl]
        have ha0 := HA0.out
        subst ha0
        clear HA0 hV hYZ hZb hsz0 hrows hne oe0
        simp only [putAll, Act.put, sIB, sCZ, sCS, f0, f4, f5, f9]
        clear hl f0 f4 f5 f9
        go_upto_region 8 with (fail)
        refine wp_region_U 60 [37, 10] [0, 1] (fun a0 HA0 => ?_)
        have oe10 := ev HA0 10 rfl
        refine QSeq.pure rfl (.int .i64 ((j + 1 : Nat) : Int)) (fun E => ex_binE rfl (E.y 1 oe10) rfl (guard_ints _ _ _ _ _ _) (run_add_i _ _ Try.underlying3) (congrArg (Value.int .i64) (i64_eq (b := ((j + 1 : Nat) : Int)) (by omega) (by omega) (by omega)))) ?_
        refine QSeq.pure rfl _ (fun E => ex_move rfl (E.d 0 0)) ?_
        refine QSeq.nil (t' := [_, _]) rfl ?_
        obtain rfl := HA0.out
        clear HA0 oe10
        simp only [pz, Act.put, sIB, sCZ, sCS]
        go_wp2
        go_roundw
        case rel => exact ⟨j + 1, p0, _, rfl, by go_num, by omega, by omega, by omega, ((K1.out.mod Cx4.out (fun h => h)).mod Cx28.out (fun h => h)), (((K2.out.mod Cx4.out (fun _ _ h => h) (fun _ _ h => h)).mod Cx28.out (fun _ _ h => h) (fun _ _ h => h))).widen (R' := fun k => Q1 k ∨ New w u5_0 k) (E' := fun k => Eb k ∨ New w u5_0 k) (by intro k h1; rcases h1 with h1 | h1 <;> first | exact Or.inl h1 | exact Or.inr (by unfold New; omega)) (by intro k h1; rcases h1 with h1 | h1 <;> first | exact Or.inl h1 | exact Or.inr (by unfold New; omega)), ((K3.out.mod Cx4.out (fun _ _ h => h)).mod Cx28.out (fun _ _ h => h)), ((K4.out.trans Cx4.out (fun _ _ h => h.elim)).trans Cx28.out (fun _ _ h => h.elim))⟩
        case measure => simp [intOf]; omega
    · obtain rfl : ms.length = j := by omega
      go_upto_region 3 with (fail)
      refine wp_region_U 60 [11] [0] (fun a0 HA0 => ?_)
      have oe9 := ev HA0 9 rfl
      have oe10 := ev HA0 10 rfl
      refine QSeq.pure rfl (.bool false) (fun E => ex_binE rfl (E.v oe10) (E.v oe9) (guard_ints _ _ _ _ _ _) (run_lss_i _ _ _ Try.underlying3) (congrArg Value.bool (decide_eq_false (by omega)))) ?_
      refine QSeq.nil (t' := [_]) rfl ?_
      obtain rfl := HA0.out
      clear HA0 oe9 oe10
      simp only [pz, Act.put, sIB, sCZ, sCS]
      go_upto_region 9 with (fail)
      generalize ha0 : Act.mk _ _ = a0
      have oe0 : a0.eval (.tmp 0) = .pointer (some ⟨x, 0, none⟩) := by rw [← ha0]; rfl
      have oe1 : a0.eval (.tmp 1) = .slice am ms.length capm := by rw [← ha0]; rfl
      have oe5 : a0.eval (.tmp 5) = .int .i64 ((p0 : Nat) : Int) := by rw [← ha0]; rfl
      have hsz0 : a0.tmps.size = 60 := by rw [← ha0]; rfl
      have HA0 := hid ha0
      clear ha0
      refine wp_region_Q1 60 hsz0 [38, 39, 40, 41, 42, 43, 44, 45, 46, 47, 48, 49, 50, 51, 52, 53, 54, 55, 56, 79, 57, 58, 82] (fun k => (k = x)) (fun k j => (k = 0 ∧ ((j = x))) ∨ (k = 1 ∧ ((j = x)))) (by intro k j h; (try dsimp only at h ⊢); omega) [qi (.pointer (some ⟨x, 0, none⟩)), qi (.pointer (some ⟨x, 0, none⟩)), qi (.pointer (some ⟨x, 0, none⟩)), qi (.pointer (some ⟨x, 0, none⟩)), qi (.pointer (some ⟨x, 2, none⟩)), qi (.int .i64 sn), qi (.int .i64 ((p0 : Nat) : Int)), qi (.int .i64 (sn + ((p0 : Nat) : Int))), qi (.pointer (some ⟨x, 0, none⟩)), qi (.pointer (some ⟨x, 0, none⟩)), qi (.pointer (some ⟨x, 3, none⟩)), qi (.int .i64 lo), qi (.slice am ms.length capm), qi (.int .i64 ms.length), qi (.int .i64 (lo + ((ms.length : Nat) : Int))), qi (.int .i64 ((p0 : Nat) : Int)), qi (.int .i64 (lo + ((ms.length : Nat) : Int) - ((p0 : Nat) : Int))), qi (.pointer (some ⟨x, 0, none⟩)), qi (.pointer (some ⟨x, 2, none⟩)), qv 0, qi (.pointer (some ⟨x, 0, none⟩)), qi (.pointer (some ⟨x, 3, none⟩)), qv 1] ⟨qi_stable, qi_stable, qi_stable, qi_stable, qi_stable, qi_stable, qi_stable, qi_stable, qi_stable, qi_stable, qi_stable, qi_stable, qi_stable, qi_stable, qi_stable, qi_stable, qi_stable, qi_stable, qi_stable, qv_stable, qi_stable, qi_stable, qv_stable, trivial⟩ [19, 22] ⟨?_, ?_, ?_, ?_, ?_, ?_, ?_, ?_, ?_, ?_, ?_, ?_, ?_, ?_, ?_, ?_, ?_, ?_, ?_, ?_, ?_, ?_, ?_, trivial⟩ ?_
      · exact stq (fun E => ex_move rfl (E.v oe0))
      · exact stq (fun E => ex_move rfl (E.v oe0))
      · exact stq (fun E => ex_move rfl (E.v oe0))
      · exact stq (fun E => ex_nil rfl (E.d 2))
      · exact stq (fun E => ex_field rfl Try.underlying87 rfl (by kernel_rfl) (E.d 3))
      · refine stepq_env rfl rfl rfl fun _ _ _ _ _ _ hm0 _ _ hd hub _ => ?_
        have h4 := hd ⟨4, .data⟩ (by simp) rfl _ rfl
        refine qe_run rfl (wanted_none rfl) (ex_load1 rfl Try.underlying3 rfl h4 (Cs.lit1 (K1.out.mod hm0 (by intro h2; have hu := hub 0 19 rfl (by kernel_rfl); rcases h2 with ⟨h0, kk, hk, h2⟩ | h2 <;> omega)) rfl)) QE.refl ?_
        rfl
      · exact stq (fun E => ex_move rfl (E.v oe5))
      · exact stq (fun E => ex_binE rfl (E.d 5) (E.d 6) (guard_ints _ _ _ _ _ _) (run_add_i _ _ Try.underlying3) (congrArg (Value.int .i64) (i64_eq (b := (sn + ((p0 : Nat) : Int))) rfl (by omega) (by omega))))
      · exact stq (fun E => ex_move rfl (E.v oe0))
      · exact stq (fun E => ex_nil rfl (E.d 8))
      · exact stq (fun E => ex_field rfl Try.underlying87 rfl (by kernel_rfl) (E.d 9))
      · refine stepq_env rfl rfl rfl fun _ _ _ _ _ _ hm0 _ _ hd hub _ => ?_
        have h10 := hd ⟨10, .data⟩ (by simp) rfl _ rfl
        refine qe_run rfl (wanted_none rfl) (ex_load1 rfl Try.underlying3 rfl h10 (Cs.lit1 (K1.out.mod hm0 (by intro h2; have hu := hub 0 19 rfl (by kernel_rfl); rcases h2 with ⟨h0, kk, hk, h2⟩ | h2 <;> omega)) rfl)) QE.refl ?_
        rfl
      · exact stq (fun E => ex_move rfl (E.v oe1))
      · exact stq (fun E => ex_lenS rfl (E.d 12) Try.underlying76)
      · exact stq (fun E => ex_binE rfl (E.d 11) (E.d 13) (guard_ints _ _ _ _ _ _) (run_add_i _ _ Try.underlying3) (congrArg (Value.int .i64) (i64_eq (b := lo + ((ms.length : Nat) : Int)) rfl (by omega) (by omega))))
      · exact stq (fun E => ex_move rfl (E.v oe5))
      · exact stq (fun E => ex_binE rfl (E.d 14) (E.d 15) (guard_ints _ _ _ _ _ _) (run_sub_i _ _ Try.underlying3) (congrArg (Value.int .i64) (i64_eq (b := (lo + ((ms.length : Nat) : Int) - ((p0 : Nat) : Int))) rfl (by omega) (by omega))))
      · exact stq (fun E => ex_nil rfl (E.d 0))
      · exact stq (fun E => ex_field rfl Try.underlying87 rfl (by kernel_rfl) (E.d 17))
      · exact stepq_chain rfl
      · exact stq (fun E => ex_nil rfl (E.d 1))
      · exact stq (fun E => ex_field rfl Try.underlying87 rfl (by kernel_rfl) (E.d 20))
      · exact stepq_chain rfl
      intro u9_0 hr
      have zu9_0 := hr.size
      have Cx29 := hid (hr.new (S := (fun k => (k = x))))
      have Hx30 := hid (K1.out.mod hr (by intro h2; omega))
      clear K1
      clear hr
      refine QChain.go fun Z act E => ?_
      refine qc_store rfl (wanted_none rfl) rfl Hx30.out (off := 2) (vs := [Value.int .i64 (sn + ((p0 : Nat) : Int))]) (by kernel_rfl) one1 (by simp) (E.d 18) (ec (E.d 7)) ?_
      intro u9_1a qc0 hm
      have qnt := qc0.eqv (b := #[.int .i64 mo, Value.slice aol (l ++ ms.take p0).length capl, .int .i64 (sn + ((p0 : Nat) : Int)), .int .i64 lo]) rfl
      clear qc0
      have zu9_1a := hm.size
      refine ⟨hm.mono (by intro k hk h; omega), (fun _ => rfl), ?_⟩
      intro u9_1 hr
      have zu9_1 := hr.size
      have Hx31 := hid (qnt.mod hr (by intro h2; omega))
      have Cx32 := hid (Cx29.out.goM hm hr (fun _ _ h => h))
      clear Cx29 hm hr Z act E qnt Hx30
      refine QChain.go fun Z act E => ?_
      refine qc_store rfl (wanted_none rfl) rfl Hx31.out (off := 3) (vs := [Value.int .i64 (lo + ((ms.length : Nat) : Int) - ((p0 : Nat) : Int))]) (by kernel_rfl) one1 (by simp) (E.d 21) (ec (E.d 16)) ?_
      intro u9_2a qc0 hm
      have qnt := qc0.eqv (b := #[.int .i64 mo, Value.slice aol (l ++ ms.take p0).length capl, .int .i64 (sn + ((p0 : Nat) : Int)), .int .i64 (lo + ((ms.length : Nat) : Int) - ((p0 : Nat) : Int))]) rfl
      clear qc0
      have zu9_2a := hm.size
      refine ⟨hm.mono (by intro k hk h; omega), (fun _ => rfl), ?_⟩
      intro u9_2 hr
      have zu9_2 := hr.size
      have Hx33 := hid (qnt.mod hr (by intro h2; omega))
      have Cx34 := hid (Cx32.out.goM hm hr (fun _ _ h => h))
      clear Cx32 hm hr Z act E qnt Hx31
      refine QChain.nil fun vs hl hzz hrows hne => ?_
      obtain ⟨Z, hYZ, hZb, hV⟩ := hzz
      have f0 := fvi hV hl 0
      have f1 := fvi hV hl 1
      have f2 := fvi hV hl 2
      have f6 := fvi hV hl 6
      have f8 := fvi hV hl 8
      have f12 := fvi hV hl 12
      have f13 := fvi hV hl 13
      have f15 := fvi hV hl 15
      rw [show vs = [gw vs 0, gw vs 1, gw vs 2, gw vs 3, gw vs 4, gw vs 5, gw vs 6, gw vs 7, gw vs 8, gw vs 9, gw vs 10, gw vs 11, gw vs 12, gw vs 13, gw vs 14, gw vs 15, gw vs 16, gw vs 17, gw vs 18, gw vs 19, gw vs 20, gw vs 21, gw vs 22] from (gw_eta hl).trans rfl]
      have ha0 := HA0.out
      subst ha0
      clear HA0 hV hYZ hZb hsz0 hrows hne oe0 oe1 oe5
      simp only [putAll, Act.put, sIB, sCZ, sCS, List.set_nil, f0, f1, f2, f6, f8, f12, f13, f15]
      clear hl f0 f1 f2 f6 f8 f12 f13 f15
      go_upto_region 10 with (fail)
      refine wp_region_U 60 [59, 4] [0, 1] (fun a0 HA0 => ?_)
      have oe5 := ev HA0 5 rfl
      refine QSeq.pure rfl _ (fun E => ex_move rfl (E.v oe5)) ?_
      refine QSeq.pure rfl _ (fun E => ex_assign rfl (E.d 0 0)) ?_
      refine QSeq.nil (t' := [_, _]) rfl ?_
      obtain rfl := HA0.out
      clear HA0 oe5
      simp only [pz, Act.put, sIB, sCZ, sCS]
      obtain rfl : p0 = p := by omega
      go_wp2
      go_ret
      exact ⟨.slice aol (l ++ ms.take p0).length capl, rfl, ⟨Hx33.out, (fun k hk => by rcases hk with hk | hk; (have hb := HBE.out k hk; omega); exact hk.2), (fun hk => by rcases hk with hk | hk; exact HXE.out hk; (have := hk.1; omega)), (fun hk => by have hk := ((K2.out.mod Cx34.out (by intro k h1 h2; rcases h1 with h1 | h1 <;> first | omega | (have hb := HBQ.out k h1; omega) | exact HXQ.out (h2 ▸ h1) | exact HXQ.out (h1 ▸ h2) | exact HXE.out (h2 ▸ h1) | exact HXE.out (h1 ▸ h2) | exact HX2.out (h2 ▸ h1) | exact HX2.out (h1 ▸ h2)) (by intro k h1 h2; rcases h1 with h1 | h1 <;> first | omega | (have hb := HBE.out k h1; omega) | exact HXQ.out (h2 ▸ h1) | exact HXQ.out (h1 ▸ h2) | exact HXE.out (h2 ▸ h1) | exact HXE.out (h1 ▸ h2) | exact HX2.out (h2 ▸ h1) | exact HX2.out (h1 ▸ h2)))).blk _ hk; rcases hk with hk | hk <;> first | exact HXQ.out hk | omega), ((K2.out.mod Cx34.out (by intro k h1 h2; rcases h1 with h1 | h1 <;> first | omega | (have hb := HBQ.out k h1; omega) | exact HXQ.out (h2 ▸ h1) | exact HXQ.out (h1 ▸ h2) | exact HXE.out (h2 ▸ h1) | exact HXE.out (h1 ▸ h2) | exact HX2.out (h2 ▸ h1) | exact HX2.out (h1 ▸ h2)) (by intro k h1 h2; rcases h1 with h1 | h1 <;> first | omega | (have hb := HBE.out k h1; omega) | exact HXQ.out (h2 ▸ h1) | exact HXQ.out (h1 ▸ h2) | exact HXE.out (h2 ▸ h1) | exact HXE.out (h1 ▸ h2) | exact HX2.out (h2 ▸ h1) | exact HX2.out (h1 ▸ h2))).widen (R' := (fun k => (Q1 k) ∨ (New w wl k))) (E' := fun k => Eb k ∨ New w u9_2 k) (fun _ h => h) (by intro k hk; rcases hk with hk | hk <;> first | exact Or.inl hk | exact Or.inr (by unfold New; omega))).own⟩, (fun k hk => by have hk := ((K2.out.mod Cx34.out (by intro k h1 h2; rcases h1 with h1 | h1 <;> first | omega | (have hb := HBQ.out k h1; omega) | exact HXQ.out (h2 ▸ h1) | exact HXQ.out (h1 ▸ h2) | exact HXE.out (h2 ▸ h1) | exact HXE.out (h1 ▸ h2) | exact HX2.out (h2 ▸ h1) | exact HX2.out (h1 ▸ h2)) (by intro k h1 h2; rcases h1 with h1 | h1 <;> first | omega | (have hb := HBE.out k h1; omega) | exact HXQ.out (h2 ▸ h1) | exact HXQ.out (h1 ▸ h2) | exact HXE.out (h2 ▸ h1) | exact HXE.out (h1 ▸ h2) | exact HX2.out (h2 ▸ h1) | exact HX2.out (h1 ▸ h2)))).blk _ hk; rcases hk with hk | hk <;> first | exact Or.inl ((HQ1.out _).1 hk) | exact Or.inr (by unfold New; omega)), ((K4.out.trans Cx34.out (by intro k h1 h2; first | exact h2 | omega | exact Or.inl h2 | exact Or.inr h2 | exact Or.inr (Or.inl h2) | exact Or.inr (Or.inr h2))).mono (fun k _ hk => by rcases hk with hk | hk; exact Or.inl hk; exact Or.inr ((HQ1.out k).1 hk)))⟩
end Go.Proofs.Ytekbmpjdombedaa

/- net.Net, the contracts in short; messages of a kind and an index; slices of numbers that are appended to themselves. -/
namespace Go.Gv
open Go Go.RowKit

theorem fill_cons (place : Nat → Option (Nat × Nat)) (Z : Array Value) (i : Nat) (v : Value) (rest : List (Nat × Value)) (off size : Nat) (hp : place i = some (off, size)) (h1 : v.cells.size = size) (h2 : off + size ≤ Z.size) :
    Instr.fill place Z ((i, v) :: rest) = Instr.fill place (Z.toList.take off ++ v.cells.toList ++ Z.toList.drop (off + size)).toArray rest := by
  subst h1
  have e := foldl_lay off v.cells.toList Z.toList (by simpa using h2)
  simp only [Array.toArray_toList, Array.length_toList] at e
  rw [← Array.toList_zipIdx, Array.foldl_toList] at e
  rw [← e]
  simp only [Instr.fill, hp]
  rw [if_neg (by simp; omega)]
/-- a row of two things -/
theorem ex_buildS2 {P : Program} {w : World} {a : Act} {o : Oper} {T e : TypeId} {y y2 : Operand} {cs cs2 : List Value} {s : Nat} {zc : List Value} (ho : o.op = .buildSlice T 2 #[(0, y), (1, y2)]) (hu : P.underlying T = some (.slice e)) (hie : (P.info? e).map (fun i => (i.size, i.zero)) = some (s, some (.agg zc.toArray))) (hz : zc.length = s) (h0 : 0 < s) (hb : s ≤ 1000)
    (hy : a.eval y = .agg cs.toArray) (hl : cs.length = s) (hy2 : a.eval y2 = .agg cs2.toArray) (hl2 : cs2.length = s) :
    (execOp a.eval o).run P w = .ok (.value (.slice (some ⟨w.heap.size, 0, none⟩) 2 2)) (w.alloc (.cells (cs ++ cs2).toArray e)) := by
  cases hq : P.info? e with
  | none => rw [hq] at hie; cases hie
  | some ie =>
    rw [hq] at hie
    have e0 := Option.some.inj hie
    have e1 : ie.size = s := congrArg Prod.fst e0
    have e2 : ie.zero = some (.agg zc.toArray) := congrArg Prod.snd e0
    have hf : Instr.fill (fun i => some (i * ie.size, ie.size)) ((Array.range (2 * ie.size)).map ((Value.agg zc.toArray).cells[· % (Value.agg zc.toArray).cells.size]!)) (#[((0 : Nat), a.eval y), ((1 : Nat), a.eval y2)] : Array (Nat × Value)).toList = some (cs ++ cs2).toArray := by
      rw [hy, hy2, e1]
      obtain ⟨Z, hZ⟩ : ∃ Z, Z = (Array.range (2 * s)).map ((Value.agg zc.toArray).cells[· % (Value.agg zc.toArray).cells.size]!) := ⟨_, rfl⟩
      have hzs : Z.size = 2 * s := by rw [hZ]; simp
      rw [← hZ]
      have hc1 : (Value.agg cs.toArray).cells.size = s := by simp [Value.cells, hl]
      have hc2 : (Value.agg cs2.toArray).cells.size = s := by simp [Value.cells, hl2]
      rw [show (#[((0 : Nat), Value.agg cs.toArray), ((1 : Nat), Value.agg cs2.toArray)] : Array (Nat × Value)).toList = [((0 : Nat), Value.agg cs.toArray), ((1 : Nat), Value.agg cs2.toArray)] from rfl,
        fill_cons _ _ _ _ _ (0 * s) s rfl hc1 (by omega), fill_cons _ _ _ _ _ (1 * s) s rfl hc2 (by simp only [List.size_toArray, List.length_append, List.length_take, List.length_drop, Array.length_toList, hc1]; omega)]
      simp only [Instr.fill, Value.cells]
      congr 1
      simp only [Nat.zero_mul, List.take_zero, List.nil_append, Nat.zero_add, Nat.one_mul]
      rw [List.take_left' hl, List.drop_of_length_le (by simp; omega), List.append_nil]
    have hr := run_buildSlice (P := P) w T e 2 (#[((0 : Nat), a.eval y), ((1 : Nat), a.eval y2)] : Array (Nat × Value)) (cs ++ cs2).toArray ie (.agg zc.toArray) hu hq e2 (by rw [e1]; omega) (by rw [e1]; omega) hf
    unfold execOp
    simp only [ho, Sem.run_bind, List.map_toArray, List.map_cons, List.map_nil, hr, Result.andThen_ok, Sem.run_pure]
theorem qc_buildS2 {P : Program} {ops : Array Oper} {Q : Exit → Act → World → Prop} {i : Nat} {KQ : Value → World → Prop} {w : World} {a : Act} {o : Oper} {T e : TypeId} {y y2 : Operand} {cs cs2 : List Value} {s : Nat} {zc : List Value} (hi : ops[i]? = some o) (hw : Region.wanted o (yielded ops a.tmps) = true) (ho : o.op = .buildSlice T 2 #[(0, y), (1, y2)]) (hu : P.underlying T = some (.slice e)) (hie : (P.info? e).map (fun i => (i.size, i.zero)) = some (s, some (.agg zc.toArray))) (hz : zc.length = s) (h0 : 0 < s) (hb : s ≤ 1000)
    (hy : a.eval y = .agg cs.toArray) (hl : cs.length = s) (hy2 : a.eval y2 = .agg cs2.toArray) (hl2 : cs2.length = s)
    (h : ∀ w', Cs w' w.heap.size (cs ++ cs2).toArray e → Mod (fun _ => False) w w' → KQ (.slice (some ⟨w.heap.size, 0, none⟩) 2 2) w') : wpOp P ops Q i (fun a' w' => ∃ v, a' = a.put o.dst v ∧ KQ v w') a w :=
  qc_run hi hw (ex_buildS2 ho hu hie hz h0 hb hy hl hy2 hl2) (h _ (Cs.new _ _ _) ((Mod.refl _ _).alloc _))
/-- two things in a block of their own, as a slice -/
theorem RdS.two {α : Type} {A : Rep α} {R : Nat → Prop} {w : World} {g : Nat} {T : TypeId} {cs cs2 : List Value} {a b : α} (hc : Cs w g (cs ++ cs2).toArray T) (ha : A.rd R w cs a) (hb : A.rd R w cs2 b) (hg : R g) : RdS A R w (.slice (some ⟨g, 0, none⟩) 2 2) [a, b] := by
  refine ⟨[cs, cs2], rfl, fun i c x hi hx => ?_, ?_, fun _ g' hg' => by cases hg'; exact hg⟩
  · rcases i with _ | _ | i
    · simp at hi hx; subst hi hx; exact ha
    · simp at hi hx; subst hi hx; exact hb
    · simp at hi
  · have hl := A.len ha
    have hl2 := A.len hb
    refine Rd.mk (Nat.le_refl _) (by rw [maxLen_val]; omega) (by simp [hl, hl2]; omega) fun j u hu => ?_
    rw [Nat.zero_add, hc.cell]
    simpa using hu
/-- natural numbers as ints -/
def NaR : Rep Nat := Rep.flat 1 (by decide) (fun n => [.int .i64 ((n : Nat) : Int)]) (fun n => n ≤ 9223372036854775807) (fun _ _ => rfl) (fun _ _ u hu => by rw [List.mem_singleton] at hu; rw [hu]; rfl)
section
variable {P : Program} {ops : Array Oper} {Q : Exit → Act → World → Prop} {i : Nat} {o : Oper} {a : Act} {w w' : World} {KQ : Value → World → Prop} {α : Type} {A : Rep α} {e t : TypeId} {R E R2 : Nat → Prop} {v xv : Value} {l new : List α} {s x : Operand}
end
end Go.Gv
namespace Go.Proofs.Ytekbmpjdombedaa
open Go Go.RowKit Go.Gv
/-- a message of a kind and an index, and nothing else -/
def mgk (kd ix : Int) : Mg := { zMg with kd := kd, ix := ix }
def mgkC (kd ix : Int) : List Value := ((mgk kd ix).segs (zCe.cells zS) (zPm.cells zS) (zPr.cells zS zS zS) (zOp.cells zS) (zDc.cells zS zS zS zS)).flatten
theorem mgk_rd {kd ix : Int} (hk : I64 kd) (hf : I64 ix) (R : Nat → Prop) (w : World) : MgR.rd R w (mgkC kd ix) (mgk kd ix) :=
  ⟨_, _, _, _, _, rfl, { zMg_OK with kd := hk, ix := hf }, zCe_rd _ _, zPm_rd _ _, ⟨_, _, _, rfl, ⟨I64_0, I64_0, I64_0, I64_0, zBa_OK, I64_0, I64_0⟩, RdS.nil _ _ _, RdS.nil _ _ _, RdS.nil _ _ _⟩,
    ⟨_, rfl, ⟨I64_0, HK_zero⟩, ⟨⟨(fun b hb => by cases hb), Rd.nil _ _⟩, (fun h => absurd h (show ¬ 0 < ([] : List Int).length by decide)), Nat.le_refl _⟩⟩, ⟨_, _, _, _, rfl, ⟨I64_0, I64_0, zBa_OK⟩, RdS.nil _ _ _, RdS.nil _ _ _, RdS.nil _ _ _, RdS.nil _ _ _⟩⟩
theorem mgk_cp (kd ix : Int) : cpMg (mgk kd ix) :=
  ⟨Nat.zero_le _, ⟨Nat.zero_le _, fun _ h => by cases h⟩, Nat.zero_le _, ⟨⟨Nat.zero_le _, fun _ h => by cases h⟩, ⟨Nat.zero_le _, fun _ h => by cases h⟩, ⟨Nat.zero_le _, fun _ h => by cases h⟩⟩, ⟨⟨Nat.zero_le _, fun _ h => by cases h⟩, ⟨Nat.zero_le _, fun _ h => by cases h⟩, ⟨Nat.zero_le _, fun _ h => by cases h⟩⟩, Nat.zero_le _⟩
theorem mg_kd {R : Nat → Prop} {w : World} {cs : List Value} {m : Mg} (h : MgR.rd R w cs m) : cs[0]? = some (.int .i64 m.kd) := by
  obtain ⟨c5, c10, c11, c15, c18, rfl, _⟩ := h; rfl
theorem mg_ix {R : Nat → Prop} {w : World} {cs : List Value} {m : Mg} (h : MgR.rd R w cs m) : cs[212]? = some (.int .i64 m.ix) := by
  obtain ⟨c5, c10, c11, c15, c18, rfl, hok, h5, h10, h11, h15, h18⟩ := h
  exact seg_get (m.segs c5 c10 c11 c15 c18) 13 rfl 0 _ rfl |>.symm ▸ (by rw [Mg.lens hok (CeR.len h5) (PmR.len h10) (PrR.len h11) (OpR.len h15) (DcR.len h18)]; rfl)
section
variable {R : Nat → Prop} {w : World} {x : Nat} {mo sn lo : Int} {l : List Mg}
theorem LenB (h : NtR R w x mo l sn lo) : Calls Try.prog 11 #[.pointer (some ⟨x, 0, none⟩)] w fun e w' => e = .returned (.int .i64 ((l.length : Nat) : Int)) ∧ w = w' := by obtain ⟨E, v, h, -⟩ := h; exact NLen_Q h
theorem TakeB {k : Nat} (h : NtR R w x mo l sn lo) (hk : k < l.length) (hP : ∀ m ∈ l, cpMg m) : Calls Try.prog 10 #[.pointer (some ⟨x, 0, none⟩), .int .i64 ((k : Nat) : Int)] w fun e w' => ∃ cn, e = .returned (.tuple #[.agg cn.toArray, .bool true]) ∧
    NtR (fun k => R k ∨ New w w' k) w' x mo (l.eraseIdx k) sn lo ∧ MgR.rd (New w w') w' cn l[k] ∧ Mod R w w' := by
  obtain ⟨E, v, h, hx, hv, hE⟩ := h
  refine (Take_in h hk hP).mono ?_
  rintro e w' ⟨cn, v', rfl, hn, hb, hr, hm⟩
  exact ⟨cn, rfl, ⟨E, v', hn, .inl hx, fun k hk => (hb k hk).imp (hv k) id, fun k hk => .inl (hE k hk)⟩, hr, hm.mono fun k _ hk => hk.elim (fun e => e ▸ hx) (hv k)⟩
theorem SendB {R2 : Nat → Prop} {ms : List Mg} {vm : Value} {p : Nat} (h : NtR R w x mo l sn lo) (hms : RdS MgR R2 w vm ms) (hB2 : ∀ k, R2 k → k < w.heap.size) (h2 : ∀ k, R2 k → R k → False) (hP : ∀ m ∈ ms, cpMg m) (hml : ms.length ≤ 1000) (hlo : ((l.length : Nat) : Int) ≤ mo) (hmo : mo ≤ 4096)
    (hsn : 0 ≤ sn ∧ sn ≤ 1000000) (hlb : 0 ≤ lo ∧ lo ≤ 1000000) (hp : p = min ms.length (mo - (l.length : Nat)).toNat) : Calls Try.prog 8 #[.pointer (some ⟨x, 0, none⟩), vm] w fun e w' => e = .returned (.int .i64 ((p : Nat) : Int)) ∧
    NtR (fun k => R k ∨ New w w' k) w' x mo (l ++ ms.take p) (sn + ((p : Nat) : Int)) (lo + ((ms.length : Nat) : Int) - ((p : Nat) : Int)) ∧ Mod R w w' := by
  obtain ⟨E, v, h, hx, hv, hE⟩ := h
  refine (Send_Q h hms hB2 (fun k hk => ⟨fun e => h2 k hk (e ▸ hx), fun e => h2 k hk (hv k e)⟩) hP hml hlo hmo hsn hlb hp).mono ?_
  rintro e w' ⟨v', rfl, hn, hb, hm⟩
  exact ⟨rfl, ⟨_, v', hn, .inl hx, fun k hk => (hb k hk).imp (hv k) id, fun k hk => hk.imp (hE k) id⟩, hm.mono fun k _ hk => hk.elim (fun e => e ▸ hx) (hv k)⟩
end
end Go.Proofs.Ytekbmpjdombedaa

/- Equality of commitments, names and signatures. -/
namespace Go.Proofs.Ytekbmpjdombedaa
open Go Go.RowKit Go.Gv
theorem size_run {P : Program} {T : TypeId} {n : Nat} (h : (P.info? T).map (·.size) = some n) (w : World) : (sizeOf T).run P w = .ok n w := by
 cases hq : P.info? T with
 | none => rw [hq] at h; cases h
 | some i => rw [hq] at h; simp [sizeOf, typeInfo, hq]; exact Option.some.inj h
theorem part_agg {P : Program} {T : TypeId} {n : Nat} {d : TypeDesc} (hu : P.underlying T = some d) (hd : aggDesc d = true) (h : (P.info? T).map (·.size) = some n) (cs : Array Value) (off : Nat) (w : World) : (part T cs off).run P w = .ok (.agg (cs.extract off (off + n))) w := by
 have hagg : (isAgg T).run P w = .ok true w := by
  unfold isAgg
  rw [Sem.run_bind, run_underlying hu w]
  cases d <;> simp_all [aggDesc]
 simp [part, hagg, size_run h]
theorem part_one {P : Program} {T : TypeId} {d : TypeDesc} (hu : P.underlying T = some d) (hd : aggDesc d = false) {cs : Array Value} {off : Nat} {v : Value} (hv : cs[off]? = some v) (w : World) : (part T cs off).run P w = .ok v w := by
 have hagg : (isAgg T).run P w = .ok false w := by
  unfold isAgg
  rw [Sem.run_bind, run_underlying hu w]
  cases d <;> simp_all [aggDesc]
 simp [part, hagg, hv]
end Go.Proofs.Ytekbmpjdombedaa

/- Equality of flat things (all cells are ints): they are equal where their cells are. -/
namespace Go.Proofs.Ytekbmpjdombedaa
open Go Go.RowKit Go.Gv

/-- cells that are ints of these kinds -/
def KI : List IntKind → List Value → Prop
  | [], [] => True
  | k :: ks, v :: vs => (∃ a, v = .int k a) ∧ KI ks vs
  | _, _ => False
theorem KI.len : ∀ {ks : List IntKind} {vs : List Value}, KI ks vs → vs.length = ks.length
  | [], [], _ => rfl
  | k :: ks, v :: vs, h => by simp [KI.len h.2]
  | [], v :: vs, h => h.elim
  | k :: ks, [], h => h.elim
theorem KI.append : ∀ {ks ks' : List IntKind} {a b : List Value}, KI ks a → KI ks' b → KI (ks ++ ks') (a ++ b)
  | [], ks', [], b, _, h => h
  | k :: ks, ks', v :: vs, b, h, h' => ⟨h.1, KI.append h.2 h'⟩
  | [], _, v :: vs, _, h, _ => h.elim
  | k :: ks, _, [], _, h, _ => h.elim
theorem KI.split : ∀ {ks ks' : List IntKind} {vs : List Value}, KI (ks ++ ks') vs → ∃ a b, vs = a ++ b ∧ KI ks a ∧ KI ks' b
  | [], ks', vs, h => ⟨[], vs, rfl, trivial, h⟩
  | k :: ks, ks', v :: vs, h => by
    obtain ⟨a, b, rfl, h1, h2⟩ := KI.split h.2
    exact ⟨v :: a, b, rfl, ⟨h.1, h1⟩, h2⟩
  | k :: ks, _, [], h => h.elim
theorem KI.ints {k : IntKind} : ∀ {n : Nat} {h : List Int}, h.length = n → KI (List.replicate n k) (h.map (Value.int k))
  | 0, [], _ => trivial
  | n + 1, a :: h, e => ⟨⟨a, rfl⟩, KI.ints (by simpa using e)⟩
theorem KI.rep {k : IntKind} : ∀ {n : Nat} {vs : List Value}, KI (List.replicate n k) vs → ∃ h : List Int, h.length = n ∧ vs = h.map (Value.int k)
  | 0, [], _ => ⟨[], rfl, rfl⟩
  | 0, v :: vs, h => h.elim
  | n + 1, [], h => h.elim
  | n + 1, v :: vs, h => by
    obtain ⟨a, rfl⟩ := h.1
    obtain ⟨l, e, rfl⟩ := KI.rep h.2
    exact ⟨a :: l, by simp [e], rfl⟩
def EqW (P : Program) (d : Nat) (T : TypeId) (ks : List IntKind) : Prop := ∀ (xs ys : List Value) (c : Bool) (w : World), KI ks xs → KI ks ys → (c = true ↔ xs = ys) → (Op.equalIn d T (.agg xs.toArray) (.agg ys.toArray)).run P w = .ok c w
def EqT (P : Program) (d : Nat) (T : TypeId) (ks : List IntKind) : Prop := ∀ (A B : List Value) (off : Nat) (xs ys : List Value) (c : Bool) (w : World), KI ks xs → KI ks ys → (c = true ↔ xs = ys) → (A.drop off).take ks.length = xs → (B.drop off).take ks.length = ys →
  ∃ x y, (part T A.toArray off).run P w = .ok x w ∧ (part T B.toArray off).run P w = .ok y w ∧ (Op.equalIn d T x y).run P w = .ok c w
theorem ex_bool (p : Prop) : ∃ c : Bool, (c = true ↔ p) := by
  rcases Classical.em p with h | h
  · exact ⟨true, by simp [h]⟩
  · exact ⟨false, by simp [h]⟩
theorem bool_of {c d : Bool} (h : c = true ↔ d = true) : c = d := by cases c <;> cases d <;> simp_all
variable {P : Program}
theorem drop_one {A : List Value} {off : Nat} {v : Value} (h : (A.drop off).take 1 = [v]) : A.toArray[off]? = some v := by
  have h1 : ((A.drop off).take 1)[0]? = some v := by rw [h]; rfl
  rw [List.getElem?_take, List.getElem?_drop] at h1
  simpa using h1
theorem EqT.int {d : Nat} {T : TypeId} {k : IntKind} (hu : P.underlying T = some (.int k)) : EqT P (d + 1) T [k] := by
  intro A B off xs ys c w hx hy hc ha hb
  match xs, ys, hx, hy with
  | [x], [y], ⟨⟨a, e⟩, _⟩, ⟨⟨b, e'⟩, _⟩ =>
    subst e e'
    refine ⟨_, _, part_one hu rfl (drop_one ha) w, part_one hu rfl (drop_one hb) w, ?_⟩
    rw [run_equalIn_int w d T k k a b hu, show (a == b) = c from bool_of (by rw [hc]; simp)]
theorem EqT.agg {d : Nat} {T : TypeId} {ks : List IntKind} {de : TypeDesc} (h : EqW P d T ks) (hu : P.underlying T = some de) (hd : aggDesc de = true) (hs : (P.info? T).map (·.size) = some ks.length) : EqT P d T ks := by
  intro A B off xs ys c w hx hy hc ha hb
  have e : ∀ (A : List Value), A.toArray.extract off (off + ks.length) = ((A.drop off).take ks.length).toArray := fun A => by
    apply Array.ext'
    simp [List.extract_eq_take_drop, Nat.add_sub_cancel_left]
  have p1 := part_agg hu hd hs A.toArray off w
  have p2 := part_agg hu hd hs B.toArray off w
  rw [e, ha] at p1
  rw [e, hb] at p2
  exact ⟨_, _, p1, p2, h xs ys c w hx hy hc⟩
theorem EqW.ints {d : Nat} {T e : TypeId} {n : Nat} {k : IntKind} (ht : P.underlying T = some (.array n e)) (he : P.underlying e = some (.int k)) (hs : (P.info? e).map (·.size) = some 1) : EqW P (d + 2) T (List.replicate n k) := by
  intro xs ys c w hx hy hc
  obtain ⟨a, ha, rfl⟩ := hx.rep
  obtain ⟨b, hb, rfl⟩ := hy.rep
  rw [run_equalIn_ints w d T e n ht he hs a b ha hb]
  rw [show decide (a = b) = c from bool_of (by
    rw [hc, decide_eq_true_iff]
    exact ⟨fun h => by rw [h], fun h => (List.map_inj_right (fun x y h => by injection h)).1 h⟩)]
def FsE (P : Program) (d : Nat) : Nat → List Field → List (List IntKind) → Prop
  | _, [], [] => True
  | off, f :: fs, ks :: l => f.name ≠ "_" ∧ f.offset = off ∧ EqT P d f.type ks ∧ FsE P d (off + ks.length) fs l
  | _, _, _ => False
theorem eqFields_all {d : Nat} : ∀ (fs : List Field) (l : List (List IntKind)) (pre pre' xs ys : List Value) (c : Bool) (w : World), FsE P d pre.length fs l → pre'.length = pre.length → KI l.flatten xs → KI l.flatten ys → (c = true ↔ xs = ys) →
    (Op.eqFields d (pre ++ xs).toArray (pre' ++ ys).toArray fs).run P w = .ok c w
  | [], [], pre, pre', xs, ys, c, w, _, _, hx, hy, hc => by
    match xs, ys, hx, hy, hc with
    | [], [], _, _, hc => obtain rfl : c = true := hc.2 rfl; simp [Op.eqFields]
  | [], _ :: _, _, _, _, _, _, _, h, _, _, _, _ => h.elim
  | _ :: _, [], _, _, _, _, _, _, h, _, _, _, _ => h.elim
  | f :: fs, ks :: l, pre, pre', xs, ys, c, w, ⟨h1, h2, h3, h4⟩, hp, hx, hy, hc => by
    obtain ⟨a, b, rfl, ha, hb⟩ := KI.split (by simpa using hx)
    obtain ⟨a', b', rfl, ha', hb'⟩ := KI.split (by simpa using hy)
    have la := ha.len
    have la' := ha'.len
    obtain ⟨c1, hc1⟩ := ex_bool (a = a')
    obtain ⟨c2, hc2⟩ := ex_bool (b = b')
    obtain ⟨x, y, p1, p2, q⟩ := h3 (pre ++ (a ++ b)) (pre' ++ (a' ++ b')) pre.length a a' c1 w ha ha' hc1 (by rw [List.drop_left, ← la, List.take_left]) (by rw [← hp, List.drop_left, ← la', List.take_left])
    have ih := eqFields_all fs l (pre ++ a) (pre' ++ a') b b' c2 w (by rw [List.length_append, la]; exact h4) (by rw [List.length_append, List.length_append, hp, la, la']) hb hb' hc2
    rw [List.append_assoc, List.append_assoc] at ih
    unfold Op.eqFields
    rw [if_pos h1, h2]
    simp only [Sem.run_bind, p1, p2, q, Result.andThen_ok]
    have hcc : c = (c1 && c2) := bool_of (by
      rw [hc, Bool.and_eq_true, hc1, hc2]
      exact ⟨fun h => List.append_inj h (by rw [la, la']), fun h => by rw [h.1, h.2]⟩)
    subst hcc
    cases c1
    · simp
    · simp [ih]
theorem EqW.struct {d : Nat} {T : TypeId} {fs : Array Field} (l : List (List IntKind)) (hu : P.underlying T = some (.struct fs)) (hs : P.stoodInHeld T = false) (hl : FsE P d 0 fs.toList l) : EqW P (d + 1) T l.flatten := by
  intro xs ys c w hx hy hc
  have hf : P.fieldsOf T = fs := by unfold Program.fieldsOf; rw [hu]
  rw [run_equalIn_struct w d T xs.toArray ys.toArray (by rw [hf]; exact hu) hs, hf]
  exact eqFields_all fs.toList l [] [] xs ys c w hl rfl hx hy hc
theorem EqW.run {T : TypeId} {ks : List IntKind} (h : EqW P 10000 T ks) {xs ys : List Value} (hx : KI ks xs) (hy : KI ks ys) {c : Bool} (hc : c = true ↔ xs = ys) (w : World) : (binOp .eql T (.agg xs.toArray) (.agg ys.toArray)).run P w = .ok (.bool (c)) w := by
  rw [run_eql_struct, h xs ys c w hx hy hc]
  rfl
theorem EqW.runN {T : TypeId} {ks : List IntKind} (h : EqW P 10000 T ks) {xs ys : List Value} (hx : KI ks xs) (hy : KI ks ys) {c : Bool} (hc : c = true ↔ xs = ys) (w : World) : (binOp .neq T (.agg xs.toArray) (.agg ys.toArray)).run P w = .ok (.bool (!c)) w := by
  rw [run_neq_struct, h xs ys c w hx hy hc]
  rfl
abbrev kHash : List IntKind := List.replicate 32 .u8
theorem eqT_int {d : Nat} : EqT Try.prog (d + 1) 3 [.i64] := EqT.int Try.underlying3
theorem eqT_u64 {d : Nat} : EqT Try.prog (d + 1) 36 [.u64] := EqT.int Try.underlying36
theorem eqT_hash {d : Nat} : EqT Try.prog (d + 2) 31 kHash := EqT.agg (EqW.ints Try.underlying31 Try.underlying5 (by kernel_rfl)) Try.underlying31 rfl (by kernel_rfl)
theorem eqW_name {d : Nat} : EqW Try.prog (d + 2) 29 [.i64, .i64] := EqW.struct [[.i64], [.i64]] Try.underlying29 (by kernel_rfl) ⟨by decide, rfl, eqT_int, by decide, rfl, eqT_int, trivial⟩
theorem eqT_name {d : Nat} : EqT Try.prog (d + 2) 29 [.i64, .i64] := EqT.agg eqW_name Try.underlying29 rfl (by kernel_rfl)
theorem eqW_sig {d : Nat} : EqW Try.prog (d + 2) 33 [.i64, .i64] := EqW.struct [[.i64], [.i64]] Try.underlying33 (by kernel_rfl) ⟨by decide, rfl, eqT_int, by decide, rfl, eqT_int, trivial⟩
theorem eqT_sig {d : Nat} : EqT Try.prog (d + 2) 33 [.i64, .i64] := EqT.agg eqW_sig Try.underlying33 rfl (by kernel_rfl)
theorem eqW_stamp {d : Nat} : EqW Try.prog (d + 3) 38 [[.i64], [.i64, .i64], kHash, [.u64], [.i64, .i64]].flatten :=
  EqW.struct [[.i64], [.i64, .i64], kHash, [.u64], [.i64, .i64]] Try.underlying38 (by kernel_rfl) ⟨by decide, rfl, eqT_int, by decide, rfl, eqT_name, by decide, rfl, eqT_hash, by decide, rfl, eqT_u64, by decide, rfl, eqT_sig, trivial⟩
theorem eqW_ack {d : Nat} : EqW Try.prog (d + 3) 43 [[.i64], [.i64, .i64], kHash, [.u64], [.i64, .i64]].flatten :=
  EqW.struct [[.i64], [.i64, .i64], kHash, [.u64], [.i64, .i64]] Try.underlying43 (by kernel_rfl) ⟨by decide, rfl, eqT_int, by decide, rfl, eqT_name, by decide, rfl, eqT_hash, by decide, rfl, eqT_u64, by decide, rfl, eqT_sig, trivial⟩
theorem eqW_vote {d : Nat} : EqW Try.prog (d + 3) 55 [[.i64], [.i64], [.i64], [.i64], kHash, [.i64, .i64]].flatten :=
  EqW.struct [[.i64], [.i64], [.i64], [.i64], kHash, [.i64, .i64]] Try.underlying55 (by kernel_rfl) ⟨by decide, rfl, eqT_int, by decide, rfl, eqT_int, by decide, rfl, eqT_int, by decide, rfl, eqT_int, by decide, rfl, eqT_hash, by decide, rfl, eqT_sig, trivial⟩
theorem eqW_deny {d : Nat} : EqW Try.prog (d + 3) 62 [[.i64], [.i64], [.i64, .i64]].flatten :=
  EqW.struct [[.i64], [.i64], [.i64, .i64]] Try.underlying62 (by kernel_rfl) ⟨by decide, rfl, eqT_int, by decide, rfl, eqT_int, by decide, rfl, eqT_sig, trivial⟩
theorem eqW_commit {d : Nat} : EqW Try.prog (d + 3) 35 [[.i64, .i64], kHash, [.i64], [.i64, .i64]].flatten :=
  EqW.struct [[.i64, .i64], kHash, [.i64], [.i64, .i64]] Try.underlying35 (by kernel_rfl) ⟨by decide, rfl, eqT_name, by decide, rfl, eqT_hash, by decide, rfl, eqT_int, by decide, rfl, eqT_sig, trivial⟩
theorem eqW_entry {d : Nat} : EqW Try.prog (d + 3) 57 [[.i64, .i64], kHash, [.u64]].flatten :=
  EqW.struct [[.i64, .i64], kHash, [.u64]] Try.underlying57 (by kernel_rfl) ⟨by decide, rfl, eqT_name, by decide, rfl, eqT_hash, by decide, rfl, eqT_u64, trivial⟩
theorem ki_hash {h : List Int} (e : h.length = 32) : KI kHash (h.map bv) := KI.ints e
theorem ki_st {x : St} (h : x.OK) : KI [[.i64], [.i64, .i64], kHash, [.u64], [.i64, .i64]].flatten x.cells := by
  have := KI.append (ks := [.i64, .i64, .i64]) (a := [.int .i64 x.rp, .int .i64 x.cl, .int .i64 x.sq]) ⟨⟨_, rfl⟩, ⟨_, rfl⟩, ⟨_, rfl⟩, trivial⟩ (KI.append (ki_hash h.h.1) (ks' := [.u64, .i64, .i64]) (b := [.int .u64 (x.tm : Nat), .int .i64 x.sb, .int .i64 x.mr]) ⟨⟨_, rfl⟩, ⟨_, rfl⟩, ⟨_, rfl⟩, trivial⟩)
  exact this
theorem ki_vt {x : Vt} (h : x.OK) : KI [[.i64], [.i64], [.i64], [.i64], kHash, [.i64, .i64]].flatten x.cells := by
  have := KI.append (ks := [.i64, .i64, .i64, .i64]) (a := [.int .i64 x.kd, .int .i64 x.ep, .int .i64 x.rd, .int .i64 x.rp]) ⟨⟨_, rfl⟩, ⟨_, rfl⟩, ⟨_, rfl⟩, ⟨_, rfl⟩, trivial⟩ (KI.append (ki_hash h.h.1) (ks' := [.i64, .i64]) (b := [.int .i64 x.sb, .int .i64 x.mr]) ⟨⟨_, rfl⟩, ⟨_, rfl⟩, trivial⟩)
  exact this
theorem ki_dn (x : Dn) : KI [[.i64], [.i64], [.i64, .i64]].flatten x.cells := ⟨⟨_, rfl⟩, ⟨_, rfl⟩, ⟨_, rfl⟩, ⟨_, rfl⟩, trivial⟩
theorem ki_en {x : En} (h : x.OK) : KI [[.i64, .i64], kHash, [.u64]].flatten x.cells := by
  have := KI.append (ks := [.i64, .i64]) (a := [.int .i64 x.cl, .int .i64 x.sq]) ⟨⟨_, rfl⟩, ⟨_, rfl⟩, trivial⟩ (KI.append (ki_hash h.h.1) (ks' := [.u64]) (b := [.int .u64 (x.tm : Nat)]) ⟨⟨_, rfl⟩, trivial⟩)
  exact this
theorem ki_cm {x : Cm} (h : x.h.length = 32) : KI [[.i64, .i64], kHash, [.i64], [.i64, .i64]].flatten x.cells := by
  have := KI.append (ks := [.i64, .i64]) (a := [.int .i64 x.cl, .int .i64 x.sq]) ⟨⟨_, rfl⟩, ⟨_, rfl⟩, trivial⟩ (KI.append (ki_hash h) (ks' := [.i64, .i64, .i64]) (b := [.int .i64 x.ln, .int .i64 x.sb, .int .i64 x.mr]) ⟨⟨_, rfl⟩, ⟨_, rfl⟩, ⟨_, rfl⟩, trivial⟩)
  exact this
end Go.Proofs.Ytekbmpjdombedaa

/- Whether two things are one, in plain words. -/
namespace Go.Proofs.Ytekbmpjdombedaa
open Go Go.RowKit Go.Gv


noncomputable def eqb {α : Type} (x y : α) : Bool := @decide (x = y) (Classical.propDecidable _)
theorem eqb_iff {α : Type} {x y : α} : eqb x y = true ↔ x = y := by unfold eqb; exact @decide_eq_true_iff _ (Classical.propDecidable _)
theorem eqb_rfl {α : Type} (x : α) : eqb x x = true := eqb_iff.2 rfl
theorem eqb_ne {α : Type} {x y : α} (h : ¬ x = y) : eqb x y = false := by
  cases hq : eqb x y with
  | false => rfl
  | true => exact absurd (eqb_iff.1 hq) h
theorem ne_tt {a b : Int} (h : a ≠ b) : (!(a == b)) = true := by simp [h]
theorem ne_ff {a b : Int} (h : a = b) : (!(a == b)) = false := by simp [h]
theorem dec_eqb {α : Type} (x y : α) [h : Decidable (x = y)] : decide (x = y) = eqb x y := by
  rw [Bool.eq_iff_iff, eqb_iff, decide_eq_true_iff]
theorem agg_guardE (op : BinOp) (T : TypeId) (x y : Operand) (a b : Array Value) (h : Try.prog.eqGuardType Try.prog.depth T = false) (w : World) : (eqGuard op T x y (.agg a) (.agg b)).run Try.prog w = .ok () w := run_eqGuard_agg (P := Try.prog) w op T x y a b h
theorem hash_inj {a b : List Int} (h : a.map bv = b.map bv) : a = b := (List.map_inj_right (fun a b e => by injection e)).1 h
theorem ki_2 (a b : Int) : KI [.i64, .i64] [Value.int .i64 a, Value.int .i64 b] := ⟨⟨_, rfl⟩, ⟨_, rfl⟩, trivial⟩
theorem two_iff (a b c d : Int) : eqb (a, b) (c, d) = true ↔ ([Value.int .i64 a, Value.int .i64 b] = [Value.int .i64 c, Value.int .i64 d]) := by
  rw [eqb_iff]
  simp
theorem st_iff {x y : St} (hx : x.OK) (hy : y.OK) : eqb x y = true ↔ x.cells = y.cells := by
  rw [eqb_iff]
  refine ⟨fun h => by rw [h], fun h => ?_⟩
  have h1 := List.append_inj h rfl
  have h2 := List.append_inj h1.2 (by simp [hx.h.1, hy.h.1])
  have h3 := hash_inj h2.1
  have h4 := h1.1
  have h5 := h2.2
  simp only [List.cons.injEq, Value.int.injEq, and_true, true_and, Int.ofNat_inj] at h4 h5
  cases x; cases y
  simp_all
theorem vt_iff {x y : Vt} (hx : x.OK) (hy : y.OK) : eqb x y = true ↔ x.cells = y.cells := by
  rw [eqb_iff]
  refine ⟨fun h => by rw [h], fun h => ?_⟩
  have h1 := List.append_inj h rfl
  have h2 := List.append_inj h1.2 (by simp [hx.h.1, hy.h.1])
  have h3 := hash_inj h2.1
  have h4 := h1.1
  have h5 := h2.2
  simp only [List.cons.injEq, Value.int.injEq, and_true, true_and, Int.ofNat_inj] at h4 h5
  cases x; cases y
  simp_all
theorem cm_iff {x y : Cm} (hx : x.OK) (hy : y.OK) : eqb x y = true ↔ x.cells = y.cells := by
  rw [eqb_iff]
  refine ⟨fun h => by rw [h], fun h => ?_⟩
  have h1 := List.append_inj h rfl
  have h2 := List.append_inj h1.2 (by simp [hx.2.1, hy.2.1])
  have h3 := hash_inj h2.1
  have h4 := h1.1
  have h5 := h2.2
  simp only [List.cons.injEq, Value.int.injEq, and_true, true_and, Int.ofNat_inj] at h4 h5
  cases x; cases y
  simp_all
theorem en_iff {x y : En} (hx : x.OK) (hy : y.OK) : eqb x y = true ↔ x.cells = y.cells := by
  rw [eqb_iff]
  refine ⟨fun h => by rw [h], fun h => ?_⟩
  have h1 := List.append_inj h rfl
  have h2 := List.append_inj h1.2 (by simp [hx.h.1, hy.h.1])
  have h3 := hash_inj h2.1
  have h4 := h1.1
  have h5 := h2.2
  simp only [List.cons.injEq, Value.int.injEq, and_true, true_and, Int.ofNat_inj] at h4 h5
  cases x; cases y
  simp_all
theorem dn_iff {x y : Dn} (hx : x.OK) (hy : y.OK) : eqb x y = true ↔ x.cells = y.cells := by
  rw [eqb_iff]
  refine ⟨fun h => by rw [h], fun h => ?_⟩
  simp only [Dn.cells, List.cons.injEq, Value.int.injEq, and_true, true_and] at h
  cases x; cases y
  simp_all
theorem ce_eqb (x y : Ce) : (eqb x.c y.c && eqb x.l y.l) = eqb x y := by
  rw [Bool.eq_iff_iff, Bool.and_eq_true, eqb_iff, eqb_iff, eqb_iff]
  cases x; cases y
  simp
theorem beq_I (a b : Int) : (a == b) = true ↔ a = b := by simp
theorem pm_eqb (x y : Pm) : (((((x.rp == y.rp) && (x.ep == y.ep)) && (((x.fl : Nat) : Int) == ((y.fl : Nat) : Int))) && eqb (x.sb, x.mr) (y.sb, y.mr)) && eqb x.l y.l) = eqb x y := by
  rw [Bool.eq_iff_iff]
  simp only [Bool.and_eq_true, eqb_iff, beq_I, Int.ofNat_inj, Prod.mk.injEq]
  cases x; cases y
  simp only [Pm.mk.injEq]
  constructor
  · rintro ⟨⟨⟨⟨h1, h2⟩, h3⟩, h4, h5⟩, h6⟩; exact ⟨h1, h2, h3, h6, h4, h5⟩
  · rintro ⟨h1, h2, h3, h6, h4, h5⟩; exact ⟨⟨⟨⟨h1, h2⟩, h3⟩, h4, h5⟩, h6⟩
theorem op_eqb (x y : Op) : (((x.ix == y.ix) && eqb x.nc y.nc) && eqb x.pl y.pl) = eqb x y := by
  rw [Bool.eq_iff_iff]
  simp only [Bool.and_eq_true, eqb_iff, beq_I]
  cases x; cases y
  simp only [Op.mk.injEq]
  constructor
  · rintro ⟨⟨h1, h2⟩, h3⟩; exact ⟨h1, h3, h2⟩
  · rintro ⟨h1, h3, h2⟩; exact ⟨⟨h1, h2⟩, h3⟩
theorem tb_eqb (x y : Tb) : ((!(x.ix == y.ix)) || (!eqb x.l y.l)) = !eqb x y := by
  have h : ((x.ix == y.ix) && eqb x.l y.l) = eqb x y := by
    rw [Bool.eq_iff_iff]
    simp only [Bool.and_eq_true, eqb_iff, beq_I]
    cases x; cases y
    simp
  rw [← h]
  cases (x.ix == y.ix) <;> cases eqb x.l y.l <;> rfl
theorem ba_eqb (x y : Ba) (h : (((((!(x.ep == y.ep)) || (!(((x.tm : Nat) : Int) == ((y.tm : Nat) : Int)))) || (!(((x.ps.length : Nat) : Int) == ((y.ps.length : Nat) : Int)))) || (!eqb x.os y.os)) || (!eqb x.ts y.ts)) = false) : eqb x.ps y.ps = eqb x y := by
  simp only [Bool.or_eq_false_iff, Bool.not_eq_false', eqb_iff, beq_I, Int.ofNat_inj] at h
  obtain ⟨⟨⟨⟨h1, h2⟩, h3⟩, h4⟩, h5⟩ := h
  rw [Bool.eq_iff_iff, eqb_iff, eqb_iff]
  cases x; cases y
  simp_all
theorem ba_neb (x y : Ba) (h : (((((!(x.ep == y.ep)) || (!(((x.tm : Nat) : Int) == ((y.tm : Nat) : Int)))) || (!(((x.ps.length : Nat) : Int) == ((y.ps.length : Nat) : Int)))) || (!eqb x.os y.os)) || (!eqb x.ts y.ts)) = true) : eqb x y = false := by
  refine eqb_ne fun e => ?_
  subst e
  simp [eqb_rfl] at h
theorem take_ne {α : Type} {l m : List α} {k : Nat} (h1 : k < l.length) (h2 : k < m.length) (h : ¬ l[k] = m[k]) : eqb l m = false := eqb_ne fun e => h (by subst e; rfl)
theorem take_all {α : Type} {l m : List α} {k : Nat} (h1 : l.length ≤ k) (h2 : m.length ≤ k) (h : l.take k = m.take k) : eqb l m = true := by
  rw [List.take_of_length_le h1, List.take_of_length_le h2] at h
  exact eqb_iff.2 h
theorem take_succ2 {α : Type} {l m : List α} {k : Nat} (h1 : k < l.length) (h2 : k < m.length) (h : l.take k = m.take k) (he : l[k] = m[k]) : l.take (k + 1) = m.take (k + 1) := by
  rw [List.take_succ_eq_append_getElem h1, List.take_succ_eq_append_getElem h2, h, he]
/-- a function that says whether two things are one; two lists -/
def Eqs {α : Type} (A : Rep α) (F : FuncId) : Prop := ∀ (R R2 : Nat → Prop) (cs ds : List Value) (x y : α) (w : World), A.rd R w cs x → A.rd R2 w ds y → (∀ k, R k → k < w.heap.size) → (∀ k, R2 k → k < w.heap.size) →
  Calls Try.prog F #[.agg cs.toArray, .agg ds.toArray] w fun e w' => e = .returned (.bool (eqb x y)) ∧ Mod (fun _ => False) w w'
def EqsL {α : Type} (A : Rep α) (F : FuncId) : Prop := ∀ (R R2 : Nat → Prop) (v v2 : Value) (l m : List α) (w : World), RdS A R w v l → RdS A R2 w v2 m → (∀ k, R k → k < w.heap.size) → (∀ k, R2 k → k < w.heap.size) →
  Calls Try.prog F #[v, v2] w fun e w' => e = .returned (.bool (eqb l m)) ∧ Mod (fun _ => False) w w'
theorem Same_B {R R2 : Nat → Prop} {N N2 : Nat} {va vb : Value} {a b : List Int} {w : World} (ha : RdR R N w va a) (hb : RdR R2 N2 w vb b) :
    Calls Try.prog 42 #[va, vb] w fun e w' => e = .returned (.bool (eqb a b)) ∧ Mod (fun _ => False) w w' :=
  (Same_R ha hb).mono fun _ _ ⟨he, hm⟩ => ⟨he.trans (by rw [dec_eqb]), hm⟩
end Go.Proofs.Ytekbmpjdombedaa
