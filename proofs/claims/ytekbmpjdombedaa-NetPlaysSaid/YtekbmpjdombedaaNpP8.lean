/- Texts that are built one behind the other: XNr1, XNr2, XNr3, XNr4. No condition. -/
import Derived.Test.YtekbmpjdombedaaNpP7
set_option maxRecDepth 100000
set_option linter.unusedVariables false
open List renaming setIfInBounds_toArray → sIB, set_cons_zero → sCZ, set_cons_succ → sCS
/- gavelref20.Net: Take, Double. -/
namespace Go.Proofs.Ytekbmpjdombedaa
open Go Go.RowKit Go.Gv

set_option maxHeartbeats 8000000 in
theorem RTake_in {Eb : Nat → Prop} {w : World} {x : Nat} {v : Value} {mo sn lo : Int} {l : List Mg} {k : Nat} (h : RnV Eb w x v mo l sn lo) (hk : k < l.length) (hmo : l.length ≤ 4096) : Calls Try.prog 29 #[.pointer (some ⟨x, 0, none⟩), .int .i64 ((k : Nat) : Int)] w fun e w' => ∃ cn v', e = .returned (.tuple #[.agg cn.toArray, .bool true]) ∧ RnV Eb w' x v' mo (l.eraseIdx k) sn lo ∧
    (∀ k, v'.ownBlock = some k → New w w' k) ∧ MgR.rd Eb w' cn l[k] ∧ Mod (fun k => k = x) w w' := by
  obtain ⟨hc, hbE, hxE, hvx, ho0⟩ := h
  obtain ⟨Q1, hQ1, ho⟩ : ∃ Q : Nat → Prop, (∀ k, Q k ↔ v.ownBlock = some k) ∧ OwS MgR 67 Q Eb w v l := ⟨_, fun _ => Iff.rfl, ho0⟩
  have hbq : ∀ k, Q1 k → k < w.heap.size := fun k hk => ho0.lt ((hQ1 k).1 hk)
  have hxq : ¬ Q1 x := fun hk => hvx ((hQ1 x).1 hk)
  obtain ⟨ao, cap, rfl⟩ := ho.shape
  have hxl := hc.lt
  have hlm : l.length ≤ 9223372036854775807 := by rw [← maxLen_val]; exact ho.rd.bd
  have HNT := hid (show Cs w x #[.int .i64 mo, .int .i64 sn, .int .i64 lo, Value.slice ao l.length cap] 82 from hc)
  have HOL := Lib.hid ho
  have HQ1 := Lib.hid hQ1
  have HBQ := Lib.hid hbq
  have HBE := Lib.hid hbE
  have HXQ := Lib.hid hxq
  have HXE := Lib.hid hxE
  clear hc ho0 ho hQ1 hbE hxE hvx hbq hxq
  go_enter Try.func29, Try.ntmps29
  go_upto_region 1 with (fail)
  obtain ⟨w1, hw1⟩ : ∃ zz, zz = (w.alloc (.cells ((mg0C 0 0 0) : List Value).toArray 67)) := ⟨_, rfl⟩
  change Code.wp _ _ _ _ (w.alloc (.cells ((mg0C 0 0 0) : List Value).toArray 67))
  rw [← hw1]
  have HB4 := hid (show Cs w1 (w.heap.size) ((mg0C 0 0 0) : List Value).toArray 67 by rw [hw1]; exact Cs.new _ _ _)
  have hm : Mod (fun _ => False) w w1 := by rw [hw1]; exact (Mod.refl _ _).alloc _
  have HM0 := hid (show Mod (fun k => (k = x)) w w1 from hm.mono (fun _ _ h => h.elim))
  have hs1 : w1.heap.size = w.heap.size + 1 := by rw [hw1]; simp
  have Hx1 := hid (HNT.out.mod hm (fun h => h))
  clear HNT
  have Hx2 := hid (HOL.out.mod hm (fun _ _ h => h) (fun _ _ h => h))
  clear HOL
  clear hw1 hm
  go_upto_region 1 with (fail)
  refine wp_region_U 45 [7, 8, 9, 10, 11, 12, 13, 14, 15, 16, 17] [0, 1, 2, 3, 4, 5, 6, 7, 8, 9, 10] (fun a0 HA0 => ?_)
  have oe0 := ev HA0 0 rfl
  have oe1 := ev HA0 1 rfl
  refine QSeq.pure rfl _ (fun E => ex_move rfl (E.v oe1)) ?_
  refine QSeq.pure rfl (.bool false) (fun E => ex_binE rfl (E.d 0 0) rfl (guard_ints _ _ _ _ _ _) (run_lss_i _ _ _ Try.underlying3) (congrArg Value.bool (decide_eq_false (by omega)))) ?_
  refine QSeq.pure rfl _ (fun E => ex_move rfl (E.d 1 0)) ?_
  refine QSeq.pureG rfl (.int .i64 ((k : Nat) : Int)) (fun E => ((wanted_of rfl rfl (E.sz 9 (by decide)) (E.d 2 0)).trans rfl)) (fun E => ex_move rfl (E.v oe1)) ?_
  refine QSeq.pureG rfl (.pointer (some ⟨x, 0, none⟩)) (fun E => ((wanted_of rfl rfl (E.sz 9 (by decide)) (E.d 2 1)).trans rfl)) (fun E => ex_move rfl (E.v oe0)) ?_
  refine QSeq.pureG rfl (.pointer (some ⟨x, 0, none⟩)) (fun E => ((wanted_of rfl rfl (E.sz 9 (by decide)) (E.d 2 2)).trans rfl)) (fun E => ex_nil rfl (E.d 4 0)) ?_
  refine QSeq.pureG rfl (.pointer (some ⟨x, 3, none⟩)) (fun E => ((wanted_of rfl rfl (E.sz 9 (by decide)) (E.d 2 3)).trans rfl)) (fun E => ex_field rfl Try.underlying82 rfl (by kernel_rfl) (E.d 5 0)) ?_
  refine QSeq.pureG rfl (.slice ao l.length cap) (fun E => ((wanted_of rfl rfl (E.sz 9 (by decide)) (E.d 2 4)).trans rfl)) (fun E => ex_load1 rfl Try.underlying76 rfl (E.d 6 0) (Cs.lit1 Hx1.out rfl)) ?_
  refine QSeq.pureG rfl (.int .i64 l.length) (fun E => ((wanted_of rfl rfl (E.sz 9 (by decide)) (E.d 2 5)).trans rfl)) (fun E => ex_lenS rfl (E.d 7 0) Try.underlying76) ?_
  refine QSeq.pureG rfl (.bool false) (fun E => ((wanted_of rfl rfl (E.sz 9 (by decide)) (E.d 2 6)).trans rfl)) (fun E => ex_binE rfl (E.d 3 5) (E.d 8 0) (guard_ints _ _ _ _ _ _) (run_geq_i _ _ _ Try.underlying3) (congrArg Value.bool (decide_eq_false (by omega)))) ?_
  refine QSeq.pure rfl (.bool false) (fun E => ex_pick rfl (E.d 2 7) rfl (E.d 9 0)) ?_
  refine QSeq.nil (t' := [_, _, _, _, _, _, _, _, _, _, _]) rfl ?_
  obtain rfl := HA0.out
  clear HA0 oe0 oe1
  simp only [pz, Act.put, sIB, sCZ, sCS]
  have hcb : l.length ≤ cap := (OwS.capBd2 Hx2.out).2.1
  obtain ⟨g0, cs, eao, hrg, hrd, hcs⟩ := Hx2.out.at3 hk
  subst eao
  generalize hmm : l[k] = m at hrd
  have HMM := Lib.hid hmm
  have HCL := hid (show cs.length = 295 from MgR.len hrd)
  have HOC := hid (MgR.one hrd)
  have HAT := hid (show CellsAt Q1 w1 g0 (0 + k * 295) cs from ⟨hrg, hcs⟩)
  obtain ⟨Q2, hQ2⟩ : ∃ Q : Nat → Prop, Q = fun b => Eb b ∧ b ≠ g0 := ⟨_, rfl⟩
  rw [← hQ2] at hrd
  have HB2 := hid (show ∀ b, Q2 b → b < w.heap.size from fun b hb => by rw [hQ2] at hb; exact HBE.out b hb.1)
  have HQ2 := hid (show ∀ b, Q1 b → Q2 b → False from fun b h1 hb => by rw [hQ2] at hb; have h3 := (HQ1.out b).1 h1; cases h3; exact hb.2 rfl)
  have HQE := hid (show ∀ b, Q2 b → Eb b from fun b hb => by rw [hQ2] at hb; exact hb.1)
  have HX2 := hid (show ¬ Q2 x from fun hb => by rw [hQ2] at hb; exact HXE.out hb.1)
  have HRD := hid (show MgR.rd Q2 w1 cs m from hrd)
  clear hrg hrd hcs hmm hQ2
  go_upto_region 3 with (fail)
  refine wp_region_U 45 [19, 20, 21, 22, 23, 24, 25, 6, 53] [0, 1, 2, 3, 4, 5, 6, 7, 8] (fun a0 HA0 => ?_)
  have oe0 := ev HA0 0 rfl
  have oe1 := ev HA0 1 rfl
  refine QSeq.pure rfl _ (fun E => ex_move rfl (E.v oe0)) ?_
  refine QSeq.pure rfl (.pointer (some ⟨x, 0, none⟩)) (fun E => ex_nil rfl (E.d 0 0)) ?_
  refine QSeq.pure rfl (.pointer (some ⟨x, 3, none⟩)) (fun E => ex_field rfl Try.underlying82 rfl (by kernel_rfl) (E.d 1 0)) ?_
  refine QSeq.pure rfl _ (fun E => ex_load1 rfl Try.underlying76 rfl (E.d 2 0) (Cs.lit1 Hx1.out rfl)) ?_
  refine QSeq.pure rfl _ (fun E => ex_move rfl (E.v oe1)) ?_
  refine QSeq.pure rfl (.pointer (some ⟨g0, 0 + k * 295, none⟩)) (fun E => ex_idxS (i := k) (s := 295) rfl Try.underlying76 (by kernel_rfl) (E.d 3 1) (E.d 4 0) (by omega)) ?_
  refine QSeq.pure rfl _ (fun E => ex_loadA rfl Try.underlying67 rfl (off := 0 + k * 295) (cs := cs) (by rw [HCL.out]; kernel_rfl) (E.d 5 0) (fun j u hu => (HAT.out).2 j u hu)) ?_
  refine QSeq.go fun act E => ?_
  refine qc_alloc rfl (wanted_none rfl) rfl (z := (mg0C 0 0 0)) (by kernel_rfl) ?_
  intro u3_7 qq6 hm
  have zl3_7 := qq6.lt
  have Hx3 := hid qq6
  have zu3_7 := hm.size
  have Cx4 := hid (show Mod (fun _ => False) w1 u3_7 from hm)
  clear hm
  clear act E qq6
  refine QSeq.go fun act E => ?_
  have hlz : (cs).length = List.length ((mg0C 0 0 0) : List Value) := (by rw [HCL.out]; kernel_rfl)
  refine qc_store rfl (wanted_none rfl) rfl Hx3.out (off := 0) (vs := cs) (by rw [hlz]; kernel_rfl) HOC.out (by rw [hlz]; exact Nat.le_of_eq (Nat.zero_add _)) (E.d 7 0) (ec (E.d 6 1)) ?_
  intro u3_8 qc0 hm
  have qq6 := qc0.eqv (b := (cs : List Value).toArray) (lay_whole (((mg0C 0 0 0) : List Value).toArray) _ (by rw [hlz]; rfl))
  clear qc0 hlz
  have Hx5 := hid qq6
  have zu3_8 := hm.size
  have HMu3_8 := hid hm
  have Cx6 := hid (Mod.goS (S' := (fun _ => False)) Cx4.out hm (fun _ h => h) (by intro k h0 h2; omega))
  clear hm Cx4
  clear act E qq6 Hx3
  clear HMu3_8
  refine QSeq.nil (t' := [_, _, _, _, _, _, _, _, _]) rfl ?_
  obtain rfl := HA0.out
  clear HA0 oe0 oe1
  simp only [pz, Act.put, sIB, sCZ, sCS, List.set_nil]
  clear HAT
  go_upto_region 4 with (fail)
  generalize ha0 : Act.mk _ _ = a0
  have oe0 : a0.eval (.tmp 0) = .pointer (some ⟨x, 0, none⟩) := by rw [← ha0]; rfl
  have oe1 : a0.eval (.tmp 1) = .int .i64 ((k : Nat) : Int) := by rw [← ha0]; rfl
  have hsz0 : a0.tmps.size = 45 := by rw [← ha0]; rfl
  have HA0 := hid ha0
  clear ha0
  refine wp_region_Q1 45 hsz0 [26, 27, 28, 29, 30, 31, 32, 33, 34, 35, 36, 37, 38, 39, 40, 41, 42, 43, 63] (fun k => (k = x)) (fun k j => (k = 2 ∧ ((j = x)))) (fun _ _ h => h.2) [qi (.pointer (some ⟨x, 0, none⟩)), qi (.pointer (some ⟨x, 0, none⟩)), qi (.pointer (some ⟨x, 0, none⟩)), qi (.pointer (some ⟨x, 3, none⟩)), qi (.slice (some ⟨g0, 0, none⟩) l.length cap), qi (.int .i64 ((k : Nat) : Int)), qi (.slice (some ⟨g0, 0, none⟩) k cap), qv 0, qi (.pointer (some ⟨x, 0, none⟩)), qi (.pointer (some ⟨x, 0, none⟩)), qi (.pointer (some ⟨x, 3, none⟩)), qi (.slice (some ⟨g0, 0, none⟩) l.length cap), qi (.int .i64 ((k : Nat) : Int)), qi (.int .i64 ((k + 1 : Nat) : Int)), qi (slV 295 (some ⟨g0, 0, none⟩) (k + 1) l.length cap), qv 1, qi (.pointer (some ⟨x, 0, none⟩)), qi (.pointer (some ⟨x, 3, none⟩)), qv 2] ⟨qi_stable, qi_stable, qi_stable, qi_stable, qi_stable, qi_stable, qi_stable, qv_stable, qi_stable, qi_stable, qi_stable, qi_stable, qi_stable, qi_stable, qi_stable, qv_stable, qi_stable, qi_stable, qv_stable, trivial⟩ [7, 15, 18] ⟨?_, ?_, ?_, ?_, ?_, ?_, ?_, ?_, ?_, ?_, ?_, ?_, ?_, ?_, ?_, ?_, ?_, ?_, ?_, trivial⟩ ?_
  · exact stq (fun E => ex_move rfl (E.v oe0))
  · exact stq (fun E => ex_move rfl (E.v oe0))
  · exact stq (fun E => ex_nil rfl (E.d 1))
  · exact stq (fun E => ex_field rfl Try.underlying82 rfl (by kernel_rfl) (E.d 2))
  · refine stepq_env rfl rfl rfl fun _ _ _ _ _ _ hm0 _ _ hd hub _ => ?_
    have h3 := hd ⟨3, .data⟩ (by simp) rfl _ rfl
    refine qe_run rfl (wanted_none rfl) (ex_load1 rfl Try.underlying76 rfl h3 (Cs.lit1 ((Hx1.out.mod Cx6.out (fun h => h)).mod hm0 (by intro h2; have hu := hub 2 18 rfl (by kernel_rfl); rcases h2 with ⟨h0, kk, hk, h2⟩ | h2 <;> omega)) rfl)) QE.refl ?_
    rfl
  · exact stq (fun E => ex_move rfl (E.v oe1))
  · exact stq (fun E => ex_sliceTo (i := k) (s := 295) rfl Try.underlying76 (by kernel_rfl) (E.d 4) (E.d 5) (by omega))
  · exact stepq_chain rfl
  · exact stq (fun E => ex_move rfl (E.v oe0))
  · exact stq (fun E => ex_nil rfl (E.d 8))
  · exact stq (fun E => ex_field rfl Try.underlying82 rfl (by kernel_rfl) (E.d 9))
  · refine stepq_env rfl rfl rfl fun _ _ _ _ _ _ hm0 _ _ hd hub _ => ?_
    have h10 := hd ⟨10, .data⟩ (by simp) rfl _ rfl
    refine qe_run rfl (wanted_none rfl) (ex_load1 rfl Try.underlying76 rfl h10 (Cs.lit1 ((Hx1.out.mod Cx6.out (fun h => h)).mod hm0 (by intro h2; have hu := hub 2 18 rfl (by kernel_rfl); rcases h2 with ⟨h0, kk, hk, h2⟩ | h2 <;> omega)) rfl)) QE.refl ?_
    rfl
  · exact stq (fun E => ex_move rfl (E.v oe1))
  · exact stq (fun E => ex_binE rfl (E.d 12) rfl (guard_ints _ _ _ _ _ _) (run_add_i _ _ Try.underlying3) (congrArg (Value.int .i64) (i64_eq (b := ((k + 1 : Nat) : Int)) (by omega) (by omega) (by omega))))
  · exact stq (fun E => ex_slice1 (lo := k + 1) (s := 295) rfl Try.underlying76 (by kernel_rfl) (E.d 11) (E.d 13) (by omega) (by omega))
  · exact stepq_chain rfl
  · exact stq (fun E => ex_nil rfl (E.d 0))
  · exact stq (fun E => ex_field rfl Try.underlying82 rfl (by kernel_rfl) (E.d 16))
  · exact stepq_chain rfl
  intro u4_0 hr
  have zu4_0 := hr.size
  have Cx7 := hid (hr.new (S := (fun k => (k = x))))
  have Hx8 := hid ((Hx1.out.mod Cx6.out (fun h => h)).mod hr (by intro h2; omega))
  clear Hx1
  clear hr
  refine QChain.go fun Z act E => ?_
  refine qc_appT (A := MgR) (e := 67) (E2 := (fun k => (Eb k))) rfl (wanted_none rfl) rfl (.agg (mg0C 0 0 0).toArray) 960 Try.underlying76 info_Mg (by rfl) (of_decide_eq_true (by kernel_rfl)) rfl (E.d 6) (OwS.nil MgR _ (fun _ => False) (fun _ => False) _) ((((Hx2.out.mod Cx6.out (fun _ _ h => h) (fun _ _ h => h)).mod Cx7.out (by intro k h1 h2; first | omega | (have hb := HBQ.out k h1; omega) | exact HXQ.out (h2 ▸ h1) | exact HXQ.out (h1 ▸ h2) | exact HXE.out (h2 ▸ h1) | exact HXE.out (h1 ▸ h2) | exact HX2.out (h2 ▸ h1) | exact HX2.out (h1 ▸ h2)) (by intro k h1 h2; first | omega | (have hb := HBE.out k h1; omega) | exact HXQ.out (h2 ▸ h1) | exact HXQ.out (h1 ▸ h2) | exact HXE.out (h2 ▸ h1) | exact HXE.out (h1 ▸ h2) | exact HX2.out (h2 ▸ h1) | exact HX2.out (h1 ▸ h2))).rdT.upto k (by omega)).widen (fun k h => h.1)) (fun k _ h => by cases h) (by simp only [List.nil_append, List.length_take, List.length_drop, List.length_nil]; omega) (by rw [maxLen_val]; simp only [List.nil_append, List.length_take, List.length_drop, List.length_nil]; omega) ?_
  intro ao4 cap4 u4_1a qnl hm
  have zu4_1a := hm.size
  refine ⟨hm.mono (fun _ _ h => h.elim), (fun _ => rfl), ?_⟩
  intro u4_1 hr
  have zu4_1 := hr.size
  have Hx9 := hid ((qnl.widen (R' := (fun k => (New u4_0 u4_1a k))) (E' := (fun k => (Eb k))) (fun _ h => h.elim (fun h => h.elim) (fun h => h)) (by intro k h; (try simp only [false_or, or_self] at h); (try dsimp only at h ⊢); first | exact h | exact h.elim id id | (rcases h with h | h <;> first | exact h.elim | exact h))).mod hr (by intro k h1 h2; omega) (by intro k h1 h2; have hb := HBE.out k h1; omega))
  have hmr := Mod.after hm hr
  have Hx10 := hid (Hx8.out.mod hmr (by intro h2; omega))
  clear Hx8
  clear hmr
  have Cx11 := hid (Cx7.out.go hm hr)
  clear Cx7 hm hr Z act E qnl
  refine QChain.go fun Z act E => ?_
  refine qc_appT (A := MgR) (e := 67) (E2 := (fun k => (Eb k))) rfl (wanted_none rfl) rfl (.agg (mg0C 0 0 0).toArray) 960 Try.underlying76 info_Mg (by rfl) (of_decide_eq_true (by kernel_rfl)) (chv (v := .slice ao4 (([] : List Mg).length + (l.take k).length) cap4) (E.d 7)) (E.d 14) (Hx9.out) ((((Hx2.out.mod Cx6.out (fun _ _ h => h) (fun _ _ h => h)).mod Cx11.out (by intro k h1 h2; first | omega | (have hb := HBQ.out k h1; omega) | exact HXQ.out (h2 ▸ h1) | exact HXQ.out (h1 ▸ h2) | exact HXE.out (h2 ▸ h1) | exact HXE.out (h1 ▸ h2) | exact HX2.out (h2 ▸ h1) | exact HX2.out (h1 ▸ h2)) (by intro k h1 h2; first | omega | (have hb := HBE.out k h1; omega) | exact HXQ.out (h2 ▸ h1) | exact HXQ.out (h1 ▸ h2) | exact HXE.out (h2 ▸ h1) | exact HXE.out (h1 ▸ h2) | exact HX2.out (h2 ▸ h1) | exact HX2.out (h1 ▸ h2))).rdT.piece (k + 1) (by omega)).widen (fun k h => h.1)) (by intro k h1 h2; have h3 := (Hx9.out).blk _ h2; skip; have hb := HBE.out k h1; omega) (by simp only [List.nil_append, List.length_take, List.length_drop, List.length_nil]; omega) (by rw [maxLen_val]; simp only [List.nil_append, List.length_take, List.length_drop, List.length_nil]; omega) ?_
  intro ao6 cap6 u4_2a qnl hm
  have zu4_2a := hm.size
  refine ⟨hm.mono (by intro k hk h; omega), (fun _ => rfl), ?_⟩
  intro u4_2 hr
  have zu4_2 := hr.size
  have Hx12 := hid ((qnl.widen (R' := (fun k => (New u4_0 u4_1a k) ∨ (New u4_1 u4_2a k))) (E' := (fun k => (Eb k))) (fun _ h => h) (by intro k h; (try simp only [false_or, or_self] at h); (try dsimp only at h ⊢); first | exact h | exact h.elim id id | (rcases h with h | h <;> first | exact h.elim | exact h))).mod hr (by intro k h1 h2; omega) (by intro k h1 h2; have hb := HBE.out k h1; omega))
  have hmr := hm.two hr
  have Hx13 := hid (Hx10.out.mod hmr (by intro h2; omega))
  clear Hx10
  clear hmr
  have Cx14 := hid (Cx11.out.goM hm hr (by intro k h0 h2; omega))
  clear Cx11 hm hr Z act E qnl Hx9
  refine QChain.go fun Z act E => ?_
  refine qc_store rfl (wanted_none rfl) rfl Hx13.out (off := 3) (vs := [Value.slice ao6 ((([] : List Mg) ++ l.take k).length + (l.drop (k + 1)).length) cap6]) (by kernel_rfl) one1 (by simp) (E.d 17) (ec (chv (v := .slice ao6 ((([] : List Mg) ++ l.take k).length + (l.drop (k + 1)).length) cap6) (E.d 15))) ?_
  intro u4_3a qc0 hm
  have qnt := qc0.eqv (b := #[.int .i64 mo, .int .i64 sn, .int .i64 lo, Value.slice ao6 ((([] : List Mg) ++ l.take k).length + (l.drop (k + 1)).length) cap6]) rfl
  clear qc0
  have zu4_3a := hm.size
  refine ⟨hm.mono (by intro k hk h; omega), (fun _ => rfl), ?_⟩
  intro u4_3 hr
  have zu4_3 := hr.size
  have Hx15 := hid (qnt.mod hr (by intro h2; omega))
  have hmr := hm.two hr
  have Hx16 := hid (Hx12.out.mod hmr (by intro k h1 h2; omega) (by intro k h1 h2; rcases h2 with h2 | h2 <;> first | omega | (have hb := HBE.out k h1; omega) | exact HXQ.out (h2 ▸ h1) | exact HXQ.out (h1 ▸ h2) | exact HXE.out (h2 ▸ h1) | exact HXE.out (h1 ▸ h2) | exact HX2.out (h2 ▸ h1) | exact HX2.out (h1 ▸ h2)))
  clear Hx12
  clear hmr
  have Cx17 := hid (Cx14.out.goM hm hr (fun _ _ h => h))
  clear Cx14 hm hr Z act E qnt Hx13
  refine QChain.nil fun vs hl hzz hrows hne => ?_
  obtain ⟨Z, hYZ, hZb, hV⟩ := hzz
  have f0 := fvi hV hl 0
  have f1 := fvi hV hl 1
  have f5 := fvi hV hl 5
  have f7 := fvc hV hl 7
  have f8 := fvi hV hl 8
  have f12 := fvi hV hl 12
  have f15 := fvc hV hl 15
  rw [show vs = [gw vs 0, gw vs 1, gw vs 2, gw vs 3, gw vs 4, gw vs 5, gw vs 6, gw vs 7, gw vs 8, gw vs 9, gw vs 10, gw vs 11, gw vs 12, gw vs 13, gw vs 14, gw vs 15, gw vs 16, gw vs 17, gw vs 18] from (gw_eta hl).trans rfl]
  have ha0 := HA0.out
  subst ha0
  clear HA0 hV hYZ hZb hsz0 hrows hne oe0 oe1
  simp only [putAll, Act.put, sIB, sCZ, sCS, List.set_nil, f0, f1, f5, f7, f8, f12, f15]
  clear hl f0 f1 f5 f7 f8 f12 f15
  go_upto_region 5 with (fail)
  refine wp_region_U 45 [44, 46, 5] [0, 1, 2] (fun a0 HA0 => ?_)
  have oe4 := ev HA0 4 rfl
  have oe6 := ev HA0 6 rfl
  refine QSeq.pure rfl _ (fun E => ex_loadA rfl Try.underlying67 rfl (off := 0) (cs := cs) (by rw [HCL.out]; kernel_rfl) (E.v oe6) (Cs.whole (Hx5.out.mod Cx17.out (by intro h2; omega)))) ?_
  refine QSeq.go fun act E => ?_
  refine qc_store rfl (wanted_none rfl) rfl ((HB4.out.mod Cx6.out (fun h => h)).mod Cx17.out (by intro h2; omega)) (off := 0) (vs := cs) (by rw [HCL.out]; kernel_rfl) HOC.out (by rw [HCL.out]; decide) (E.v oe4) (ec (E.d 0 0)) ?_
  intro u5_1 qc0 hm
  have qB4 := qc0.eqv (b := (cs : List Value).toArray) (lay_whole _ _ (by rw [HCL.out]; kernel_rfl))
  clear qc0
  have Hx18 := hid qB4
  have zu5_1 := hm.size
  have Cx19 := hid (show Mod (fun k => (k = w.heap.size)) u4_3 u5_1 from hm)
  clear hm
  clear act E qB4 HB4
  refine QSeq.pure rfl (.bool true) (fun E => ex_assign rfl rfl) ?_
  refine QSeq.nil (t' := [_, _, _]) rfl ?_
  obtain rfl := HA0.out
  clear HA0 oe4 oe6
  simp only [pz, Act.put, sIB, sCZ, sCS, List.set_nil]
  have hq := (Hx16.out.mod Cx19.out (by intro k h1 h2; omega) (sB HBE))
  rw [show [] ++ l.take k ++ l.drop (k + 1) = l.eraseIdx k from by rw [List.nil_append, List.eraseIdx_eq_take_drop_succ]] at hq
  have HQN := Lib.hid hq
  clear hq
  go_wp2
  refine bodyPost_ret (results_cellA_tmp rfl _ _ (w.heap.size) cs rfl (fun ix u hu => by rw [Hx18.out.cell]; simpa using hu) Try.underlying67 rfl (by rw [HCL.out]; kernel_rfl)) rfl ?_
  exact ⟨cs, .slice ao6 ((([] : List Mg) ++ l.take k).length + (l.drop (k + 1)).length) cap6, rfl, ⟨(Hx15.out.mod Cx19.out (by intro h2; omega)), (fun k hk => by have hb := HBE.out k hk; omega), HXE.out, (fun hk => by have hk := HQN.out.blk _ hk; rcases hk with hk | hk <;> omega), HQN.out.own⟩, (fun k hk => by have hk := HQN.out.blk _ hk; rcases hk with hk | hk <;> (unfold New; omega)), HMM.out ▸ ((((HRD.out.mod Cx6.out (fun _ _ h => h)).mod Cx17.out (by intro k h1 h2; first | omega | (have hb := HB2.out k h1; omega) | exact HXQ.out (h2 ▸ h1) | exact HXQ.out (h1 ▸ h2) | exact HXE.out (h2 ▸ h1) | exact HXE.out (h1 ▸ h2) | exact HX2.out (h2 ▸ h1) | exact HX2.out (h1 ▸ h2))).mod Cx19.out (sB HB2)).widen (fun k h => HQE.out k h)), (((HM0.out.trans Cx6.out (fun _ _ h => h.elim)).trans Cx17.out (fun _ _ h => h)).trans Cx19.out (by intro k h1 h2; first | exact h2 | omega))⟩
set_option maxHeartbeats 4000000 in
theorem RTake_lo {Eb : Nat → Prop} {w : World} {x : Nat} {v : Value} {mo sn lo : Int} {l : List Mg} {k : Int} (h : RnV Eb w x v mo l sn lo) (hk : k < 0) : Calls Try.prog 29 #[.pointer (some ⟨x, 0, none⟩), .int .i64 k] w fun e w' => ∃ cn, e = .returned (.tuple #[.agg cn.toArray, .bool false]) ∧ MgR.rd (New w w') w' cn (mg0 0 0 0) ∧ Mod (fun _ => False) w w' := by
  obtain ⟨hc, hbE, hxE, hvx, ho0⟩ := h
  obtain ⟨Q1, hQ1, ho⟩ : ∃ Q : Nat → Prop, (∀ k, Q k ↔ v.ownBlock = some k) ∧ OwS MgR 67 Q Eb w v l := ⟨_, fun _ => Iff.rfl, ho0⟩
  have hbq : ∀ k, Q1 k → k < w.heap.size := fun k hk => ho0.lt ((hQ1 k).1 hk)
  have hxq : ¬ Q1 x := fun hk => hvx ((hQ1 x).1 hk)
  obtain ⟨ao, cap, rfl⟩ := ho.shape
  have hxl := hc.lt
  have hlm : l.length ≤ 9223372036854775807 := by rw [← maxLen_val]; exact ho.rd.bd
  have HNT := hid (show Cs w x #[.int .i64 mo, .int .i64 sn, .int .i64 lo, Value.slice ao l.length cap] 82 from hc)
  have HOL := Lib.hid ho
  have HQ1 := Lib.hid hQ1
  have HBQ := Lib.hid hbq
  have HBE := Lib.hid hbE
  have HXQ := Lib.hid hxq
  have HXE := Lib.hid hxE
  clear hc ho0 ho hQ1 hbE hxE hvx hbq hxq
  go_enter Try.func29, Try.ntmps29
  go_upto_region 1 with (fail)
  obtain ⟨w1, hw1⟩ : ∃ zz, zz = (w.alloc (.cells ((mg0C 0 0 0) : List Value).toArray 67)) := ⟨_, rfl⟩
  change Code.wp _ _ _ _ (w.alloc (.cells ((mg0C 0 0 0) : List Value).toArray 67))
  rw [← hw1]
  have HB4 := hid (show Cs w1 (w.heap.size) ((mg0C 0 0 0) : List Value).toArray 67 by rw [hw1]; exact Cs.new _ _ _)
  have hm : Mod (fun _ => False) w w1 := by rw [hw1]; exact (Mod.refl _ _).alloc _
  have HM0 := hid (show Mod (fun _ => False) w w1 from hm.mono (fun _ _ h => h.elim))
  have hs1 : w1.heap.size = w.heap.size + 1 := by rw [hw1]; simp
  have Hx1 := hid (HNT.out.mod hm (fun h => h))
  clear HNT
  have Hx2 := hid (HOL.out.mod hm (fun _ _ h => h) (fun _ _ h => h))
  clear HOL
  clear hw1 hm
  go_upto_region 1 with (fail)
  refine wp_region_U 45 [7, 8, 9, 10, 11, 12, 13, 14, 15, 16, 17] [0, 1, 2, 3, 4, 5, 6, 7, 8, 9, 10] (fun a0 HA0 => ?_)
  have oe1 := ev HA0 1 rfl
  refine QSeq.pure rfl _ (fun E => ex_move rfl (E.v oe1)) ?_
  refine QSeq.pure rfl (.bool true) (fun E => ex_binE rfl (E.d 0 0) rfl (guard_ints _ _ _ _ _ _) (run_lss_i _ _ _ Try.underlying3) (congrArg Value.bool (decide_eq_true (by omega)))) ?_
  refine QSeq.pure rfl _ (fun E => ex_move rfl (E.d 1 0)) ?_
  refine QSeq.skip rfl (fun E => ((wanted_of rfl rfl (E.sz 9 (by decide)) (E.d 2 0)).trans rfl)) ?_
  refine QSeq.skip rfl (fun E => ((wanted_of rfl rfl (E.sz 9 (by decide)) (E.d 2 1)).trans rfl)) ?_
  refine QSeq.skip rfl (fun E => ((wanted_of rfl rfl (E.sz 9 (by decide)) (E.d 2 2)).trans rfl)) ?_
  refine QSeq.skip rfl (fun E => ((wanted_of rfl rfl (E.sz 9 (by decide)) (E.d 2 3)).trans rfl)) ?_
  refine QSeq.skip rfl (fun E => ((wanted_of rfl rfl (E.sz 9 (by decide)) (E.d 2 4)).trans rfl)) ?_
  refine QSeq.skip rfl (fun E => ((wanted_of rfl rfl (E.sz 9 (by decide)) (E.d 2 5)).trans rfl)) ?_
  refine QSeq.skip rfl (fun E => ((wanted_of rfl rfl (E.sz 9 (by decide)) (E.d 2 6)).trans rfl)) ?_
  refine QSeq.pure rfl (.bool true) (fun E => ex_pick rfl (E.d 2 7) rfl (E.d 9 0)) ?_
  refine QSeq.nil (t' := [_, _, _, _, _, _, _, _, _, _, _]) rfl ?_
  obtain rfl := HA0.out
  clear HA0 oe1
  simp only [pz, Act.put, sIB, sCZ, sCS]
  go_upto_region 2 with (fail)
  refine wp_region_U 45 [18, 46, 5] [0, 1, 2] (fun a0 HA0 => ?_)
  have oe4 := ev HA0 4 rfl
  refine QSeq.pure rfl (.agg ((mg0C 0 0 0) : List Value).toArray) (fun E => ex_build0 rfl (r := ((mg0C 0 0 0) : List Value).toArray) (by kernel_rfl)) ?_
  refine QSeq.go fun act E => ?_
  refine qc_store rfl (wanted_none rfl) rfl HB4.out (off := 0) (vs := (mg0C 0 0 0)) (by kernel_rfl) (zMg_one w) (by rw [List.size_toArray]; omega) (E.v oe4) (ec (E.d 0 0)) ?_
  intro u2_1 qc0 hm
  have qB4 := qc0.eqv (b := ((mg0C 0 0 0) : List Value).toArray) (lay_whole _ _ (by kernel_rfl))
  clear qc0
  have Hx3 := hid qB4
  have zu2_1 := hm.size
  have Cx4 := hid (show Mod (fun k => (k = w.heap.size)) w1 u2_1 from hm)
  clear hm
  clear act E qB4 HB4
  refine QSeq.pure rfl (.bool false) (fun E => ex_assign rfl rfl) ?_
  refine QSeq.nil (t' := [_, _, _]) rfl ?_
  obtain rfl := HA0.out
  clear HA0 oe4
  simp only [pz, Act.put, sIB, sCZ, sCS, List.set_nil]
  go_wp2
  refine bodyPost_ret (results_cellA_tmp rfl _ _ (w.heap.size) (mg0C 0 0 0) rfl (fun ix u hu => by rw [Hx3.out.cell]; simpa using hu) Try.underlying67 rfl (by kernel_rfl)) rfl ?_
  exact ⟨_, rfl, mg0_rd I64_0 I64_0 I64_0 _ _, (HM0.out.trans Cx4.out (by intro k h1 h2; omega))⟩
set_option maxHeartbeats 4000000 in
theorem RTake_hi {Eb : Nat → Prop} {w : World} {x : Nat} {v : Value} {mo sn lo : Int} {l : List Mg} {k : Int} (h : RnV Eb w x v mo l sn lo) (hk : 0 ≤ k ∧ ((l.length : Nat) : Int) ≤ k) : Calls Try.prog 29 #[.pointer (some ⟨x, 0, none⟩), .int .i64 k] w fun e w' => ∃ cn, e = .returned (.tuple #[.agg cn.toArray, .bool false]) ∧ MgR.rd (New w w') w' cn (mg0 0 0 0) ∧ Mod (fun _ => False) w w' := by
  obtain ⟨hc, hbE, hxE, hvx, ho0⟩ := h
  obtain ⟨Q1, hQ1, ho⟩ : ∃ Q : Nat → Prop, (∀ k, Q k ↔ v.ownBlock = some k) ∧ OwS MgR 67 Q Eb w v l := ⟨_, fun _ => Iff.rfl, ho0⟩
  have hbq : ∀ k, Q1 k → k < w.heap.size := fun k hk => ho0.lt ((hQ1 k).1 hk)
  have hxq : ¬ Q1 x := fun hk => hvx ((hQ1 x).1 hk)
  obtain ⟨ao, cap, rfl⟩ := ho.shape
  have hxl := hc.lt
  have hlm : l.length ≤ 9223372036854775807 := by rw [← maxLen_val]; exact ho.rd.bd
  have HNT := hid (show Cs w x #[.int .i64 mo, .int .i64 sn, .int .i64 lo, Value.slice ao l.length cap] 82 from hc)
  have HOL := Lib.hid ho
  have HQ1 := Lib.hid hQ1
  have HBQ := Lib.hid hbq
  have HBE := Lib.hid hbE
  have HXQ := Lib.hid hxq
  have HXE := Lib.hid hxE
  clear hc ho0 ho hQ1 hbE hxE hvx hbq hxq
  go_enter Try.func29, Try.ntmps29
  go_upto_region 1 with (fail)
  obtain ⟨w1, hw1⟩ : ∃ zz, zz = (w.alloc (.cells ((mg0C 0 0 0) : List Value).toArray 67)) := ⟨_, rfl⟩
  change Code.wp _ _ _ _ (w.alloc (.cells ((mg0C 0 0 0) : List Value).toArray 67))
  rw [← hw1]
  have HB4 := hid (show Cs w1 (w.heap.size) ((mg0C 0 0 0) : List Value).toArray 67 by rw [hw1]; exact Cs.new _ _ _)
  have hm : Mod (fun _ => False) w w1 := by rw [hw1]; exact (Mod.refl _ _).alloc _
  have HM0 := hid (show Mod (fun _ => False) w w1 from hm.mono (fun _ _ h => h.elim))
  have hs1 : w1.heap.size = w.heap.size + 1 := by rw [hw1]; simp
  have Hx1 := hid (HNT.out.mod hm (fun h => h))
  clear HNT
  have Hx2 := hid (HOL.out.mod hm (fun _ _ h => h) (fun _ _ h => h))
  clear HOL
  clear hw1 hm
  go_upto_region 1 with (fail)
  refine wp_region_U 45 [7, 8, 9, 10, 11, 12, 13, 14, 15, 16, 17] [0, 1, 2, 3, 4, 5, 6, 7, 8, 9, 10] (fun a0 HA0 => ?_)
  have oe0 := ev HA0 0 rfl
  have oe1 := ev HA0 1 rfl
  refine QSeq.pure rfl _ (fun E => ex_move rfl (E.v oe1)) ?_
  refine QSeq.pure rfl (.bool false) (fun E => ex_binE rfl (E.d 0 0) rfl (guard_ints _ _ _ _ _ _) (run_lss_i _ _ _ Try.underlying3) (congrArg Value.bool (decide_eq_false (by omega)))) ?_
  refine QSeq.pure rfl _ (fun E => ex_move rfl (E.d 1 0)) ?_
  refine QSeq.pureG rfl (.int .i64 k) (fun E => ((wanted_of rfl rfl (E.sz 9 (by decide)) (E.d 2 0)).trans rfl)) (fun E => ex_move rfl (E.v oe1)) ?_
  refine QSeq.pureG rfl (.pointer (some ⟨x, 0, none⟩)) (fun E => ((wanted_of rfl rfl (E.sz 9 (by decide)) (E.d 2 1)).trans rfl)) (fun E => ex_move rfl (E.v oe0)) ?_
  refine QSeq.pureG rfl (.pointer (some ⟨x, 0, none⟩)) (fun E => ((wanted_of rfl rfl (E.sz 9 (by decide)) (E.d 2 2)).trans rfl)) (fun E => ex_nil rfl (E.d 4 0)) ?_
  refine QSeq.pureG rfl (.pointer (some ⟨x, 3, none⟩)) (fun E => ((wanted_of rfl rfl (E.sz 9 (by decide)) (E.d 2 3)).trans rfl)) (fun E => ex_field rfl Try.underlying82 rfl (by kernel_rfl) (E.d 5 0)) ?_
  refine QSeq.pureG rfl (.slice ao l.length cap) (fun E => ((wanted_of rfl rfl (E.sz 9 (by decide)) (E.d 2 4)).trans rfl)) (fun E => ex_load1 rfl Try.underlying76 rfl (E.d 6 0) (Cs.lit1 Hx1.out rfl)) ?_
  refine QSeq.pureG rfl (.int .i64 l.length) (fun E => ((wanted_of rfl rfl (E.sz 9 (by decide)) (E.d 2 5)).trans rfl)) (fun E => ex_lenS rfl (E.d 7 0) Try.underlying76) ?_
  refine QSeq.pureG rfl (.bool true) (fun E => ((wanted_of rfl rfl (E.sz 9 (by decide)) (E.d 2 6)).trans rfl)) (fun E => ex_binE rfl (E.d 3 5) (E.d 8 0) (guard_ints _ _ _ _ _ _) (run_geq_i _ _ _ Try.underlying3) (congrArg Value.bool (decide_eq_true (by omega)))) ?_
  refine QSeq.pure rfl (.bool true) (fun E => ex_pick rfl (E.d 2 7) rfl (E.d 9 0)) ?_
  refine QSeq.nil (t' := [_, _, _, _, _, _, _, _, _, _, _]) rfl ?_
  obtain rfl := HA0.out
  clear HA0 oe0 oe1
  simp only [pz, Act.put, sIB, sCZ, sCS]
  go_upto_region 2 with (fail)
  refine wp_region_U 45 [18, 46, 5] [0, 1, 2] (fun a0 HA0 => ?_)
  have oe4 := ev HA0 4 rfl
  refine QSeq.pure rfl (.agg ((mg0C 0 0 0) : List Value).toArray) (fun E => ex_build0 rfl (r := ((mg0C 0 0 0) : List Value).toArray) (by kernel_rfl)) ?_
  refine QSeq.go fun act E => ?_
  refine qc_store rfl (wanted_none rfl) rfl HB4.out (off := 0) (vs := (mg0C 0 0 0)) (by kernel_rfl) (zMg_one w) (by rw [List.size_toArray]; omega) (E.v oe4) (ec (E.d 0 0)) ?_
  intro u2_1 qc0 hm
  have qB4 := qc0.eqv (b := ((mg0C 0 0 0) : List Value).toArray) (lay_whole _ _ (by kernel_rfl))
  clear qc0
  have Hx3 := hid qB4
  have zu2_1 := hm.size
  have Cx4 := hid (show Mod (fun k => (k = w.heap.size)) w1 u2_1 from hm)
  clear hm
  clear act E qB4 HB4
  refine QSeq.pure rfl (.bool false) (fun E => ex_assign rfl rfl) ?_
  refine QSeq.nil (t' := [_, _, _]) rfl ?_
  obtain rfl := HA0.out
  clear HA0 oe4
  simp only [pz, Act.put, sIB, sCZ, sCS, List.set_nil]
  go_wp2
  refine bodyPost_ret (results_cellA_tmp rfl _ _ (w.heap.size) (mg0C 0 0 0) rfl (fun ix u hu => by rw [Hx3.out.cell]; simpa using hu) Try.underlying67 rfl (by kernel_rfl)) rfl ?_
  exact ⟨_, rfl, mg0_rd I64_0 I64_0 I64_0 _ _, (HM0.out.trans Cx4.out (by intro k h1 h2; omega))⟩
set_option maxHeartbeats 4000000 in
theorem RDouble_yes {Eb : Nat → Prop} {w : World} {x : Nat} {v : Value} {mo sn lo : Int} {l : List Mg} {k : Nat} (h : RnV Eb w x v mo l sn lo) (hk : k < l.length ∧ ((l.length : Nat) : Int) < mo) (hmo : mo ≤ 4096) : Calls Try.prog 30 #[.pointer (some ⟨x, 0, none⟩), .int .i64 ((k : Nat) : Int)] w fun e w' => ∃ v', e = .returned (.bool true) ∧ RnV (fun k => Eb k ∨ New w w' k) w' x v' mo (l ++ [l[k]'hk.1]) sn lo ∧
    (∀ k, v'.ownBlock = some k → v.ownBlock = some k ∨ New w w' k) ∧ Mod (fun k => k = x ∨ v.ownBlock = some k) w w' := by
  obtain ⟨hc, hbE, hxE, hvx, ho0⟩ := h
  obtain ⟨Q1, hQ1, ho⟩ : ∃ Q : Nat → Prop, (∀ k, Q k ↔ v.ownBlock = some k) ∧ OwS MgR 67 Q Eb w v l := ⟨_, fun _ => Iff.rfl, ho0⟩
  have hbq : ∀ k, Q1 k → k < w.heap.size := fun k hk => ho0.lt ((hQ1 k).1 hk)
  have hxq : ¬ Q1 x := fun hk => hvx ((hQ1 x).1 hk)
  obtain ⟨ao, cap, rfl⟩ := ho.shape
  have hxl := hc.lt
  have hlm : l.length ≤ 9223372036854775807 := by rw [← maxLen_val]; exact ho.rd.bd
  have HNT := hid (show Cs w x #[.int .i64 mo, .int .i64 sn, .int .i64 lo, Value.slice ao l.length cap] 82 from hc)
  have HOL := Lib.hid ho
  have HQ1 := Lib.hid hQ1
  have HBQ := Lib.hid hbq
  have HBE := Lib.hid hbE
  have HXQ := Lib.hid hxq
  have HXE := Lib.hid hxE
  clear hc ho0 ho hQ1 hbE hxE hvx hbq hxq
  go_enter Try.func30, Try.ntmps30
  go_upto_region 1 with (fail)
  have HM0 := hid (Mod.refl (fun k => (k = x) ∨ (Q1 k)) w)
  go_upto_region 1 with (fail)
  generalize ha0 : Act.mk _ _ = a0
  have oe0 : a0.eval (.tmp 0) = .pointer (some ⟨x, 0, none⟩) := by rw [← ha0]; rfl
  have oe1 : a0.eval (.tmp 1) = .int .i64 ((k : Nat) : Int) := by rw [← ha0]; rfl
  have hsz0 : a0.tmps.size = 44 := by rw [← ha0]; rfl
  have HA0 := hid ha0
  clear ha0
  refine wp_region_Q0 44 hsz0 [5, 6, 7, 8, 9, 10, 11, 12, 13, 14, 15, 16, 17, 18, 19, 20, 21, 22, 23, 24, 25, 26, 27] [qi (.int .i64 ((k : Nat) : Int)), qi (.bool false), qi (.bool false), qi (.int .i64 ((k : Nat) : Int)), qi (.pointer (some ⟨x, 0, none⟩)), qi (.pointer (some ⟨x, 0, none⟩)), qi (.pointer (some ⟨x, 3, none⟩)), qi (.slice ao l.length cap), qi (.int .i64 l.length), qi (.bool false), qi (.bool false), qi (.bool false), qi (.pointer (some ⟨x, 0, none⟩)), qi (.pointer (some ⟨x, 0, none⟩)), qi (.pointer (some ⟨x, 3, none⟩)), qi (.slice ao l.length cap), qi (.int .i64 l.length), qi (.pointer (some ⟨x, 0, none⟩)), qi (.pointer (some ⟨x, 0, none⟩)), qi (.pointer (some ⟨x, 0, none⟩)), qi (.int .i64 mo), qi (.bool false), qi (.bool false)] ⟨qi_stable, qi_stable, qi_stable, qi_stable, qi_stable, qi_stable, qi_stable, qi_stable, qi_stable, qi_stable, qi_stable, qi_stable, qi_stable, qi_stable, qi_stable, qi_stable, qi_stable, qi_stable, qi_stable, qi_stable, qi_stable, qi_stable, qi_stable, trivial⟩ [] ⟨?_, ?_, ?_, ?_, ?_, ?_, ?_, ?_, ?_, ?_, ?_, ?_, ?_, ?_, ?_, ?_, ?_, ?_, ?_, ?_, ?_, ?_, ?_, trivial⟩ ?_
  · exact stq (fun E => ex_move rfl (E.v oe1))
  · exact stq (fun E => ex_binE rfl (E.d 0) rfl (guard_ints _ _ _ _ _ _) (run_lss_i _ _ _ Try.underlying3) (congrArg Value.bool (decide_eq_false (by omega))))
  · exact stq (fun E => ex_move rfl (E.d 1))
  · refine stepq_env rfl rfl rfl fun _ _ _ _ _ _ _ hout hsz hd _ _ => ?_
    have h2 := hd ⟨2, .guard⟩ (by simp) rfl _ rfl
    refine qe_run rfl ((wanted_of rfl rfl (hsz 7 (by decide)) h2).trans rfl) (ex_move rfl ((hout 1 (by decide)).trans oe1)) QE.refl ?_
    rfl
  · refine stepq_env rfl rfl rfl fun _ _ _ _ _ _ _ hout hsz hd _ _ => ?_
    have h2 := hd ⟨2, .guard⟩ (by simp) rfl _ rfl
    refine qe_run rfl ((wanted_of rfl rfl (hsz 7 (by decide)) h2).trans rfl) (ex_move rfl ((hout 0 (by decide)).trans oe0)) QE.refl ?_
    rfl
  · refine stepq_env rfl rfl rfl fun _ _ _ _ _ _ _ _ hsz hd _ _ => ?_
    have h2 := hd ⟨2, .guard⟩ (by simp) rfl _ rfl
    have h4 := hd ⟨4, .data⟩ (by simp) rfl _ rfl
    refine qe_run rfl ((wanted_of rfl rfl (hsz 7 (by decide)) h2).trans rfl) (ex_nil rfl h4) QE.refl ?_
    rfl
  · refine stepq_env rfl rfl rfl fun _ _ _ _ _ _ _ _ hsz hd _ _ => ?_
    have h2 := hd ⟨2, .guard⟩ (by simp) rfl _ rfl
    have h5 := hd ⟨5, .data⟩ (by simp) rfl _ rfl
    refine qe_run rfl ((wanted_of rfl rfl (hsz 7 (by decide)) h2).trans rfl) (ex_field rfl Try.underlying82 rfl (by kernel_rfl) h5) QE.refl ?_
    rfl
  · refine stepq_env rfl rfl rfl fun _ _ _ _ _ hm _ _ hsz hd _ _ => ?_
    have h2 := hd ⟨2, .guard⟩ (by simp) rfl _ rfl
    have h6 := hd ⟨6, .data⟩ (by simp) rfl _ rfl
    refine qe_run rfl ((wanted_of rfl rfl (hsz 7 (by decide)) h2).trans rfl) (ex_load1 rfl Try.underlying76 rfl h6 (Cs.lit1 (HNT.out.mod hm.old (by intro h2; omega)) rfl)) QE.refl ?_
    rfl
  · refine stepq_env rfl rfl rfl fun _ _ _ _ _ _ _ _ hsz hd _ _ => ?_
    have h2 := hd ⟨2, .guard⟩ (by simp) rfl _ rfl
    have h7 := hd ⟨7, .data⟩ (by simp) rfl _ rfl
    refine qe_run rfl ((wanted_of rfl rfl (hsz 7 (by decide)) h2).trans rfl) (ex_lenS rfl h7 Try.underlying76) QE.refl ?_
    rfl
  · refine stepq_env rfl rfl rfl fun _ _ _ _ _ _ _ _ hsz hd _ _ => ?_
    have h2 := hd ⟨2, .guard⟩ (by simp) rfl _ rfl
    have h3 := hd ⟨3, .data⟩ (by simp) rfl _ rfl
    have h8 := hd ⟨8, .data⟩ (by simp) rfl _ rfl
    refine qe_run rfl ((wanted_of rfl rfl (hsz 7 (by decide)) h2).trans rfl) (ex_binE rfl h3 h8 (guard_ints _ _ _ _ _ _) (run_geq_i _ _ _ Try.underlying3) (congrArg Value.bool (decide_eq_false (by omega)))) QE.refl ?_
    rfl
  · exact stq (fun E => ex_pick rfl (E.d 2) rfl (E.d 9))
  · exact stq (fun E => ex_move rfl (E.d 10))
  · refine stepq_env rfl rfl rfl fun _ _ _ _ _ _ _ hout hsz hd _ _ => ?_
    have h11 := hd ⟨11, .guard⟩ (by simp) rfl _ rfl
    refine qe_run rfl ((wanted_of rfl rfl (hsz 16 (by decide)) h11).trans rfl) (ex_move rfl ((hout 0 (by decide)).trans oe0)) QE.refl ?_
    rfl
  · refine stepq_env rfl rfl rfl fun _ _ _ _ _ _ _ _ hsz hd _ _ => ?_
    have h11 := hd ⟨11, .guard⟩ (by simp) rfl _ rfl
    have h12 := hd ⟨12, .data⟩ (by simp) rfl _ rfl
    refine qe_run rfl ((wanted_of rfl rfl (hsz 16 (by decide)) h11).trans rfl) (ex_nil rfl h12) QE.refl ?_
    rfl
  · refine stepq_env rfl rfl rfl fun _ _ _ _ _ _ _ _ hsz hd _ _ => ?_
    have h11 := hd ⟨11, .guard⟩ (by simp) rfl _ rfl
    have h13 := hd ⟨13, .data⟩ (by simp) rfl _ rfl
    refine qe_run rfl ((wanted_of rfl rfl (hsz 16 (by decide)) h11).trans rfl) (ex_field rfl Try.underlying82 rfl (by kernel_rfl) h13) QE.refl ?_
    rfl
  · refine stepq_env rfl rfl rfl fun _ _ _ _ _ hm _ _ hsz hd _ _ => ?_
    have h11 := hd ⟨11, .guard⟩ (by simp) rfl _ rfl
    have h14 := hd ⟨14, .data⟩ (by simp) rfl _ rfl
    refine qe_run rfl ((wanted_of rfl rfl (hsz 16 (by decide)) h11).trans rfl) (ex_load1 rfl Try.underlying76 rfl h14 (Cs.lit1 (HNT.out.mod hm.old (by intro h2; omega)) rfl)) QE.refl ?_
    rfl
  · refine stepq_env rfl rfl rfl fun _ _ _ _ _ _ _ _ hsz hd _ _ => ?_
    have h11 := hd ⟨11, .guard⟩ (by simp) rfl _ rfl
    have h15 := hd ⟨15, .data⟩ (by simp) rfl _ rfl
    refine qe_run rfl ((wanted_of rfl rfl (hsz 16 (by decide)) h11).trans rfl) (ex_lenS rfl h15 Try.underlying76) QE.refl ?_
    rfl
  · refine stepq_env rfl rfl rfl fun _ _ _ _ _ _ _ hout hsz hd _ _ => ?_
    have h11 := hd ⟨11, .guard⟩ (by simp) rfl _ rfl
    refine qe_run rfl ((wanted_of rfl rfl (hsz 16 (by decide)) h11).trans rfl) (ex_move rfl ((hout 0 (by decide)).trans oe0)) QE.refl ?_
    rfl
  · refine stepq_env rfl rfl rfl fun _ _ _ _ _ _ _ _ hsz hd _ _ => ?_
    have h11 := hd ⟨11, .guard⟩ (by simp) rfl _ rfl
    have h17 := hd ⟨17, .data⟩ (by simp) rfl _ rfl
    refine qe_run rfl ((wanted_of rfl rfl (hsz 16 (by decide)) h11).trans rfl) (ex_nil rfl h17) QE.refl ?_
    rfl
  · refine stepq_env rfl rfl rfl fun _ _ _ _ _ _ _ _ hsz hd _ _ => ?_
    have h11 := hd ⟨11, .guard⟩ (by simp) rfl _ rfl
    have h18 := hd ⟨18, .data⟩ (by simp) rfl _ rfl
    refine qe_run rfl ((wanted_of rfl rfl (hsz 16 (by decide)) h11).trans rfl) (ex_field rfl Try.underlying82 rfl (by kernel_rfl) h18) QE.refl ?_
    rfl
  · refine stepq_env rfl rfl rfl fun _ _ _ _ _ hm _ _ hsz hd _ _ => ?_
    have h11 := hd ⟨11, .guard⟩ (by simp) rfl _ rfl
    have h19 := hd ⟨19, .data⟩ (by simp) rfl _ rfl
    refine qe_run rfl ((wanted_of rfl rfl (hsz 16 (by decide)) h11).trans rfl) (ex_load1 rfl Try.underlying3 rfl h19 (Cs.lit1 (HNT.out.mod hm.old (by intro h2; omega)) rfl)) QE.refl ?_
    rfl
  · refine stepq_env rfl rfl rfl fun _ _ _ _ _ _ _ _ hsz hd _ _ => ?_
    have h11 := hd ⟨11, .guard⟩ (by simp) rfl _ rfl
    have h16 := hd ⟨16, .data⟩ (by simp) rfl _ rfl
    have h20 := hd ⟨20, .data⟩ (by simp) rfl _ rfl
    refine qe_run rfl ((wanted_of rfl rfl (hsz 16 (by decide)) h11).trans rfl) (ex_binE rfl h16 h20 (guard_ints _ _ _ _ _ _) (run_geq_i _ _ _ Try.underlying3) (congrArg Value.bool (decide_eq_false (by omega)))) QE.refl ?_
    rfl
  · exact stq (fun E => ex_pick rfl (E.d 11) rfl (E.d 21))
  intro u1_0 hr
  have zu1_0 := hr.size
  have Cx1 := hid (hr.new (S := (fun _ => False)))
  clear hr
  refine QChain.nil fun vs hl hzz hrows hne => ?_
  obtain ⟨Z, hYZ, hZb, hV⟩ := hzz
  have f0 := fvi hV hl 0
  have f2 := fvi hV hl 2
  have f3 := fvi hV hl 3
  have f4 := fvi hV hl 4
  have f8 := fvi hV hl 8
  have f11 := fvi hV hl 11
  have f12 := fvi hV hl 12
  have f16 := fvi hV hl 16
  have f17 := fvi hV hl 17
  have f22 := fvi hV hl 22
  rw [show vs = [gw vs 0, gw vs 1, gw vs 2, gw vs 3, gw vs 4, gw vs 5, gw vs 6, gw vs 7, gw vs 8, gw vs 9, gw vs 10, gw vs 11, gw vs 12, gw vs 13, gw vs 14, gw vs 15, gw vs 16, gw vs 17, gw vs 18, gw vs 19, gw vs 20, gw vs 21, gw vs 22] from (gw_eta hl).trans rfl]
  have ha0 := HA0.out
  subst ha0
  clear HA0 hV hYZ hZb hsz0 hrows hne oe0 oe1
  simp only [putAll, Act.put, sIB, sCZ, sCS, f0, f2, f3, f4, f8, f11, f12, f16, f17, f22]
  clear hl f0 f2 f3 f4 f8 f11 f12 f16 f17 f22
  obtain ⟨g0, cs, eao, hrg, hrd, hcs⟩ := (HOL.out.mod Cx1.out (fun _ _ h => h) (fun _ _ h => h)).at3 hk.1
  subst eao
  generalize hmm : l[k] = m at hrd
  have HMM := Lib.hid hmm
  have HCL := hid (show cs.length = 295 from MgR.len hrd)
  have HOC := hid (MgR.one hrd)
  have HAT := hid (show CellsAt Q1 u1_0 g0 (0 + k * 295) cs from ⟨hrg, hcs⟩)
  obtain ⟨Q2, hQ2⟩ : ∃ Q : Nat → Prop, Q = fun b => Eb b ∧ b ≠ g0 := ⟨_, rfl⟩
  rw [← hQ2] at hrd
  have HB2 := hid (show ∀ b, Q2 b → b < w.heap.size from fun b hb => by rw [hQ2] at hb; exact HBE.out b hb.1)
  have HQ2 := hid (show ∀ b, Q1 b → Q2 b → False from fun b h1 hb => by rw [hQ2] at hb; have h3 := (HQ1.out b).1 h1; cases h3; exact hb.2 rfl)
  have HQE := hid (show ∀ b, Q2 b → Eb b from fun b hb => by rw [hQ2] at hb; exact hb.1)
  have HX2 := hid (show ¬ Q2 x from fun hb => by rw [hQ2] at hb; exact HXE.out hb.1)
  have HRD := hid (show MgR.rd Q2 u1_0 cs m from hrd)
  clear hrg hrd hcs hmm hQ2
  go_upto_region 3 with (fail)
  generalize ha0 : Act.mk _ _ = a0
  have oe0 : a0.eval (.tmp 0) = .pointer (some ⟨x, 0, none⟩) := by rw [← ha0]; rfl
  have oe1 : a0.eval (.tmp 1) = .int .i64 ((k : Nat) : Int) := by rw [← ha0]; rfl
  have hsz0 : a0.tmps.size = 44 := by rw [← ha0]; rfl
  have HA0 := hid ha0
  clear ha0
  refine wp_region_Q1 44 hsz0 [28, 29, 30, 31, 32, 33, 34, 35, 36, 37, 38, 39, 40, 41, 42, 43, 60] (fun k => (Q1 k) ∨ (k = x)) (fun k j => (k = 1 ∧ ((Q1 j))) ∨ (k = 2 ∧ ((j = x)))) (by intro k j h; (try dsimp only at h ⊢); rcases h with ⟨-, h⟩ | ⟨-, h⟩; (exact Or.inl (h)); (exact Or.inr (h))) [qi (.pointer (some ⟨x, 0, none⟩)), qi (.pointer (some ⟨x, 0, none⟩)), qi (.pointer (some ⟨x, 0, none⟩)), qi (.pointer (some ⟨x, 3, none⟩)), qi (.slice (some ⟨g0, 0, none⟩) l.length cap), qi (.pointer (some ⟨x, 0, none⟩)), qi (.pointer (some ⟨x, 0, none⟩)), qi (.pointer (some ⟨x, 3, none⟩)), qi (.slice (some ⟨g0, 0, none⟩) l.length cap), qi (.int .i64 ((k : Nat) : Int)), qi (.pointer (some ⟨g0, 0 + k * 295, none⟩)), qi (.agg cs.toArray), qv 0, qv 1, qi (.pointer (some ⟨x, 0, none⟩)), qi (.pointer (some ⟨x, 3, none⟩)), qv 2] ⟨qi_stable, qi_stable, qi_stable, qi_stable, qi_stable, qi_stable, qi_stable, qi_stable, qi_stable, qi_stable, qi_stable, qi_stable, qv_stable, qv_stable, qi_stable, qi_stable, qv_stable, trivial⟩ [12, 13, 16] ⟨?_, ?_, ?_, ?_, ?_, ?_, ?_, ?_, ?_, ?_, ?_, ?_, ?_, ?_, ?_, ?_, ?_, trivial⟩ ?_
  · exact stq (fun E => ex_move rfl (E.v oe0))
  · exact stq (fun E => ex_move rfl (E.v oe0))
  · exact stq (fun E => ex_nil rfl (E.d 1))
  · exact stq (fun E => ex_field rfl Try.underlying82 rfl (by kernel_rfl) (E.d 2))
  · refine stepq_env rfl rfl rfl fun _ _ _ _ _ _ hm0 _ _ hd hub _ => ?_
    have h3 := hd ⟨3, .data⟩ (by simp) rfl _ rfl
    refine qe_run rfl (wanted_none rfl) (ex_load1 rfl Try.underlying76 rfl h3 (Cs.lit1 ((HNT.out.mod Cx1.out (fun h => h)).mod hm0 (by intro h2; have hu := hub 2 16 rfl (by kernel_rfl); rcases h2 with ⟨h0, kk, hk, h2⟩ | h2 <;> first | omega | (rcases h2 with ⟨hkk, h2⟩ | ⟨hkk, h2⟩ <;> first | omega | (have hb := HBQ.out _ h2; omega) | exact HXQ.out h2 | exact HXE.out h2 | exact HX2.out h2))) rfl)) QE.refl ?_
    rfl
  · exact stq (fun E => ex_move rfl (E.v oe0))
  · exact stq (fun E => ex_nil rfl (E.d 5))
  · exact stq (fun E => ex_field rfl Try.underlying82 rfl (by kernel_rfl) (E.d 6))
  · refine stepq_env rfl rfl rfl fun _ _ _ _ _ _ hm0 _ _ hd hub _ => ?_
    have h7 := hd ⟨7, .data⟩ (by simp) rfl _ rfl
    refine qe_run rfl (wanted_none rfl) (ex_load1 rfl Try.underlying76 rfl h7 (Cs.lit1 ((HNT.out.mod Cx1.out (fun h => h)).mod hm0 (by intro h2; have hu := hub 2 16 rfl (by kernel_rfl); rcases h2 with ⟨h0, kk, hk, h2⟩ | h2 <;> first | omega | (rcases h2 with ⟨hkk, h2⟩ | ⟨hkk, h2⟩ <;> first | omega | (have hb := HBQ.out _ h2; omega) | exact HXQ.out h2 | exact HXE.out h2 | exact HX2.out h2))) rfl)) QE.refl ?_
    rfl
  · exact stq (fun E => ex_move rfl (E.v oe1))
  · exact stq (fun E => ex_idxS (i := k) (s := 295) rfl Try.underlying76 (by kernel_rfl) (E.d 8) (E.d 9) (by omega))
  · refine stepq_env rfl rfl rfl fun _ _ _ _ _ _ hm0 _ _ hd hub _ => ?_
    have h10 := hd ⟨10, .data⟩ (by simp) rfl _ rfl
    refine qe_run rfl (wanted_none rfl) (ex_loadA rfl Try.underlying67 rfl (off := 0 + k * 295) (cs := cs) (by rw [HCL.out]; kernel_rfl) h10 (fun j u hu => ((HAT.out.mod hm0 (by intro k h1 h2; have hu := hub 1 13 rfl (by kernel_rfl); rcases h2 with ⟨h0, kk, hk, h2⟩ | h2 <;> first | omega | (first | omega | (have hb := HBQ.out k h1; omega) | (have hb := HBE.out k h1; omega) | (have hb := HB2.out k h1; omega) | (have hb := HBQ.out k h2; omega) | (have hb := HBE.out k h2; omega) | (have hb := HB2.out k h2; omega) | exact HQ2.out k h1 h2 | exact HQ2.out k h2 h1 | (have hb := HBQ.out k h1; have hb2 := HBE.out k h2; omega) | (have hb := HBQ.out k h1; have hb2 := HB2.out k h2; omega) | (have hb := HBE.out k h1; have hb2 := HBQ.out k h2; omega) | (have hb := HBE.out k h1; have hb2 := HB2.out k h2; omega) | (have hb := HB2.out k h1; have hb2 := HBQ.out k h2; omega) | (have hb := HB2.out k h1; have hb2 := HBE.out k h2; omega) | exact HXQ.out (h2 ▸ h1) | exact HXQ.out (h1 ▸ h2) | exact HXE.out (h2 ▸ h1) | exact HXE.out (h1 ▸ h2) | exact HX2.out (h2 ▸ h1) | exact HX2.out (h1 ▸ h2))))).2 j u hu)) QE.refl ?_
    rfl
  · exact stepq_chain rfl
  · exact stepq_chain rfl
  · exact stq (fun E => ex_nil rfl (E.d 0))
  · exact stq (fun E => ex_field rfl Try.underlying82 rfl (by kernel_rfl) (E.d 14))
  · exact stepq_chain rfl
  intro u3_0 hr
  have zu3_0 := hr.size
  clear HAT
  have Cx2 := hid (hr.new (S := (fun k => (Q1 k) ∨ (k = x))))
  have Hx3 := hid ((HNT.out.mod Cx1.out (fun h => h)).mod hr (by intro h2; omega))
  clear HNT
  have Hx4 := hid ((HOL.out.mod Cx1.out (fun _ _ h => h) (fun _ _ h => h)).mod hr (by intro k h1 h2; have hb := HBQ.out k h1; omega) (by intro k h1 h2; have hb := HBE.out k h1; omega))
  clear HOL
  clear hr
  refine QChain.go fun Z act E => ?_
  refine qc_buildS (e := 67) (cs := cs) (zc := [.int .i64 0, .int .i64 0, .int .i64 0, .int .i64 0, .int .i64 0, .int .u8 0, .int .u8 0, .int .u8 0, .int .u8 0, .int .u8 0, .int .u8 0, .int .u8 0, .int .u8 0, .int .u8 0, .int .u8 0, .int .u8 0, .int .u8 0, .int .u8 0, .int .u8 0, .int .u8 0, .int .u8 0, .int .u8 0, .int .u8 0, .int .u8 0, .int .u8 0, .int .u8 0, .int .u8 0, .int .u8 0, .int .u8 0, .int .u8 0, .int .u8 0, .int .u8 0, .int .u8 0, .int .u8 0, .int .u8 0, .int .u8 0, .int .u8 0, .int .i64 0, .int .i64 0, .int .i64 0, .int .i64 0, .int .i64 0, .int .i64 0, .int .u8 0, .int .u8 0, .int .u8 0, .int .u8 0, .int .u8 0, .int .u8 0, .int .u8 0, .int .u8 0, .int .u8 0, .int .u8 0, .int .u8 0, .int .u8 0, .int .u8 0, .int .u8 0, .int .u8 0, .int .u8 0, .int .u8 0, .int .u8 0, .int .u8 0, .int .u8 0, .int .u8 0, .int .u8 0, .int .u8 0, .int .u8 0, .int .u8 0, .int .u8 0, .int .u8 0, .int .u8 0, .int .u8 0, .int .u8 0, .int .u8 0, .int .u8 0, .int .u64 0, .int .i64 0, .int .i64 0, .int .i64 0, .int .i64 0, .int .u8 0, .int .u8 0, .int .u8 0, .int .u8 0, .int .u8 0, .int .u8 0, .int .u8 0, .int .u8 0, .int .u8 0, .int .u8 0, .int .u8 0, .int .u8 0, .int .u8 0, .int .u8 0, .int .u8 0, .int .u8 0, .int .u8 0, .int .u8 0, .int .u8 0, .int .u8 0, .int .u8 0, .int .u8 0, .int .u8 0, .int .u8 0, .int .u8 0, .int .u8 0, .int .u8 0, .int .u8 0, .int .u8 0, .int .u8 0, .int .u8 0, .int .u8 0, .int .i64 0, .int .i64 0, .int .i64 0, .slice none 0 0, .int .i64 0, .int .i64 0, .int .i64 0, .int .u8 0, .int .u8 0, .int .u8 0, .int .u8 0, .int .u8 0, .int .u8 0, .int .u8 0, .int .u8 0, .int .u8 0, .int .u8 0, .int .u8 0, .int .u8 0, .int .u8 0, .int .u8 0, .int .u8 0, .int .u8 0, .int .u8 0, .int .u8 0, .int .u8 0, .int .u8 0, .int .u8 0, .int .u8 0, .int .u8 0, .int .u8 0, .int .u8 0, .int .u8 0, .int .u8 0, .int .u8 0, .int .u8 0, .int .u8 0, .int .u8 0, .int .u8 0, .int .u64 0, .int .i64 0, .int .i64 0, .int .i64 0, .int .i64 0, .int .u64 0, .int .i64 0, .int .i64 0, .int .u64 0, .slice none 0 0, .int .i64 0, .int .i64 0, .int .i64 0, .int .i64 0, .int .i64 0, .int .i64 0, .int .i64 0, .int .u64 0, .slice none 0 0, .slice none 0 0, .slice none 0 0, .int .i64 0, .int .i64 0, .int .i64 0, .int .i64 0, .int .i64 0, .int .i64 0, .int .u8 0, .int .u8 0, .int .u8 0, .int .u8 0, .int .u8 0, .int .u8 0, .int .u8 0, .int .u8 0, .int .u8 0, .int .u8 0, .int .u8 0, .int .u8 0, .int .u8 0, .int .u8 0, .int .u8 0, .int .u8 0, .int .u8 0, .int .u8 0, .int .u8 0, .int .u8 0, .int .u8 0, .int .u8 0, .int .u8 0, .int .u8 0, .int .u8 0, .int .u8 0, .int .u8 0, .int .u8 0, .int .u8 0, .int .u8 0, .int .u8 0, .int .u8 0, .int .i64 0, .int .i64 0, .int .i64 0, .int .i64 0, .int .i64 0, .int .u8 0, .int .u8 0, .int .u8 0, .int .u8 0, .int .u8 0, .int .u8 0, .int .u8 0, .int .u8 0, .int .u8 0, .int .u8 0, .int .u8 0, .int .u8 0, .int .u8 0, .int .u8 0, .int .u8 0, .int .u8 0, .int .u8 0, .int .u8 0, .int .u8 0, .int .u8 0, .int .u8 0, .int .u8 0, .int .u8 0, .int .u8 0, .int .u8 0, .int .u8 0, .int .u8 0, .int .u8 0, .int .u8 0, .int .u8 0, .int .u8 0, .int .u8 0, .int .u64 0, .int .i64 0, .slice none 0 0, .int .u8 0, .int .u8 0, .int .u8 0, .int .u8 0, .int .u8 0, .int .u8 0, .int .u8 0, .int .u8 0, .int .u8 0, .int .u8 0, .int .u8 0, .int .u8 0, .int .u8 0, .int .u8 0, .int .u8 0, .int .u8 0, .int .u8 0, .int .u8 0, .int .u8 0, .int .u8 0, .int .u8 0, .int .u8 0, .int .u8 0, .int .u8 0, .int .u8 0, .int .u8 0, .int .u8 0, .int .u8 0, .int .u8 0, .int .u8 0, .int .u8 0, .int .u8 0, .int .i64 0, .int .i64 0, .int .i64 0, .int .i64 0, .string ByteArray.empty, .int .i64 0, .int .i64 0, .int .i64 0, .int .u64 0, .slice none 0 0, .slice none 0 0, .slice none 0 0, .slice none 0 0]) (sz := 295) rfl (wanted_none rfl) rfl Try.underlying76 (by kernel_rfl) rfl (by decide) (by decide) (E.d 11) HCL.out ?_
  intro u3_1a qrow hm
  have zl3_12 := qrow.lt
  have zu3_1a := hm.size
  refine ⟨hm.mono (fun _ _ h => h.elim), (fun _ => rfl), ?_⟩
  intro u3_1 hr
  have zu3_1 := hr.size
  have Hx5 := hid (qrow.mod hr (by intro h2; omega))
  have hmr := Mod.after hm hr
  have Hx6 := hid (Hx3.out.mod hmr (by intro h2; omega))
  have Hx7 := hid (Hx4.out.mod hmr (by intro k h1 h2; have hb := HBQ.out k h1; omega) (by intro k h1 h2; have hb := HBE.out k h1; omega))
  clear Hx3 Hx4
  clear hmr
  have Cx8 := hid (Cx2.out.go hm hr)
  clear Cx2 hm hr Z act E qrow
  refine QChain.go fun Z act E => ?_
  refine qc_appS (A := MgR) (e := 67) rfl (wanted_none rfl) rfl (.agg (mg0C 0 0 0).toArray) 960 Try.underlying76 info_Mg (by rfl) (of_decide_eq_true (by kernel_rfl)) (E.d 4) (chv (v := .slice (some ⟨u3_0.heap.size, 0, none⟩) 1 1) (E.d 12)) (Hx7.out) (RdS.single (R := (fun k => (Q2 k) ∨ (k = u3_0.heap.size))) Hx5.out ((HRD.out.mod Cx8.out (by intro k h1 h2; rcases h2 with h2 | h2 <;> first | omega | (have hb := HB2.out k h1; omega) | (have hb := HBQ.out k h2; omega) | exact HQ2.out k h1 h2 | exact HQ2.out k h2 h1 | (have hb := HB2.out k h1; have hb2 := HBQ.out k h2; omega) | exact HXQ.out (h2 ▸ h1) | exact HXQ.out (h1 ▸ h2) | exact HXE.out (h2 ▸ h1) | exact HXE.out (h1 ▸ h2) | exact HX2.out (h2 ▸ h1) | exact HX2.out (h1 ▸ h2))).widen (fun k h => Or.inl h)) (by right; rfl)) (by intro k h1 h2; rcases h1 with h1 | h1 <;> first | omega | (have hb := HB2.out k h1; omega) | (have hb := HBQ.out k h2; omega) | exact HQ2.out k h1 h2 | exact HQ2.out k h2 h1 | (have hb := HB2.out k h1; have hb2 := HBQ.out k h2; omega) | exact HXQ.out (h2 ▸ h1) | exact HXQ.out (h1 ▸ h2) | exact HXE.out (h2 ▸ h1) | exact HXE.out (h1 ▸ h2) | exact HX2.out (h2 ▸ h1) | exact HX2.out (h1 ▸ h2)) (by simp only [List.length_cons, List.length_nil]; omega) (by rw [maxLen_val]; simp only [List.length_cons, List.length_nil]; omega) ?_
  intro ao4 cap4 u3_2a ql hm
  have zu3_2a := hm.size
  refine ⟨hm.mono (by intro k hk h; first | omega | exact Or.inl ⟨(by have hb := HBQ.out k h; omega), Or.inl ⟨rfl, h⟩⟩), (fun _ => rfl), ?_⟩
  intro u3_2 hr
  have zu3_2 := hr.size
  have Hx9 := hid ((ql.widen (R' := (fun k => (Q1 k) ∨ (New u3_1 u3_2a k))) (E' := (fun k => (Eb k) ∨ (Q2 k) ∨ (k = u3_0.heap.size))) (fun _ h => h) (by intro k h1; rcases h1 with h1 | (h1 | h1) <;> first | omega | exact h1.elim | exact Or.inl h1 | exact Or.inr (Or.inl h1) | exact Or.inr (Or.inr (h1)))).mod hr (by intro k h1 h2; rcases h1 with h1 | h1 <;> first | omega | (have hb := HBQ.out k h1; omega) | exact HXQ.out (h2 ▸ h1) | exact HXQ.out (h1 ▸ h2) | exact HXE.out (h2 ▸ h1) | exact HXE.out (h1 ▸ h2) | exact HX2.out (h2 ▸ h1) | exact HX2.out (h1 ▸ h2)) (by intro k h1 h2; rcases h1 with h1 | h1 | h1 <;> first | omega | (have hb := HBE.out k h1; omega) | (have hb := HB2.out k h1; omega) | exact HXQ.out (h2 ▸ h1) | exact HXQ.out (h1 ▸ h2) | exact HXE.out (h2 ▸ h1) | exact HXE.out (h1 ▸ h2) | exact HX2.out (h2 ▸ h1) | exact HX2.out (h1 ▸ h2)))
  have hmr := hm.two hr
  have Hx10 := hid (Hx6.out.mod hmr (by intro h2; rcases h2 with h2 | h2 <;> first | omega | (have hb := HBQ.out _ h2; omega) | exact HXQ.out h2 | exact HXE.out h2 | exact HX2.out h2))
  have Hx11 := hid (Hx5.out.mod hmr (by intro h2; rcases h2 with h2 | h2 <;> first | omega | (have hb := HBQ.out _ h2; omega) | exact HXQ.out h2 | exact HXE.out h2 | exact HX2.out h2))
  clear Hx6 Hx5
  clear hmr
  have Cx12 := hid (Cx8.out.goM hm hr (by intro k h0 h2; first | omega | exact Or.inl h2 | exact Or.inr (h2)))
  clear Cx8 hm hr Z act E ql Hx7
  refine QChain.go fun Z act E => ?_
  refine qc_store rfl (wanted_none rfl) rfl Hx10.out (off := 3) (vs := [Value.slice ao4 (l.length + 1) cap4]) (by kernel_rfl) one1 (by simp) (E.d 15) (ec (chv (v := .slice ao4 (l.length + 1) cap4) (E.d 13))) ?_
  intro u3_3a qc0 hm
  have qnt := qc0.eqv (b := #[.int .i64 mo, .int .i64 sn, .int .i64 lo, Value.slice ao4 (l.length + 1) cap4]) rfl
  clear qc0
  have zu3_3a := hm.size
  refine ⟨hm.mono (by intro k hk h; omega), (fun _ => rfl), ?_⟩
  intro u3_3 hr
  have zu3_3 := hr.size
  have Hx13 := hid (qnt.mod hr (by intro h2; omega))
  have hmr := hm.two hr
  have Hx14 := hid (Hx9.out.mod hmr (by intro k h1 h2; rcases h1 with h1 | h1 <;> rcases h2 with h2 | h2 <;> first | omega | (have hb := HBQ.out k h1; omega) | exact HXQ.out (h2 ▸ h1) | exact HXQ.out (h1 ▸ h2) | exact HXE.out (h2 ▸ h1) | exact HXE.out (h1 ▸ h2) | exact HX2.out (h2 ▸ h1) | exact HX2.out (h1 ▸ h2)) (by intro k h1 h2; rcases h1 with h1 | h1 | h1 <;> rcases h2 with h2 | h2 <;> first | omega | (have hb := HBE.out k h1; omega) | (have hb := HB2.out k h1; omega) | exact HXQ.out (h2 ▸ h1) | exact HXQ.out (h1 ▸ h2) | exact HXE.out (h2 ▸ h1) | exact HXE.out (h1 ▸ h2) | exact HX2.out (h2 ▸ h1) | exact HX2.out (h1 ▸ h2)))
  have Hx15 := hid (Hx11.out.mod hmr (by intro h2; omega))
  clear Hx9 Hx11
  clear hmr
  have Cx16 := hid (Cx12.out.goM hm hr (by intro k h0 h2; first | omega | exact Or.inl h2 | exact Or.inr (h2)))
  clear Cx12 hm hr Z act E qnt Hx10
  refine QChain.nil fun vs hl hzz hrows hne => ?_
  obtain ⟨Z, hYZ, hZb, hV⟩ := hzz
  have f0 := fvi hV hl 0
  have f1 := fvi hV hl 1
  have f5 := fvi hV hl 5
  have f9 := fvi hV hl 9
  have f12 := fvc hV hl 12
  have f13 := fvc hV hl 13
  rw [show vs = [gw vs 0, gw vs 1, gw vs 2, gw vs 3, gw vs 4, gw vs 5, gw vs 6, gw vs 7, gw vs 8, gw vs 9, gw vs 10, gw vs 11, gw vs 12, gw vs 13, gw vs 14, gw vs 15, gw vs 16] from (gw_eta hl).trans rfl]
  have ha0 := HA0.out
  subst ha0
  clear HA0 hV hYZ hZb hsz0 hrows hne oe0 oe1
  simp only [putAll, Act.put, sIB, sCZ, sCS, List.set_nil, f0, f1, f5, f9, f12, f13]
  clear hl f0 f1 f5 f9 f12 f13
  go_upto_region 4 with (fail)
  refine wp_region_U 44 [4] [0] (fun a0 HA0 => ?_)
  refine QSeq.pure rfl (.bool true) (fun E => ex_assign rfl rfl) ?_
  refine QSeq.nil (t' := [_]) rfl ?_
  obtain rfl := HA0.out
  clear HA0
  simp only [pz, Act.put, sIB, sCZ, sCS]
  go_wp2
  go_ret
  refine ⟨.slice ao4 (l.length + 1) cap4, rfl, ?_⟩
  rw [HMM.out]
  exact ⟨⟨Hx13.out, (fun k hk => by rcases hk with hk | hk; (have hb := HBE.out k hk; omega); exact hk.2), (fun hk => by rcases hk with hk | hk; exact HXE.out hk; (have := hk.1; omega)), (fun hk => by have hk := (Hx14.out).blk _ hk; rcases hk with hk | hk <;> first | exact HXQ.out hk | omega), (Hx14.out.widen (R' := (fun k => (Q1 k) ∨ (New u3_1 u3_2a k))) (E' := fun k => Eb k ∨ New w u3_3 k) (fun _ h => h) (by intro k hk; rcases hk with hk | hk | hk <;> first | exact Or.inl hk | exact Or.inl (HQE.out _ hk) | exact Or.inr (by unfold New; omega))).own⟩, (fun k hk => by have hk := (Hx14.out).blk _ hk; rcases hk with hk | hk <;> first | exact Or.inl ((HQ1.out _).1 hk) | exact Or.inr (by unfold New; omega)), (((HM0.out.trans Cx1.out (fun _ _ h => h.elim)).trans Cx16.out (by intro k h1 h2; rcases h2 with h2 | h2 <;> first | exact h2 | omega | exact Or.inl h2 | exact Or.inr h2 | exact Or.inr (Or.inl h2) | exact Or.inr (Or.inr h2) | (have hb := HBQ.out k h2; omega))).mono (fun k _ hk => by rcases hk with hk | hk; exact Or.inl hk; exact Or.inr ((HQ1.out k).1 hk)))⟩
set_option maxHeartbeats 4000000 in
theorem RDouble_full {Eb : Nat → Prop} {w : World} {x : Nat} {v : Value} {mo sn lo : Int} {l : List Mg} {k : Nat} (h : RnV Eb w x v mo l sn lo) (hk : k < l.length ∧ mo ≤ (l.length : Nat)) : Calls Try.prog 30 #[.pointer (some ⟨x, 0, none⟩), .int .i64 ((k : Nat) : Int)] w fun e w' => e = .returned (.bool false) ∧ Mod (fun _ => False) w w' := by
  obtain ⟨hc, hbE, hxE, hvx, ho0⟩ := h
  obtain ⟨Q1, hQ1, ho⟩ : ∃ Q : Nat → Prop, (∀ k, Q k ↔ v.ownBlock = some k) ∧ OwS MgR 67 Q Eb w v l := ⟨_, fun _ => Iff.rfl, ho0⟩
  have hbq : ∀ k, Q1 k → k < w.heap.size := fun k hk => ho0.lt ((hQ1 k).1 hk)
  have hxq : ¬ Q1 x := fun hk => hvx ((hQ1 x).1 hk)
  obtain ⟨ao, cap, rfl⟩ := ho.shape
  have hxl := hc.lt
  have hlm : l.length ≤ 9223372036854775807 := by rw [← maxLen_val]; exact ho.rd.bd
  have HNT := hid (show Cs w x #[.int .i64 mo, .int .i64 sn, .int .i64 lo, Value.slice ao l.length cap] 82 from hc)
  have HOL := Lib.hid ho
  have HQ1 := Lib.hid hQ1
  have HBQ := Lib.hid hbq
  have HBE := Lib.hid hbE
  have HXQ := Lib.hid hxq
  have HXE := Lib.hid hxE
  clear hc ho0 ho hQ1 hbE hxE hvx hbq hxq
  go_enter Try.func30, Try.ntmps30
  go_upto_region 1 with (fail)
  have HM0 := hid (Mod.refl (fun _ => False) w)
  go_upto_region 1 with (fail)
  generalize ha0 : Act.mk _ _ = a0
  have oe0 : a0.eval (.tmp 0) = .pointer (some ⟨x, 0, none⟩) := by rw [← ha0]; rfl
  have oe1 : a0.eval (.tmp 1) = .int .i64 ((k : Nat) : Int) := by rw [← ha0]; rfl
  have hsz0 : a0.tmps.size = 44 := by rw [← ha0]; rfl
  have HA0 := hid ha0
  clear ha0
  refine wp_region_Q0 44 hsz0 [5, 6, 7, 8, 9, 10, 11, 12, 13, 14, 15, 16, 17, 18, 19, 20, 21, 22, 23, 24, 25, 26, 27] [qi (.int .i64 ((k : Nat) : Int)), qi (.bool false), qi (.bool false), qi (.int .i64 ((k : Nat) : Int)), qi (.pointer (some ⟨x, 0, none⟩)), qi (.pointer (some ⟨x, 0, none⟩)), qi (.pointer (some ⟨x, 3, none⟩)), qi (.slice ao l.length cap), qi (.int .i64 l.length), qi (.bool false), qi (.bool false), qi (.bool false), qi (.pointer (some ⟨x, 0, none⟩)), qi (.pointer (some ⟨x, 0, none⟩)), qi (.pointer (some ⟨x, 3, none⟩)), qi (.slice ao l.length cap), qi (.int .i64 l.length), qi (.pointer (some ⟨x, 0, none⟩)), qi (.pointer (some ⟨x, 0, none⟩)), qi (.pointer (some ⟨x, 0, none⟩)), qi (.int .i64 mo), qi (.bool true), qi (.bool true)] ⟨qi_stable, qi_stable, qi_stable, qi_stable, qi_stable, qi_stable, qi_stable, qi_stable, qi_stable, qi_stable, qi_stable, qi_stable, qi_stable, qi_stable, qi_stable, qi_stable, qi_stable, qi_stable, qi_stable, qi_stable, qi_stable, qi_stable, qi_stable, trivial⟩ [] ⟨?_, ?_, ?_, ?_, ?_, ?_, ?_, ?_, ?_, ?_, ?_, ?_, ?_, ?_, ?_, ?_, ?_, ?_, ?_, ?_, ?_, ?_, ?_, trivial⟩ ?_
  · exact stq (fun E => ex_move rfl (E.v oe1))
  · exact stq (fun E => ex_binE rfl (E.d 0) rfl (guard_ints _ _ _ _ _ _) (run_lss_i _ _ _ Try.underlying3) (congrArg Value.bool (decide_eq_false (by omega))))
  · exact stq (fun E => ex_move rfl (E.d 1))
  · refine stepq_env rfl rfl rfl fun _ _ _ _ _ _ _ hout hsz hd _ _ => ?_
    have h2 := hd ⟨2, .guard⟩ (by simp) rfl _ rfl
    refine qe_run rfl ((wanted_of rfl rfl (hsz 7 (by decide)) h2).trans rfl) (ex_move rfl ((hout 1 (by decide)).trans oe1)) QE.refl ?_
    rfl
  · refine stepq_env rfl rfl rfl fun _ _ _ _ _ _ _ hout hsz hd _ _ => ?_
    have h2 := hd ⟨2, .guard⟩ (by simp) rfl _ rfl
    refine qe_run rfl ((wanted_of rfl rfl (hsz 7 (by decide)) h2).trans rfl) (ex_move rfl ((hout 0 (by decide)).trans oe0)) QE.refl ?_
    rfl
  · refine stepq_env rfl rfl rfl fun _ _ _ _ _ _ _ _ hsz hd _ _ => ?_
    have h2 := hd ⟨2, .guard⟩ (by simp) rfl _ rfl
    have h4 := hd ⟨4, .data⟩ (by simp) rfl _ rfl
    refine qe_run rfl ((wanted_of rfl rfl (hsz 7 (by decide)) h2).trans rfl) (ex_nil rfl h4) QE.refl ?_
    rfl
  · refine stepq_env rfl rfl rfl fun _ _ _ _ _ _ _ _ hsz hd _ _ => ?_
    have h2 := hd ⟨2, .guard⟩ (by simp) rfl _ rfl
    have h5 := hd ⟨5, .data⟩ (by simp) rfl _ rfl
    refine qe_run rfl ((wanted_of rfl rfl (hsz 7 (by decide)) h2).trans rfl) (ex_field rfl Try.underlying82 rfl (by kernel_rfl) h5) QE.refl ?_
    rfl
  · refine stepq_env rfl rfl rfl fun _ _ _ _ _ hm _ _ hsz hd _ _ => ?_
    have h2 := hd ⟨2, .guard⟩ (by simp) rfl _ rfl
    have h6 := hd ⟨6, .data⟩ (by simp) rfl _ rfl
    refine qe_run rfl ((wanted_of rfl rfl (hsz 7 (by decide)) h2).trans rfl) (ex_load1 rfl Try.underlying76 rfl h6 (Cs.lit1 (HNT.out.mod hm.old (by intro h2; omega)) rfl)) QE.refl ?_
    rfl
  · refine stepq_env rfl rfl rfl fun _ _ _ _ _ _ _ _ hsz hd _ _ => ?_
    have h2 := hd ⟨2, .guard⟩ (by simp) rfl _ rfl
    have h7 := hd ⟨7, .data⟩ (by simp) rfl _ rfl
    refine qe_run rfl ((wanted_of rfl rfl (hsz 7 (by decide)) h2).trans rfl) (ex_lenS rfl h7 Try.underlying76) QE.refl ?_
    rfl
  · refine stepq_env rfl rfl rfl fun _ _ _ _ _ _ _ _ hsz hd _ _ => ?_
    have h2 := hd ⟨2, .guard⟩ (by simp) rfl _ rfl
    have h3 := hd ⟨3, .data⟩ (by simp) rfl _ rfl
    have h8 := hd ⟨8, .data⟩ (by simp) rfl _ rfl
    refine qe_run rfl ((wanted_of rfl rfl (hsz 7 (by decide)) h2).trans rfl) (ex_binE rfl h3 h8 (guard_ints _ _ _ _ _ _) (run_geq_i _ _ _ Try.underlying3) (congrArg Value.bool (decide_eq_false (by omega)))) QE.refl ?_
    rfl
  · exact stq (fun E => ex_pick rfl (E.d 2) rfl (E.d 9))
  · exact stq (fun E => ex_move rfl (E.d 10))
  · refine stepq_env rfl rfl rfl fun _ _ _ _ _ _ _ hout hsz hd _ _ => ?_
    have h11 := hd ⟨11, .guard⟩ (by simp) rfl _ rfl
    refine qe_run rfl ((wanted_of rfl rfl (hsz 16 (by decide)) h11).trans rfl) (ex_move rfl ((hout 0 (by decide)).trans oe0)) QE.refl ?_
    rfl
  · refine stepq_env rfl rfl rfl fun _ _ _ _ _ _ _ _ hsz hd _ _ => ?_
    have h11 := hd ⟨11, .guard⟩ (by simp) rfl _ rfl
    have h12 := hd ⟨12, .data⟩ (by simp) rfl _ rfl
    refine qe_run rfl ((wanted_of rfl rfl (hsz 16 (by decide)) h11).trans rfl) (ex_nil rfl h12) QE.refl ?_
    rfl
  · refine stepq_env rfl rfl rfl fun _ _ _ _ _ _ _ _ hsz hd _ _ => ?_
    have h11 := hd ⟨11, .guard⟩ (by simp) rfl _ rfl
    have h13 := hd ⟨13, .data⟩ (by simp) rfl _ rfl
    refine qe_run rfl ((wanted_of rfl rfl (hsz 16 (by decide)) h11).trans rfl) (ex_field rfl Try.underlying82 rfl (by kernel_rfl) h13) QE.refl ?_
    rfl
  · refine stepq_env rfl rfl rfl fun _ _ _ _ _ hm _ _ hsz hd _ _ => ?_
    have h11 := hd ⟨11, .guard⟩ (by simp) rfl _ rfl
    have h14 := hd ⟨14, .data⟩ (by simp) rfl _ rfl
    refine qe_run rfl ((wanted_of rfl rfl (hsz 16 (by decide)) h11).trans rfl) (ex_load1 rfl Try.underlying76 rfl h14 (Cs.lit1 (HNT.out.mod hm.old (by intro h2; omega)) rfl)) QE.refl ?_
    rfl
  · refine stepq_env rfl rfl rfl fun _ _ _ _ _ _ _ _ hsz hd _ _ => ?_
    have h11 := hd ⟨11, .guard⟩ (by simp) rfl _ rfl
    have h15 := hd ⟨15, .data⟩ (by simp) rfl _ rfl
    refine qe_run rfl ((wanted_of rfl rfl (hsz 16 (by decide)) h11).trans rfl) (ex_lenS rfl h15 Try.underlying76) QE.refl ?_
    rfl
  · refine stepq_env rfl rfl rfl fun _ _ _ _ _ _ _ hout hsz hd _ _ => ?_
    have h11 := hd ⟨11, .guard⟩ (by simp) rfl _ rfl
    refine qe_run rfl ((wanted_of rfl rfl (hsz 16 (by decide)) h11).trans rfl) (ex_move rfl ((hout 0 (by decide)).trans oe0)) QE.refl ?_
    rfl
  · refine stepq_env rfl rfl rfl fun _ _ _ _ _ _ _ _ hsz hd _ _ => ?_
    have h11 := hd ⟨11, .guard⟩ (by simp) rfl _ rfl
    have h17 := hd ⟨17, .data⟩ (by simp) rfl _ rfl
    refine qe_run rfl ((wanted_of rfl rfl (hsz 16 (by decide)) h11).trans rfl) (ex_nil rfl h17) QE.refl ?_
    rfl
  · refine stepq_env rfl rfl rfl fun _ _ _ _ _ _ _ _ hsz hd _ _ => ?_
    have h11 := hd ⟨11, .guard⟩ (by simp) rfl _ rfl
    have h18 := hd ⟨18, .data⟩ (by simp) rfl _ rfl
    refine qe_run rfl ((wanted_of rfl rfl (hsz 16 (by decide)) h11).trans rfl) (ex_field rfl Try.underlying82 rfl (by kernel_rfl) h18) QE.refl ?_
    rfl
  · refine stepq_env rfl rfl rfl fun _ _ _ _ _ hm _ _ hsz hd _ _ => ?_
    have h11 := hd ⟨11, .guard⟩ (by simp) rfl _ rfl
    have h19 := hd ⟨19, .data⟩ (by simp) rfl _ rfl
    refine qe_run rfl ((wanted_of rfl rfl (hsz 16 (by decide)) h11).trans rfl) (ex_load1 rfl Try.underlying3 rfl h19 (Cs.lit1 (HNT.out.mod hm.old (by intro h2; omega)) rfl)) QE.refl ?_
    rfl
  · refine stepq_env rfl rfl rfl fun _ _ _ _ _ _ _ _ hsz hd _ _ => ?_
    have h11 := hd ⟨11, .guard⟩ (by simp) rfl _ rfl
    have h16 := hd ⟨16, .data⟩ (by simp) rfl _ rfl
    have h20 := hd ⟨20, .data⟩ (by simp) rfl _ rfl
    refine qe_run rfl ((wanted_of rfl rfl (hsz 16 (by decide)) h11).trans rfl) (ex_binE rfl h16 h20 (guard_ints _ _ _ _ _ _) (run_geq_i _ _ _ Try.underlying3) (congrArg Value.bool (decide_eq_true (by omega)))) QE.refl ?_
    rfl
  · exact stq (fun E => ex_pick rfl (E.d 11) rfl (E.d 21))
  intro u1_0 hr
  have zu1_0 := hr.size
  have Cx1 := hid (hr.new (S := (fun _ => False)))
  clear hr
  refine QChain.nil fun vs hl hzz hrows hne => ?_
  obtain ⟨Z, hYZ, hZb, hV⟩ := hzz
  have f0 := fvi hV hl 0
  have f2 := fvi hV hl 2
  have f3 := fvi hV hl 3
  have f4 := fvi hV hl 4
  have f8 := fvi hV hl 8
  have f11 := fvi hV hl 11
  have f12 := fvi hV hl 12
  have f16 := fvi hV hl 16
  have f17 := fvi hV hl 17
  have f22 := fvi hV hl 22
  rw [show vs = [gw vs 0, gw vs 1, gw vs 2, gw vs 3, gw vs 4, gw vs 5, gw vs 6, gw vs 7, gw vs 8, gw vs 9, gw vs 10, gw vs 11, gw vs 12, gw vs 13, gw vs 14, gw vs 15, gw vs 16, gw vs 17, gw vs 18, gw vs 19, gw vs 20, gw vs 21, gw vs 22] from (gw_eta hl).trans rfl]
  have ha0 := HA0.out
  subst ha0
  clear HA0 hV hYZ hZb hsz0 hrows hne oe0 oe1
  simp only [putAll, Act.put, sIB, sCZ, sCS, f0, f2, f3, f4, f8, f11, f12, f16, f17, f22]
  clear hl f0 f2 f3 f4 f8 f11 f12 f16 f17 f22
  go_upto_region 2 with (fail)
  refine wp_region_U 44 [4] [0] (fun a0 HA0 => ?_)
  refine QSeq.pure rfl (.bool false) (fun E => ex_assign rfl rfl) ?_
  refine QSeq.nil (t' := [_]) rfl ?_
  obtain rfl := HA0.out
  clear HA0
  simp only [pz, Act.put, sIB, sCZ, sCS]
  go_wp2
  go_ret
  exact ⟨rfl, (HM0.out.trans Cx1.out (fun _ _ h => h.elim))⟩
set_option maxHeartbeats 4000000 in
theorem RDouble_lo {Eb : Nat → Prop} {w : World} {x : Nat} {v : Value} {mo sn lo : Int} {l : List Mg} {k : Int} (h : RnV Eb w x v mo l sn lo) (hk : k < 0) : Calls Try.prog 30 #[.pointer (some ⟨x, 0, none⟩), .int .i64 k] w fun e w' => e = .returned (.bool false) ∧ Mod (fun _ => False) w w' := by
  obtain ⟨hc, hbE, hxE, hvx, ho0⟩ := h
  obtain ⟨Q1, hQ1, ho⟩ : ∃ Q : Nat → Prop, (∀ k, Q k ↔ v.ownBlock = some k) ∧ OwS MgR 67 Q Eb w v l := ⟨_, fun _ => Iff.rfl, ho0⟩
  have hbq : ∀ k, Q1 k → k < w.heap.size := fun k hk => ho0.lt ((hQ1 k).1 hk)
  have hxq : ¬ Q1 x := fun hk => hvx ((hQ1 x).1 hk)
  obtain ⟨ao, cap, rfl⟩ := ho.shape
  have hxl := hc.lt
  have hlm : l.length ≤ 9223372036854775807 := by rw [← maxLen_val]; exact ho.rd.bd
  have HNT := hid (show Cs w x #[.int .i64 mo, .int .i64 sn, .int .i64 lo, Value.slice ao l.length cap] 82 from hc)
  have HOL := Lib.hid ho
  have HQ1 := Lib.hid hQ1
  have HBQ := Lib.hid hbq
  have HBE := Lib.hid hbE
  have HXQ := Lib.hid hxq
  have HXE := Lib.hid hxE
  clear hc ho0 ho hQ1 hbE hxE hvx hbq hxq
  go_enter Try.func30, Try.ntmps30
  go_upto_region 1 with (fail)
  have HM0 := hid (Mod.refl (fun _ => False) w)
  go_upto_region 1 with (fail)
  generalize ha0 : Act.mk _ _ = a0
  have oe1 : a0.eval (.tmp 1) = .int .i64 k := by rw [← ha0]; rfl
  have hsz0 : a0.tmps.size = 44 := by rw [← ha0]; rfl
  have HA0 := hid ha0
  clear ha0
  refine wp_region_Q0 44 hsz0 [5, 6, 7, 8, 9, 10, 11, 12, 13, 14, 15, 16, 17, 18, 19, 20, 21, 22, 23, 24, 25, 26, 27] [qi (.int .i64 k), qi (.bool true), qi (.bool true), qi undef, qi undef, qi undef, qi undef, qi undef, qi undef, qi undef, qi (.bool true), qi (.bool true), qi undef, qi undef, qi undef, qi undef, qi undef, qi undef, qi undef, qi undef, qi undef, qi undef, qi (.bool true)] ⟨qi_stable, qi_stable, qi_stable, qi_stable, qi_stable, qi_stable, qi_stable, qi_stable, qi_stable, qi_stable, qi_stable, qi_stable, qi_stable, qi_stable, qi_stable, qi_stable, qi_stable, qi_stable, qi_stable, qi_stable, qi_stable, qi_stable, qi_stable, trivial⟩ [] ⟨?_, ?_, ?_, ?_, ?_, ?_, ?_, ?_, ?_, ?_, ?_, ?_, ?_, ?_, ?_, ?_, ?_, ?_, ?_, ?_, ?_, ?_, ?_, trivial⟩ ?_
  · exact stq (fun E => ex_move rfl (E.v oe1))
  · exact stq (fun E => ex_binE rfl (E.d 0) rfl (guard_ints _ _ _ _ _ _) (run_lss_i _ _ _ Try.underlying3) (congrArg Value.bool (decide_eq_true (by omega))))
  · exact stq (fun E => ex_move rfl (E.d 1))
  · refine stepq_env rfl rfl rfl fun _ _ _ _ _ _ _ _ hsz hd _ _ => ?_
    have h2 := hd ⟨2, .guard⟩ (by simp) rfl _ rfl
    exact qe_skip rfl ((wanted_of rfl rfl (hsz 7 (by decide)) h2).trans rfl) rfl
  · refine stepq_env rfl rfl rfl fun _ _ _ _ _ _ _ _ hsz hd _ _ => ?_
    have h2 := hd ⟨2, .guard⟩ (by simp) rfl _ rfl
    exact qe_skip rfl ((wanted_of rfl rfl (hsz 7 (by decide)) h2).trans rfl) rfl
  · refine stepq_env rfl rfl rfl fun _ _ _ _ _ _ _ _ hsz hd _ _ => ?_
    have h2 := hd ⟨2, .guard⟩ (by simp) rfl _ rfl
    exact qe_skip rfl ((wanted_of rfl rfl (hsz 7 (by decide)) h2).trans rfl) rfl
  · refine stepq_env rfl rfl rfl fun _ _ _ _ _ _ _ _ hsz hd _ _ => ?_
    have h2 := hd ⟨2, .guard⟩ (by simp) rfl _ rfl
    exact qe_skip rfl ((wanted_of rfl rfl (hsz 7 (by decide)) h2).trans rfl) rfl
  · refine stepq_env rfl rfl rfl fun _ _ _ _ _ _ _ _ hsz hd _ _ => ?_
    have h2 := hd ⟨2, .guard⟩ (by simp) rfl _ rfl
    exact qe_skip rfl ((wanted_of rfl rfl (hsz 7 (by decide)) h2).trans rfl) rfl
  · refine stepq_env rfl rfl rfl fun _ _ _ _ _ _ _ _ hsz hd _ _ => ?_
    have h2 := hd ⟨2, .guard⟩ (by simp) rfl _ rfl
    exact qe_skip rfl ((wanted_of rfl rfl (hsz 7 (by decide)) h2).trans rfl) rfl
  · refine stepq_env rfl rfl rfl fun _ _ _ _ _ _ _ _ hsz hd _ _ => ?_
    have h2 := hd ⟨2, .guard⟩ (by simp) rfl _ rfl
    exact qe_skip rfl ((wanted_of rfl rfl (hsz 7 (by decide)) h2).trans rfl) rfl
  · exact stq (fun E => ex_pick rfl (E.d 2) rfl (E.d 9))
  · exact stq (fun E => ex_move rfl (E.d 10))
  · refine stepq_env rfl rfl rfl fun _ _ _ _ _ _ _ _ hsz hd _ _ => ?_
    have h11 := hd ⟨11, .guard⟩ (by simp) rfl _ rfl
    exact qe_skip rfl ((wanted_of rfl rfl (hsz 16 (by decide)) h11).trans rfl) rfl
  · refine stepq_env rfl rfl rfl fun _ _ _ _ _ _ _ _ hsz hd _ _ => ?_
    have h11 := hd ⟨11, .guard⟩ (by simp) rfl _ rfl
    exact qe_skip rfl ((wanted_of rfl rfl (hsz 16 (by decide)) h11).trans rfl) rfl
  · refine stepq_env rfl rfl rfl fun _ _ _ _ _ _ _ _ hsz hd _ _ => ?_
    have h11 := hd ⟨11, .guard⟩ (by simp) rfl _ rfl
    exact qe_skip rfl ((wanted_of rfl rfl (hsz 16 (by decide)) h11).trans rfl) rfl
  · refine stepq_env rfl rfl rfl fun _ _ _ _ _ _ _ _ hsz hd _ _ => ?_
    have h11 := hd ⟨11, .guard⟩ (by simp) rfl _ rfl
    exact qe_skip rfl ((wanted_of rfl rfl (hsz 16 (by decide)) h11).trans rfl) rfl
  · refine stepq_env rfl rfl rfl fun _ _ _ _ _ _ _ _ hsz hd _ _ => ?_
    have h11 := hd ⟨11, .guard⟩ (by simp) rfl _ rfl
    exact qe_skip rfl ((wanted_of rfl rfl (hsz 16 (by decide)) h11).trans rfl) rfl
  · refine stepq_env rfl rfl rfl fun _ _ _ _ _ _ _ _ hsz hd _ _ => ?_
    have h11 := hd ⟨11, .guard⟩ (by simp) rfl _ rfl
    exact qe_skip rfl ((wanted_of rfl rfl (hsz 16 (by decide)) h11).trans rfl) rfl
  · refine stepq_env rfl rfl rfl fun _ _ _ _ _ _ _ _ hsz hd _ _ => ?_
    have h11 := hd ⟨11, .guard⟩ (by simp) rfl _ rfl
    exact qe_skip rfl ((wanted_of rfl rfl (hsz 16 (by decide)) h11).trans rfl) rfl
  · refine stepq_env rfl rfl rfl fun _ _ _ _ _ _ _ _ hsz hd _ _ => ?_
    have h11 := hd ⟨11, .guard⟩ (by simp) rfl _ rfl
    exact qe_skip rfl ((wanted_of rfl rfl (hsz 16 (by decide)) h11).trans rfl) rfl
  · refine stepq_env rfl rfl rfl fun _ _ _ _ _ _ _ _ hsz hd _ _ => ?_
    have h11 := hd ⟨11, .guard⟩ (by simp) rfl _ rfl
    exact qe_skip rfl ((wanted_of rfl rfl (hsz 16 (by decide)) h11).trans rfl) rfl
  · refine stepq_env rfl rfl rfl fun _ _ _ _ _ _ _ _ hsz hd _ _ => ?_
    have h11 := hd ⟨11, .guard⟩ (by simp) rfl _ rfl
    exact qe_skip rfl ((wanted_of rfl rfl (hsz 16 (by decide)) h11).trans rfl) rfl
  · exact stq (fun E => ex_pick rfl (E.d 11) rfl (E.d 21))
  intro u1_0 hr
  have zu1_0 := hr.size
  have Cx1 := hid (hr.new (S := (fun _ => False)))
  clear hr
  refine QChain.nil fun vs hl hzz hrows hne => ?_
  obtain ⟨Z, hYZ, hZb, hV⟩ := hzz
  have f0 := fvi hV hl 0
  have f2 := fvi hV hl 2
  have f3 := fvi hV hl 3
  have f4 := fvi hV hl 4
  have f8 := fvi hV hl 8
  have f11 := fvi hV hl 11
  have f12 := fvi hV hl 12
  have f16 := fvi hV hl 16
  have f17 := fvi hV hl 17
  have f22 := fvi hV hl 22
  rw [show vs = [gw vs 0, gw vs 1, gw vs 2, gw vs 3, gw vs 4, gw vs 5, gw vs 6, gw vs 7, gw vs 8, gw vs 9, gw vs 10, gw vs 11, gw vs 12, gw vs 13, gw vs 14, gw vs 15, gw vs 16, gw vs 17, gw vs 18, gw vs 19, gw vs 20, gw vs 21, gw vs 22] from (gw_eta hl).trans rfl]
  have ha0 := HA0.out
  subst ha0
  clear HA0 hV hYZ hZb hsz0 hrows hne oe1
  simp only [putAll, Act.put, sIB, sCZ, sCS, f0, f2, f3, f4, f8, f11, f12, f16, f17, f22]
  clear hl f0 f2 f3 f4 f8 f11 f12 f16 f17 f22
  go_upto_region 2 with (fail)
  refine wp_region_U 44 [4] [0] (fun a0 HA0 => ?_)
  refine QSeq.pure rfl (.bool false) (fun E => ex_assign rfl rfl) ?_
  refine QSeq.nil (t' := [_]) rfl ?_
  obtain rfl := HA0.out
  clear HA0
  simp only [pz, Act.put, sIB, sCZ, sCS]
  go_wp2
  go_ret
  exact ⟨rfl, (HM0.out.trans Cx1.out (fun _ _ h => h.elim))⟩
set_option maxHeartbeats 4000000 in
theorem RDouble_hi {Eb : Nat → Prop} {w : World} {x : Nat} {v : Value} {mo sn lo : Int} {l : List Mg} {k : Int} (h : RnV Eb w x v mo l sn lo) (hk : 0 ≤ k ∧ ((l.length : Nat) : Int) ≤ k) : Calls Try.prog 30 #[.pointer (some ⟨x, 0, none⟩), .int .i64 k] w fun e w' => e = .returned (.bool false) ∧ Mod (fun _ => False) w w' := by
  obtain ⟨hc, hbE, hxE, hvx, ho0⟩ := h
  obtain ⟨Q1, hQ1, ho⟩ : ∃ Q : Nat → Prop, (∀ k, Q k ↔ v.ownBlock = some k) ∧ OwS MgR 67 Q Eb w v l := ⟨_, fun _ => Iff.rfl, ho0⟩
  have hbq : ∀ k, Q1 k → k < w.heap.size := fun k hk => ho0.lt ((hQ1 k).1 hk)
  have hxq : ¬ Q1 x := fun hk => hvx ((hQ1 x).1 hk)
  obtain ⟨ao, cap, rfl⟩ := ho.shape
  have hxl := hc.lt
  have hlm : l.length ≤ 9223372036854775807 := by rw [← maxLen_val]; exact ho.rd.bd
  have HNT := hid (show Cs w x #[.int .i64 mo, .int .i64 sn, .int .i64 lo, Value.slice ao l.length cap] 82 from hc)
  have HOL := Lib.hid ho
  have HQ1 := Lib.hid hQ1
  have HBQ := Lib.hid hbq
  have HBE := Lib.hid hbE
  have HXQ := Lib.hid hxq
  have HXE := Lib.hid hxE
  clear hc ho0 ho hQ1 hbE hxE hvx hbq hxq
  go_enter Try.func30, Try.ntmps30
  go_upto_region 1 with (fail)
  have HM0 := hid (Mod.refl (fun _ => False) w)
  go_upto_region 1 with (fail)
  generalize ha0 : Act.mk _ _ = a0
  have oe0 : a0.eval (.tmp 0) = .pointer (some ⟨x, 0, none⟩) := by rw [← ha0]; rfl
  have oe1 : a0.eval (.tmp 1) = .int .i64 k := by rw [← ha0]; rfl
  have hsz0 : a0.tmps.size = 44 := by rw [← ha0]; rfl
  have HA0 := hid ha0
  clear ha0
  refine wp_region_Q0 44 hsz0 [5, 6, 7, 8, 9, 10, 11, 12, 13, 14, 15, 16, 17, 18, 19, 20, 21, 22, 23, 24, 25, 26, 27] [qi (.int .i64 k), qi (.bool false), qi (.bool false), qi (.int .i64 k), qi (.pointer (some ⟨x, 0, none⟩)), qi (.pointer (some ⟨x, 0, none⟩)), qi (.pointer (some ⟨x, 3, none⟩)), qi (.slice ao l.length cap), qi (.int .i64 l.length), qi (.bool true), qi (.bool true), qi (.bool true), qi undef, qi undef, qi undef, qi undef, qi undef, qi undef, qi undef, qi undef, qi undef, qi undef, qi (.bool true)] ⟨qi_stable, qi_stable, qi_stable, qi_stable, qi_stable, qi_stable, qi_stable, qi_stable, qi_stable, qi_stable, qi_stable, qi_stable, qi_stable, qi_stable, qi_stable, qi_stable, qi_stable, qi_stable, qi_stable, qi_stable, qi_stable, qi_stable, qi_stable, trivial⟩ [] ⟨?_, ?_, ?_, ?_, ?_, ?_, ?_, ?_, ?_, ?_, ?_, ?_, ?_, ?_, ?_, ?_, ?_, ?_, ?_, ?_, ?_, ?_, ?_, trivial⟩ ?_
  · exact stq (fun E => ex_move rfl (E.v oe1))
  · exact stq (fun E => ex_binE rfl (E.d 0) rfl (guard_ints _ _ _ _ _ _) (run_lss_i _ _ _ Try.underlying3) (congrArg Value.bool (decide_eq_false (by omega))))
  · exact stq (fun E => ex_move rfl (E.d 1))
  · refine stepq_env rfl rfl rfl fun _ _ _ _ _ _ _ hout hsz hd _ _ => ?_
    have h2 := hd ⟨2, .guard⟩ (by simp) rfl _ rfl
    refine qe_run rfl ((wanted_of rfl rfl (hsz 7 (by decide)) h2).trans rfl) (ex_move rfl ((hout 1 (by decide)).trans oe1)) QE.refl ?_
    rfl
  · refine stepq_env rfl rfl rfl fun _ _ _ _ _ _ _ hout hsz hd _ _ => ?_
    have h2 := hd ⟨2, .guard⟩ (by simp) rfl _ rfl
    refine qe_run rfl ((wanted_of rfl rfl (hsz 7 (by decide)) h2).trans rfl) (ex_move rfl ((hout 0 (by decide)).trans oe0)) QE.refl ?_
    rfl
  · refine stepq_env rfl rfl rfl fun _ _ _ _ _ _ _ _ hsz hd _ _ => ?_
    have h2 := hd ⟨2, .guard⟩ (by simp) rfl _ rfl
    have h4 := hd ⟨4, .data⟩ (by simp) rfl _ rfl
    refine qe_run rfl ((wanted_of rfl rfl (hsz 7 (by decide)) h2).trans rfl) (ex_nil rfl h4) QE.refl ?_
    rfl
  · refine stepq_env rfl rfl rfl fun _ _ _ _ _ _ _ _ hsz hd _ _ => ?_
    have h2 := hd ⟨2, .guard⟩ (by simp) rfl _ rfl
    have h5 := hd ⟨5, .data⟩ (by simp) rfl _ rfl
    refine qe_run rfl ((wanted_of rfl rfl (hsz 7 (by decide)) h2).trans rfl) (ex_field rfl Try.underlying82 rfl (by kernel_rfl) h5) QE.refl ?_
    rfl
  · refine stepq_env rfl rfl rfl fun _ _ _ _ _ hm _ _ hsz hd _ _ => ?_
    have h2 := hd ⟨2, .guard⟩ (by simp) rfl _ rfl
    have h6 := hd ⟨6, .data⟩ (by simp) rfl _ rfl
    refine qe_run rfl ((wanted_of rfl rfl (hsz 7 (by decide)) h2).trans rfl) (ex_load1 rfl Try.underlying76 rfl h6 (Cs.lit1 (HNT.out.mod hm.old (by intro h2; omega)) rfl)) QE.refl ?_
    rfl
  · refine stepq_env rfl rfl rfl fun _ _ _ _ _ _ _ _ hsz hd _ _ => ?_
    have h2 := hd ⟨2, .guard⟩ (by simp) rfl _ rfl
    have h7 := hd ⟨7, .data⟩ (by simp) rfl _ rfl
    refine qe_run rfl ((wanted_of rfl rfl (hsz 7 (by decide)) h2).trans rfl) (ex_lenS rfl h7 Try.underlying76) QE.refl ?_
    rfl
  · refine stepq_env rfl rfl rfl fun _ _ _ _ _ _ _ _ hsz hd _ _ => ?_
    have h2 := hd ⟨2, .guard⟩ (by simp) rfl _ rfl
    have h3 := hd ⟨3, .data⟩ (by simp) rfl _ rfl
    have h8 := hd ⟨8, .data⟩ (by simp) rfl _ rfl
    refine qe_run rfl ((wanted_of rfl rfl (hsz 7 (by decide)) h2).trans rfl) (ex_binE rfl h3 h8 (guard_ints _ _ _ _ _ _) (run_geq_i _ _ _ Try.underlying3) (congrArg Value.bool (decide_eq_true (by omega)))) QE.refl ?_
    rfl
  · exact stq (fun E => ex_pick rfl (E.d 2) rfl (E.d 9))
  · exact stq (fun E => ex_move rfl (E.d 10))
  · refine stepq_env rfl rfl rfl fun _ _ _ _ _ _ _ _ hsz hd _ _ => ?_
    have h11 := hd ⟨11, .guard⟩ (by simp) rfl _ rfl
    exact qe_skip rfl ((wanted_of rfl rfl (hsz 16 (by decide)) h11).trans rfl) rfl
  · refine stepq_env rfl rfl rfl fun _ _ _ _ _ _ _ _ hsz hd _ _ => ?_
    have h11 := hd ⟨11, .guard⟩ (by simp) rfl _ rfl
    exact qe_skip rfl ((wanted_of rfl rfl (hsz 16 (by decide)) h11).trans rfl) rfl
  · refine stepq_env rfl rfl rfl fun _ _ _ _ _ _ _ _ hsz hd _ _ => ?_
    have h11 := hd ⟨11, .guard⟩ (by simp) rfl _ rfl
    exact qe_skip rfl ((wanted_of rfl rfl (hsz 16 (by decide)) h11).trans rfl) rfl
  · refine stepq_env rfl rfl rfl fun _ _ _ _ _ _ _ _ hsz hd _ _ => ?_
    have h11 := hd ⟨11, .guard⟩ (by simp) rfl _ rfl
    exact qe_skip rfl ((wanted_of rfl rfl (hsz 16 (by decide)) h11).trans rfl) rfl
  · refine stepq_env rfl rfl rfl fun _ _ _ _ _ _ _ _ hsz hd _ _ => ?_
    have h11 := hd ⟨11, .guard⟩ (by simp) rfl _ rfl
    exact qe_skip rfl ((wanted_of rfl rfl (hsz 16 (by decide)) h11).trans rfl) rfl
  · refine stepq_env rfl rfl rfl fun _ _ _ _ _ _ _ _ hsz hd _ _ => ?_
    have h11 := hd ⟨11, .guard⟩ (by simp) rfl _ rfl
    exact qe_skip rfl ((wanted_of rfl rfl (hsz 16 (by decide)) h11).trans rfl) rfl
  · refine stepq_env rfl rfl rfl fun _ _ _ _ _ _ _ _ hsz hd _ _ => ?_
    have h11 := hd ⟨11, .guard⟩ (by simp) rfl _ rfl
    exact qe_skip rfl ((wanted_of rfl rfl (hsz 16 (by decide)) h11).trans rfl) rfl
  · refine stepq_env rfl rfl rfl fun _ _ _ _ _ _ _ _ hsz hd _ _ => ?_
    have h11 := hd ⟨11, .guard⟩ (by simp) rfl _ rfl
    exact qe_skip rfl ((wanted_of rfl rfl (hsz 16 (by decide)) h11).trans rfl) rfl
  · refine stepq_env rfl rfl rfl fun _ _ _ _ _ _ _ _ hsz hd _ _ => ?_
    have h11 := hd ⟨11, .guard⟩ (by simp) rfl _ rfl
    exact qe_skip rfl ((wanted_of rfl rfl (hsz 16 (by decide)) h11).trans rfl) rfl
  · refine stepq_env rfl rfl rfl fun _ _ _ _ _ _ _ _ hsz hd _ _ => ?_
    have h11 := hd ⟨11, .guard⟩ (by simp) rfl _ rfl
    exact qe_skip rfl ((wanted_of rfl rfl (hsz 16 (by decide)) h11).trans rfl) rfl
  · exact stq (fun E => ex_pick rfl (E.d 11) rfl (E.d 21))
  intro u1_0 hr
  have zu1_0 := hr.size
  have Cx1 := hid (hr.new (S := (fun _ => False)))
  clear hr
  refine QChain.nil fun vs hl hzz hrows hne => ?_
  obtain ⟨Z, hYZ, hZb, hV⟩ := hzz
  have f0 := fvi hV hl 0
  have f2 := fvi hV hl 2
  have f3 := fvi hV hl 3
  have f4 := fvi hV hl 4
  have f8 := fvi hV hl 8
  have f11 := fvi hV hl 11
  have f12 := fvi hV hl 12
  have f16 := fvi hV hl 16
  have f17 := fvi hV hl 17
  have f22 := fvi hV hl 22
  rw [show vs = [gw vs 0, gw vs 1, gw vs 2, gw vs 3, gw vs 4, gw vs 5, gw vs 6, gw vs 7, gw vs 8, gw vs 9, gw vs 10, gw vs 11, gw vs 12, gw vs 13, gw vs 14, gw vs 15, gw vs 16, gw vs 17, gw vs 18, gw vs 19, gw vs 20, gw vs 21, gw vs 22] from (gw_eta hl).trans rfl]
  have ha0 := HA0.out
  subst ha0
  clear HA0 hV hYZ hZb hsz0 hrows hne oe0 oe1
  simp only [putAll, Act.put, sIB, sCZ, sCS, f0, f2, f3, f4, f8, f11, f12, f16, f17, f22]
  clear hl f0 f2 f3 f4 f8 f11 f12 f16 f17 f22
  go_upto_region 2 with (fail)
  refine wp_region_U 44 [4] [0] (fun a0 HA0 => ?_)
  refine QSeq.pure rfl (.bool false) (fun E => ex_assign rfl rfl) ?_
  refine QSeq.nil (t' := [_]) rfl ?_
  obtain rfl := HA0.out
  clear HA0
  simp only [pz, Act.put, sIB, sCZ, sCS]
  go_wp2
  go_ret
  exact ⟨rfl, (HM0.out.trans Cx1.out (fun _ _ h => h.elim))⟩
end Go.Proofs.Ytekbmpjdombedaa

/- gavelref20.Net: Send. -/
namespace Go.Proofs.Ytekbmpjdombedaa
open Go Go.RowKit Go.Gv

set_option maxHeartbeats 8000000 in
theorem RSend_Q {Eb : Nat → Prop} {w : World} {x : Nat} {v : Value} {mo sn lo : Int} {l : List Mg} {R2 : Nat → Prop} {ms : List Mg} {vm : Value} {p : Nat} (h : RnV Eb w x v mo l sn lo) (hms : RdS MgR R2 w vm ms) (hB2 : ∀ k, R2 k → k < w.heap.size) (h2 : ∀ k, R2 k → k ≠ x ∧ v.ownBlock ≠ some k) (hml : ms.length ≤ 1000) (hlo : ((l.length : Nat) : Int) ≤ mo) (hmo : mo ≤ 4096)
    (hsn : 0 ≤ sn ∧ sn ≤ 1000000) (hlb : 0 ≤ lo ∧ lo ≤ 1000000) (hp : p = min ms.length (mo - (l.length : Nat)).toNat) : Calls Try.prog 32 #[.pointer (some ⟨x, 0, none⟩), vm] w fun e w' => ∃ v', e = .returned (.int .i64 ((p : Nat) : Int)) ∧ RnV (fun k => Eb k ∨ R2 k ∨ New w w' k) w' x v' mo (l ++ ms.take p) (sn + ((p : Nat) : Int)) (lo + ((ms.length : Nat) : Int) - ((p : Nat) : Int)) ∧
    (∀ k, v'.ownBlock = some k → v.ownBlock = some k ∨ New w w' k) ∧ Mod (fun k => k = x ∨ v.ownBlock = some k) w w' := by
  obtain ⟨hc, hbE, hxE, hvx, ho0⟩ := h
  obtain ⟨Q1, hQ1, ho⟩ : ∃ Q : Nat → Prop, (∀ k, Q k ↔ v.ownBlock = some k) ∧ OwS MgR 67 Q Eb w v l := ⟨_, fun _ => Iff.rfl, ho0⟩
  have hbq : ∀ k, Q1 k → k < w.heap.size := fun k hk => ho0.lt ((hQ1 k).1 hk)
  have hxq : ¬ Q1 x := fun hk => hvx ((hQ1 x).1 hk)
  obtain ⟨ao, cap, rfl⟩ := ho.shape
  have hxl := hc.lt
  have hlm : l.length ≤ 9223372036854775807 := by rw [← maxLen_val]; exact ho.rd.bd
  have HNT := hid (show Cs w x #[.int .i64 mo, .int .i64 sn, .int .i64 lo, Value.slice ao l.length cap] 82 from hc)
  have HOL := Lib.hid ho
  have HQ1 := Lib.hid hQ1
  have HBQ := Lib.hid hbq
  have HBE := Lib.hid hbE
  have HXQ := Lib.hid hxq
  have HXE := Lib.hid hxE
  clear hc ho0 ho hQ1 hbE hxE hvx hbq hxq
  obtain ⟨am, capm, rfl⟩ := hms.shape
  have HMS := Lib.hid hms
  have HB2 := Lib.hid hB2
  have HQ2 := hid (show ∀ b, Q1 b → R2 b → False from fun b h1 hb => (h2 b hb).2 ((HQ1.out b).1 h1))
  have HX2 := hid (show ¬ R2 x from fun hb => (h2 x hb).1 rfl)
  obtain ⟨r, hr⟩ : ∃ r, r = (mo - (l.length : Nat)).toNat := ⟨_, rfl⟩
  have hrl : ((l.length + r : Nat) : Int) = mo := by omega
  rw [← hr] at hp
  clear hms hB2 h2 hr
  go_enter Try.func32, Try.ntmps32
  go_upto_region 2 with (fail)
  have HM0 := hid (Mod.refl (fun k => (k = x) ∨ (Q1 k)) w)
  go_upto_region 2 with (fail)
  refine wp_region_U 53 [7, 8, 9] [0, 1, 2] (fun a0 HA0 => ?_)
  have oe1 := ev HA0 1 rfl
  refine QSeq.pure rfl _ (fun E => ex_move rfl (E.v oe1)) ?_
  refine QSeq.pure rfl (.int .i64 ms.length) (fun E => ex_lenS rfl (E.d 0 0) Try.underlying76) ?_
  refine QSeq.pure rfl (.int .i64 0) (fun E => ex_move rfl rfl) ?_
  refine QSeq.nil (t' := [_, _, _]) rfl ?_
  obtain rfl := HA0.out
  clear HA0 oe1
  simp only [pz, Act.put, sIB, sCZ, sCS]
  go_wp2
  go_loopw [5, 9] (fun tp ti wr => ∃ (j p0 : Nat) (v0 : Value), tp = .int .i64 ((p0 : Nat) : Int) ∧ ti = .int .i64 ((j : Nat) : Int) ∧ j ≤ ms.length ∧ p0 = min j r ∧ w.heap.size ≤ wr.heap.size ∧ Cs wr x #[.int .i64 mo, .int .i64 (sn + ((p0 : Nat) : Int)), .int .i64 (lo + ((j : Nat) : Int) - ((p0 : Nat) : Int)), v0] 82 ∧ OwS MgR 67 (fun k => (Q1 k) ∨ (New w wr k)) (fun k => (Eb k) ∨ (R2 k) ∨ (New w wr k)) wr v0 (l ++ ms.take p0) ∧ RdS MgR R2 wr (.slice am ms.length capm) ms ∧ Mod (fun k => k = x ∨ Q1 k) w wr) (fun _ ti _ => ms.length - (intOf ti).toNat)
  case atStart => exact ⟨0, 0, _, rfl, rfl, Nat.zero_le _, by omega, Nat.le_refl _, (by simpa using HNT.out), (by rw [List.take_zero, List.append_nil]; exact HOL.out.widen (fun _ h => Or.inl h) (fun _ h => Or.inl h)), HMS.out, HM0.out⟩
  case round =>
    obtain ⟨j, p0, v0, rfl, rfl, hj, hp0, hz, k1, k2, k3, k4⟩ := hrel
    obtain ⟨wl, rfl⟩ : ∃ x, x = wr := ⟨_, rfl⟩
    have hll : (l ++ ms.take p0).length = l.length + p0 := by rw [List.length_append, List.length_take]; omega
    obtain ⟨aol, capl, rfl⟩ := k2.shape
    have K1 := Lib.hid k1
    have K2 := Lib.hid k2
    have K3 := Lib.hid k3
    have K4 := Lib.hid k4
    clear k1 k2 k3 k4 HNT HOL HMS HM0
    by_cases hlt : j < ms.length
    · skip
      go_upto_region 3 with (fail)
      refine wp_region_U 53 [10] [0] (fun a0 HA0 => ?_)
      have oe8 := ev HA0 8 rfl
      have oe9 := ev HA0 9 rfl
      refine QSeq.pure rfl (.bool true) (fun E => ex_binE rfl (E.v oe9) (E.v oe8) (guard_ints _ _ _ _ _ _) (run_lss_i _ _ _ Try.underlying3) (congrArg Value.bool (decide_eq_true (by omega)))) ?_
      refine QSeq.nil (t' := [_]) rfl ?_
      obtain rfl := HA0.out
      clear HA0 oe8 oe9
      simp only [pz, Act.put, sIB, sCZ, sCS]
      go_upto_region 4 with (fail)
      refine wp_region_U 53 [11, 6] [0, 1] (fun a0 HA0 => ?_)
      have oe9 := ev HA0 9 rfl
      refine QSeq.pure rfl _ (fun E => ex_move rfl (E.v oe9)) ?_
      refine QSeq.pure rfl _ (fun E => ex_assign rfl (E.d 0 0)) ?_
      refine QSeq.nil (t' := [_, _]) rfl ?_
      obtain rfl := HA0.out
      clear HA0 oe9
      simp only [pz, Act.put, sIB, sCZ, sCS]
      obtain ⟨g0, o0, cs, eao, hrg, hrd, hcs⟩ := K3.out.at hlt
      subst eao
      generalize hmm : ms[j] = m at hrd
      have HMM := Lib.hid hmm
      have HCL := hid (show cs.length = 295 from MgR.len hrd)
      have HOC := hid (MgR.one hrd)
      have HAT := hid (show CellsAt R2 wl g0 (o0 + j * 295) cs from ⟨hrg, hcs⟩)
      have HRD := hid (show MgR.rd R2 wl cs m from hrd)
      clear hrg hrd hcs hmm
      by_cases hjr : j < r
      · skip
        have hpj : p0 = j := by omega
        go_upto_region 5 with (fail)
        generalize ha0 : Act.mk _ _ = a0
        have oe0 : a0.eval (.tmp 0) = .pointer (some ⟨x, 0, none⟩) := by rw [← ha0]; rfl
        have hsz0 : a0.tmps.size = 53 := by rw [← ha0]; rfl
        have HA0 := hid ha0
        clear ha0
        refine wp_region_Q0 53 hsz0 [12, 13, 14, 15, 16, 17, 18, 19, 20, 21] [qi (.pointer (some ⟨x, 0, none⟩)), qi (.pointer (some ⟨x, 0, none⟩)), qi (.pointer (some ⟨x, 3, none⟩)), qi (.slice aol (l ++ ms.take p0).length capl), qi (.int .i64 ((l.length + p0 : Nat) : Int)), qi (.pointer (some ⟨x, 0, none⟩)), qi (.pointer (some ⟨x, 0, none⟩)), qi (.pointer (some ⟨x, 0, none⟩)), qi (.int .i64 mo), qi (.bool true)] ⟨qi_stable, qi_stable, qi_stable, qi_stable, qi_stable, qi_stable, qi_stable, qi_stable, qi_stable, qi_stable, trivial⟩ [] ⟨?_, ?_, ?_, ?_, ?_, ?_, ?_, ?_, ?_, ?_, trivial⟩ ?_
        · exact stq (fun E => ex_move rfl (E.v oe0))
        · exact stq (fun E => ex_nil rfl (E.d 0))
        · exact stq (fun E => ex_field rfl Try.underlying82 rfl (by kernel_rfl) (E.d 1))
        · exact stq (fun E => ex_load1 rfl Try.underlying76 rfl (E.d 2) (Cs.lit1 (K1.out.mod E.m.old (by intro h2; omega)) rfl))
        · exact stq (fun E => ex_lenS rfl ((E.d 3).trans (show Value.slice aol (l ++ ms.take p0).length capl = .slice aol (l.length + p0) capl from by rw [hll])) Try.underlying76)
        · exact stq (fun E => ex_move rfl (E.v oe0))
        · exact stq (fun E => ex_nil rfl (E.d 5))
        · exact stq (fun E => ex_field rfl Try.underlying82 rfl (by kernel_rfl) (E.d 6))
        · exact stq (fun E => ex_load1 rfl Try.underlying3 rfl (E.d 7) (Cs.lit1 (K1.out.mod E.m.old (by intro h2; omega)) rfl))
        · exact stq (fun E => ex_binE rfl (E.d 4) (E.d 8) (guard_ints _ _ _ _ _ _) (run_lss_i _ _ _ Try.underlying3) (congrArg Value.bool (decide_eq_true (by omega))))
        intro u5_0 hr
        have zu5_0 := hr.size
        have Cx1 := hid (hr.new (S := (fun _ => False)))
        clear hr
        refine QChain.nil fun vs hl hzz hrows hne => ?_
        obtain ⟨Z, hYZ, hZb, hV⟩ := hzz
        have f0 := fvi hV hl 0
        have f4 := fvi hV hl 4
        have f5 := fvi hV hl 5
        have f9 := fvi hV hl 9
        rw [show vs = [gw vs 0, gw vs 1, gw vs 2, gw vs 3, gw vs 4, gw vs 5, gw vs 6, gw vs 7, gw vs 8, gw vs 9] from (gw_eta hl).trans rfl]
        have ha0 := HA0.out
        subst ha0
        clear HA0 hV hYZ hZb hsz0 hrows hne oe0
        simp only [putAll, Act.put, sIB, sCZ, sCS, f0, f4, f5, f9]
        clear hl f0 f4 f5 f9
        go_upto_region 6 with (fail)
        generalize ha0 : Act.mk _ _ = a0
        have oe0 : a0.eval (.tmp 0) = .pointer (some ⟨x, 0, none⟩) := by rw [← ha0]; rfl
        have oe1 : a0.eval (.tmp 1) = .slice (some ⟨g0, o0, none⟩) ms.length capm := by rw [← ha0]; rfl
        have oe6 : a0.eval (.tmp 6) = .int .i64 ((j : Nat) : Int) := by rw [← ha0]; rfl
        have hsz0 : a0.tmps.size = 53 := by rw [← ha0]; rfl
        have HA0 := hid ha0
        clear ha0
        refine wp_region_Q1 53 hsz0 [22, 23, 24, 25, 26, 27, 28, 29, 30, 31, 32, 33, 34, 66] (fun k => (Q1 k) ∨ (New w wl k) ∨ (k = x)) (fun k j => (k = 1 ∧ ((Q1 j) ∨ (New w wl j))) ∨ (k = 2 ∧ ((j = x)))) (by intro k j h; (try dsimp only at h ⊢); rcases h with ⟨-, h | h⟩ | ⟨-, h⟩; (exact Or.inl (h)); (exact Or.inr (Or.inl (h))); (exact Or.inr (Or.inr (h)))) [qi (.pointer (some ⟨x, 0, none⟩)), qi (.pointer (some ⟨x, 0, none⟩)), qi (.pointer (some ⟨x, 0, none⟩)), qi (.pointer (some ⟨x, 3, none⟩)), qi (.slice aol (l ++ ms.take p0).length capl), qi (.slice (some ⟨g0, o0, none⟩) ms.length capm), qi (.int .i64 ((j : Nat) : Int)), qi (.pointer (some ⟨g0, o0 + j * 295, none⟩)), qi (.agg cs.toArray), qv 0, qv 1, qi (.pointer (some ⟨x, 0, none⟩)), qi (.pointer (some ⟨x, 3, none⟩)), qv 2] ⟨qi_stable, qi_stable, qi_stable, qi_stable, qi_stable, qi_stable, qi_stable, qi_stable, qi_stable, qv_stable, qv_stable, qi_stable, qi_stable, qv_stable, trivial⟩ [9, 10, 13] ⟨?_, ?_, ?_, ?_, ?_, ?_, ?_, ?_, ?_, ?_, ?_, ?_, ?_, ?_, trivial⟩ ?_
        · exact stq (fun E => ex_move rfl (E.v oe0))
        · exact stq (fun E => ex_move rfl (E.v oe0))
        · exact stq (fun E => ex_nil rfl (E.d 1))
        · exact stq (fun E => ex_field rfl Try.underlying82 rfl (by kernel_rfl) (E.d 2))
        · refine stepq_env rfl rfl rfl fun _ _ _ _ _ _ hm0 _ _ hd hub _ => ?_
          have h3 := hd ⟨3, .data⟩ (by simp) rfl _ rfl
          refine qe_run rfl (wanted_none rfl) (ex_load1 rfl Try.underlying76 rfl h3 (Cs.lit1 ((K1.out.mod Cx1.out (fun h => h)).mod hm0 (by intro h2; have hu := hub 2 13 rfl (by kernel_rfl); rcases h2 with ⟨h0, kk, hk, h2⟩ | h2 <;> first | omega | (rcases h2 with ⟨hkk, h2 | h2⟩ | ⟨hkk, h2⟩ <;> first | omega | (have hb := HBQ.out _ h2; omega) | exact HXQ.out h2 | exact HXE.out h2 | exact HX2.out h2))) rfl)) QE.refl ?_
          rfl
        · exact stq (fun E => ex_move rfl (E.v oe1))
        · exact stq (fun E => ex_move rfl (E.v oe6))
        · exact stq (fun E => ex_idxS (i := j) (s := 295) rfl Try.underlying76 (by kernel_rfl) (E.d 5) (E.d 6) (by omega))
        · exact stq (fun E => ex_loadA rfl Try.underlying67 rfl (off := o0 + j * 295) (cs := cs) (by rw [HCL.out]; kernel_rfl) (E.d 7) (fun j u hu => (((HAT.out.mod Cx1.out (fun _ _ h => h)).mod E.m (by intro k h1 h2; rcases h2 with ⟨h0, h2 | h2 | h2⟩ | h2 <;> (first | omega | (have hb := HB2.out k h1; omega) | (have hb := HBQ.out k h2; omega) | exact HQ2.out k h1 h2 | exact HQ2.out k h2 h1 | (have hb := HB2.out k h1; have hb2 := HBQ.out k h2; omega) | exact HXQ.out (h2 ▸ h1) | exact HXQ.out (h1 ▸ h2) | exact HXE.out (h2 ▸ h1) | exact HXE.out (h1 ▸ h2) | exact HX2.out (h2 ▸ h1) | exact HX2.out (h1 ▸ h2))))).2 j u hu))
        · exact stepq_chain rfl
        · exact stepq_chain rfl
        · exact stq (fun E => ex_nil rfl (E.d 0))
        · exact stq (fun E => ex_field rfl Try.underlying82 rfl (by kernel_rfl) (E.d 11))
        · exact stepq_chain rfl
        intro u6_0 hr
        have zu6_0 := hr.size
        have Cx2 := hid (hr.new (S := (fun k => (Q1 k) ∨ (New w wl k) ∨ (k = x))))
        have Hx3 := hid ((K1.out.mod Cx1.out (fun h => h)).mod hr (by intro h2; omega))
        clear K1
        have Hx4 := hid ((K2.out.mod Cx1.out (fun _ _ h => h) (fun _ _ h => h)).mod hr (by intro k h1 h2; rcases h1 with h1 | h1 <;> first | omega | (have hb := HBQ.out k h1; omega) | exact HXQ.out (h2 ▸ h1) | exact HXQ.out (h1 ▸ h2) | exact HXE.out (h2 ▸ h1) | exact HXE.out (h1 ▸ h2) | exact HX2.out (h2 ▸ h1) | exact HX2.out (h1 ▸ h2)) (by intro k h1 h2; rcases h1 with h1 | h1 | h1 <;> first | omega | (have hb := HBE.out k h1; omega) | (have hb := HB2.out k h1; omega) | exact HXQ.out (h2 ▸ h1) | exact HXQ.out (h1 ▸ h2) | exact HXE.out (h2 ▸ h1) | exact HXE.out (h1 ▸ h2) | exact HX2.out (h2 ▸ h1) | exact HX2.out (h1 ▸ h2)))
        clear K2
        clear hr
        refine QChain.go fun Z act E => ?_
        refine qc_buildS (e := 67) (cs := cs) (zc := [.int .i64 0, .int .i64 0, .int .i64 0, .int .i64 0, .int .i64 0, .int .u8 0, .int .u8 0, .int .u8 0, .int .u8 0, .int .u8 0, .int .u8 0, .int .u8 0, .int .u8 0, .int .u8 0, .int .u8 0, .int .u8 0, .int .u8 0, .int .u8 0, .int .u8 0, .int .u8 0, .int .u8 0, .int .u8 0, .int .u8 0, .int .u8 0, .int .u8 0, .int .u8 0, .int .u8 0, .int .u8 0, .int .u8 0, .int .u8 0, .int .u8 0, .int .u8 0, .int .u8 0, .int .u8 0, .int .u8 0, .int .u8 0, .int .u8 0, .int .i64 0, .int .i64 0, .int .i64 0, .int .i64 0, .int .i64 0, .int .i64 0, .int .u8 0, .int .u8 0, .int .u8 0, .int .u8 0, .int .u8 0, .int .u8 0, .int .u8 0, .int .u8 0, .int .u8 0, .int .u8 0, .int .u8 0, .int .u8 0, .int .u8 0, .int .u8 0, .int .u8 0, .int .u8 0, .int .u8 0, .int .u8 0, .int .u8 0, .int .u8 0, .int .u8 0, .int .u8 0, .int .u8 0, .int .u8 0, .int .u8 0, .int .u8 0, .int .u8 0, .int .u8 0, .int .u8 0, .int .u8 0, .int .u8 0, .int .u8 0, .int .u64 0, .int .i64 0, .int .i64 0, .int .i64 0, .int .i64 0, .int .u8 0, .int .u8 0, .int .u8 0, .int .u8 0, .int .u8 0, .int .u8 0, .int .u8 0, .int .u8 0, .int .u8 0, .int .u8 0, .int .u8 0, .int .u8 0, .int .u8 0, .int .u8 0, .int .u8 0, .int .u8 0, .int .u8 0, .int .u8 0, .int .u8 0, .int .u8 0, .int .u8 0, .int .u8 0, .int .u8 0, .int .u8 0, .int .u8 0, .int .u8 0, .int .u8 0, .int .u8 0, .int .u8 0, .int .u8 0, .int .u8 0, .int .u8 0, .int .i64 0, .int .i64 0, .int .i64 0, .slice none 0 0, .int .i64 0, .int .i64 0, .int .i64 0, .int .u8 0, .int .u8 0, .int .u8 0, .int .u8 0, .int .u8 0, .int .u8 0, .int .u8 0, .int .u8 0, .int .u8 0, .int .u8 0, .int .u8 0, .int .u8 0, .int .u8 0, .int .u8 0, .int .u8 0, .int .u8 0, .int .u8 0, .int .u8 0, .int .u8 0, .int .u8 0, .int .u8 0, .int .u8 0, .int .u8 0, .int .u8 0, .int .u8 0, .int .u8 0, .int .u8 0, .int .u8 0, .int .u8 0, .int .u8 0, .int .u8 0, .int .u8 0, .int .u64 0, .int .i64 0, .int .i64 0, .int .i64 0, .int .i64 0, .int .u64 0, .int .i64 0, .int .i64 0, .int .u64 0, .slice none 0 0, .int .i64 0, .int .i64 0, .int .i64 0, .int .i64 0, .int .i64 0, .int .i64 0, .int .i64 0, .int .u64 0, .slice none 0 0, .slice none 0 0, .slice none 0 0, .int .i64 0, .int .i64 0, .int .i64 0, .int .i64 0, .int .i64 0, .int .i64 0, .int .u8 0, .int .u8 0, .int .u8 0, .int .u8 0, .int .u8 0, .int .u8 0, .int .u8 0, .int .u8 0, .int .u8 0, .int .u8 0, .int .u8 0, .int .u8 0, .int .u8 0, .int .u8 0, .int .u8 0, .int .u8 0, .int .u8 0, .int .u8 0, .int .u8 0, .int .u8 0, .int .u8 0, .int .u8 0, .int .u8 0, .int .u8 0, .int .u8 0, .int .u8 0, .int .u8 0, .int .u8 0, .int .u8 0, .int .u8 0, .int .u8 0, .int .u8 0, .int .i64 0, .int .i64 0, .int .i64 0, .int .i64 0, .int .i64 0, .int .u8 0, .int .u8 0, .int .u8 0, .int .u8 0, .int .u8 0, .int .u8 0, .int .u8 0, .int .u8 0, .int .u8 0, .int .u8 0, .int .u8 0, .int .u8 0, .int .u8 0, .int .u8 0, .int .u8 0, .int .u8 0, .int .u8 0, .int .u8 0, .int .u8 0, .int .u8 0, .int .u8 0, .int .u8 0, .int .u8 0, .int .u8 0, .int .u8 0, .int .u8 0, .int .u8 0, .int .u8 0, .int .u8 0, .int .u8 0, .int .u8 0, .int .u8 0, .int .u64 0, .int .i64 0, .slice none 0 0, .int .u8 0, .int .u8 0, .int .u8 0, .int .u8 0, .int .u8 0, .int .u8 0, .int .u8 0, .int .u8 0, .int .u8 0, .int .u8 0, .int .u8 0, .int .u8 0, .int .u8 0, .int .u8 0, .int .u8 0, .int .u8 0, .int .u8 0, .int .u8 0, .int .u8 0, .int .u8 0, .int .u8 0, .int .u8 0, .int .u8 0, .int .u8 0, .int .u8 0, .int .u8 0, .int .u8 0, .int .u8 0, .int .u8 0, .int .u8 0, .int .u8 0, .int .u8 0, .int .i64 0, .int .i64 0, .int .i64 0, .int .i64 0, .string ByteArray.empty, .int .i64 0, .int .i64 0, .int .i64 0, .int .u64 0, .slice none 0 0, .slice none 0 0, .slice none 0 0, .slice none 0 0]) (sz := 295) rfl (wanted_none rfl) rfl Try.underlying76 (by kernel_rfl) rfl (by decide) (by decide) (E.d 8) HCL.out ?_
        intro u6_1a qrow hm
        have zl6_9 := qrow.lt
        have zu6_1a := hm.size
        refine ⟨hm.mono (fun _ _ h => h.elim), (fun _ => rfl), ?_⟩
        intro u6_1 hr
        have zu6_1 := hr.size
        have Hx5 := hid (qrow.mod hr (by intro h2; omega))
        have hmr := Mod.after hm hr
        have Hx6 := hid (Hx3.out.mod hmr (by intro h2; omega))
        have Hx7 := hid (Hx4.out.mod hmr (by intro k h1 h2; rcases h1 with h1 | h1 <;> first | omega | (have hb := HBQ.out k h1; omega) | exact HXQ.out (h2 ▸ h1) | exact HXQ.out (h1 ▸ h2) | exact HXE.out (h2 ▸ h1) | exact HXE.out (h1 ▸ h2) | exact HX2.out (h2 ▸ h1) | exact HX2.out (h1 ▸ h2)) (by intro k h1 h2; rcases h1 with h1 | h1 | h1 <;> first | omega | (have hb := HBE.out k h1; omega) | (have hb := HB2.out k h1; omega) | exact HXQ.out (h2 ▸ h1) | exact HXQ.out (h1 ▸ h2) | exact HXE.out (h2 ▸ h1) | exact HXE.out (h1 ▸ h2) | exact HX2.out (h2 ▸ h1) | exact HX2.out (h1 ▸ h2)))
        clear Hx3 Hx4
        clear hmr
        have Cx8 := hid (Cx2.out.go hm hr)
        clear Cx2 hm hr Z act E qrow
        refine QChain.go fun Z act E => ?_
        refine qc_appS (A := MgR) (e := 67) rfl (wanted_none rfl) rfl (.agg (mg0C 0 0 0).toArray) 960 Try.underlying76 info_Mg (by rfl) (of_decide_eq_true (by kernel_rfl)) (E.d 4) (chv (v := .slice (some ⟨u6_0.heap.size, 0, none⟩) 1 1) (E.d 9)) (Hx7.out) (RdS.single (R := (fun k => (R2 k) ∨ (k = u6_0.heap.size))) Hx5.out (((HRD.out.mod Cx1.out (fun _ _ h => h)).mod Cx8.out (by intro k h1 h2; rcases h2 with h2 | h2 | h2 <;> first | omega | (have hb := HB2.out k h1; omega) | (have hb := HBQ.out k h2; omega) | exact HQ2.out k h1 h2 | exact HQ2.out k h2 h1 | (have hb := HB2.out k h1; have hb2 := HBQ.out k h2; omega) | exact HXQ.out (h2 ▸ h1) | exact HXQ.out (h1 ▸ h2) | exact HXE.out (h2 ▸ h1) | exact HXE.out (h1 ▸ h2) | exact HX2.out (h2 ▸ h1) | exact HX2.out (h1 ▸ h2))).widen (fun k h => Or.inl h)) (by right; rfl)) (by intro k h1 h2; rcases h1 with h1 | h1 <;> rcases h2 with h2 | h2 <;> first | omega | (have hb := HB2.out k h1; omega) | (have hb := HBQ.out k h2; omega) | exact HQ2.out k h1 h2 | exact HQ2.out k h2 h1 | (have hb := HB2.out k h1; have hb2 := HBQ.out k h2; omega) | exact HXQ.out (h2 ▸ h1) | exact HXQ.out (h1 ▸ h2) | exact HXE.out (h2 ▸ h1) | exact HXE.out (h1 ▸ h2) | exact HX2.out (h2 ▸ h1) | exact HX2.out (h1 ▸ h2)) (by simp only [List.length_cons, List.length_nil]; omega) (by rw [maxLen_val]; simp only [List.length_cons, List.length_nil]; omega) ?_
        intro ao5 cap5 u6_2a ql hm
        have zu6_2a := hm.size
        refine ⟨hm.mono (by intro k hk h; rcases h with h | h <;> first | omega | exact Or.inl ⟨(by have hb := HBQ.out k h; omega), Or.inl ⟨rfl, Or.inl h⟩⟩), (fun _ => rfl), ?_⟩
        intro u6_2 hr
        have zu6_2 := hr.size
        have Hx9 := hid ((ql.widen (R' := (fun k => (Q1 k) ∨ (New w wl k) ∨ (New u6_1 u6_2a k))) (E' := (fun k => (Eb k) ∨ (R2 k) ∨ (New w wl k) ∨ (k = u6_0.heap.size))) (by intro k h1; simp only [or_assoc] at h1 ⊢; exact h1) (by intro k h; (try dsimp only at h ⊢); rcases h with (h | h | h) | (h | h) <;> first | exact Or.inl h | exact Or.inr (Or.inl h) | exact Or.inr (Or.inr (Or.inl h)) | exact Or.inr (Or.inr (Or.inr h)) | omega)).mod hr (by intro k h1 h2; rcases h1 with h1 | h1 | h1 <;> first | omega | (have hb := HBQ.out k h1; omega) | exact HXQ.out (h2 ▸ h1) | exact HXQ.out (h1 ▸ h2) | exact HXE.out (h2 ▸ h1) | exact HXE.out (h1 ▸ h2) | exact HX2.out (h2 ▸ h1) | exact HX2.out (h1 ▸ h2)) (by intro k h1 h2; rcases h1 with h1 | h1 | h1 | h1 <;> first | omega | (have hb := HBE.out k h1; omega) | (have hb := HB2.out k h1; omega) | exact HXQ.out (h2 ▸ h1) | exact HXQ.out (h1 ▸ h2) | exact HXE.out (h2 ▸ h1) | exact HXE.out (h1 ▸ h2) | exact HX2.out (h2 ▸ h1) | exact HX2.out (h1 ▸ h2)))
        have hmr := hm.two hr
        have Hx10 := hid (Hx6.out.mod hmr (by intro h2; rcases h2 with (h2 | h2) | h2 <;> first | omega | (have hb := HBQ.out _ h2; omega) | exact HXQ.out h2 | exact HXE.out h2 | exact HX2.out h2))
        have Hx11 := hid (Hx5.out.mod hmr (by intro h2; rcases h2 with (h2 | h2) | h2 <;> first | omega | (have hb := HBQ.out _ h2; omega) | exact HXQ.out h2 | exact HXE.out h2 | exact HX2.out h2))
        clear Hx6 Hx5
        clear hmr
        have Cx12 := hid (Cx8.out.goM hm hr (by intro k h0 h2; rcases h2 with h2 | h2 <;> first | omega | exact Or.inl h2 | exact Or.inr (Or.inl h2) | exact Or.inr (Or.inr (h2))))
        clear Cx8 hm hr Z act E ql Hx7
        refine QChain.go fun Z act E => ?_
        refine qc_store rfl (wanted_none rfl) rfl Hx10.out (off := 3) (vs := [Value.slice ao5 ((l ++ ms.take p0).length + 1) cap5]) (by kernel_rfl) one1 (by simp) (E.d 12) (ec (chv (v := .slice ao5 ((l ++ ms.take p0).length + 1) cap5) (E.d 10))) ?_
        intro u6_3a qc0 hm
        have qnt := qc0.eqv (b := #[.int .i64 mo, .int .i64 (sn + ((p0 : Nat) : Int)), .int .i64 (lo + ((j : Nat) : Int) - ((p0 : Nat) : Int)), Value.slice ao5 ((l ++ ms.take p0).length + 1) cap5]) rfl
        clear qc0
        have zu6_3a := hm.size
        refine ⟨hm.mono (by intro k hk h; omega), (fun _ => rfl), ?_⟩
        intro u6_3 hr
        have zu6_3 := hr.size
        have Hx13 := hid (qnt.mod hr (by intro h2; omega))
        have hmr := hm.two hr
        have Hx14 := hid (Hx9.out.mod hmr (by intro k h1 h2; rcases h1 with h1 | h1 | h1 <;> rcases h2 with h2 | h2 <;> first | omega | (have hb := HBQ.out k h1; omega) | exact HXQ.out (h2 ▸ h1) | exact HXQ.out (h1 ▸ h2) | exact HXE.out (h2 ▸ h1) | exact HXE.out (h1 ▸ h2) | exact HX2.out (h2 ▸ h1) | exact HX2.out (h1 ▸ h2)) (by intro k h1 h2; rcases h1 with h1 | h1 | h1 | h1 <;> rcases h2 with h2 | h2 <;> first | omega | (have hb := HBE.out k h1; omega) | (have hb := HB2.out k h1; omega) | exact HXQ.out (h2 ▸ h1) | exact HXQ.out (h1 ▸ h2) | exact HXE.out (h2 ▸ h1) | exact HXE.out (h1 ▸ h2) | exact HX2.out (h2 ▸ h1) | exact HX2.out (h1 ▸ h2)))
        have Hx15 := hid (Hx11.out.mod hmr (by intro h2; omega))
        clear Hx9 Hx11
        clear hmr
        have Cx16 := hid (Cx12.out.goM hm hr (by intro k h0 h2; first | omega | exact Or.inl h2 | exact Or.inr (Or.inl h2) | exact Or.inr (Or.inr (h2))))
        clear Cx12 hm hr Z act E qnt Hx10
        refine QChain.nil fun vs hl hzz hrows hne => ?_
        obtain ⟨Z, hYZ, hZb, hV⟩ := hzz
        have f0 := fvi hV hl 0
        have f1 := fvi hV hl 1
        have f5 := fvi hV hl 5
        have f6 := fvi hV hl 6
        have f9 := fvc hV hl 9
        have f10 := fvc hV hl 10
        rw [show vs = [gw vs 0, gw vs 1, gw vs 2, gw vs 3, gw vs 4, gw vs 5, gw vs 6, gw vs 7, gw vs 8, gw vs 9, gw vs 10, gw vs 11, gw vs 12, gw vs 13] from (gw_eta hl).trans rfl]
        have ha0 := HA0.out
        subst ha0
        clear HA0 hV hYZ hZb hsz0 hrows hne oe0 oe1 oe6
        simp only [putAll, Act.put, sIB, sCZ, sCS, List.set_nil, f0, f1, f5, f6, f9, f10]
        clear hl f0 f1 f5 f6 f9 f10
        clear HAT
        go_upto_region 7 with (fail)
        refine wp_region_U 53 [35, 36, 37, 38, 39, 40, 41, 60] [0, 1, 2, 3, 4, 5, 6, 7] (fun a0 HA0 => ?_)
        have oe0 := ev HA0 0 rfl
        refine QSeq.pure rfl _ (fun E => ex_move rfl (E.v oe0)) ?_
        refine QSeq.pure rfl (.pointer (some ⟨x, 0, none⟩)) (fun E => ex_nil rfl (E.d 0 0)) ?_
        refine QSeq.pure rfl (.pointer (some ⟨x, 1, none⟩)) (fun E => ex_field rfl Try.underlying82 rfl (by kernel_rfl) (E.d 1 0)) ?_
        refine QSeq.pure rfl _ (fun E => ex_load1 rfl Try.underlying3 rfl (E.d 2 0) (Cs.lit1 Hx13.out rfl)) ?_
        refine QSeq.pure rfl (.int .i64 (sn + ((p0 + 1 : Nat) : Int))) (fun E => ex_binE rfl (E.d 3 0) rfl (guard_ints _ _ _ _ _ _) (run_add_i _ _ Try.underlying3) (congrArg (Value.int .i64) (i64_eq (b := sn + ((p0 + 1 : Nat) : Int)) (by omega) (by omega) (by omega)))) ?_
        refine QSeq.pure rfl (.pointer (some ⟨x, 0, none⟩)) (fun E => ex_nil rfl (E.d 0 4)) ?_
        refine QSeq.pure rfl (.pointer (some ⟨x, 1, none⟩)) (fun E => ex_field rfl Try.underlying82 rfl (by kernel_rfl) (E.d 5 0)) ?_
        refine QSeq.go fun act E => ?_
        refine qc_store rfl (wanted_none rfl) rfl Hx13.out (off := 1) (vs := [Value.int .i64 (sn + ((p0 + 1 : Nat) : Int))]) (by kernel_rfl) one1 (by simp) (E.d 6 0) (ec (E.d 4 2)) ?_
        intro u7_7 qc0 hm
        have qnt := qc0.eqv (b := #[.int .i64 mo, .int .i64 (sn + ((p0 + 1 : Nat) : Int)), .int .i64 (lo + ((j : Nat) : Int) - ((p0 : Nat) : Int)), Value.slice ao5 ((l ++ ms.take p0).length + 1) cap5]) rfl
        clear qc0
        have Hx17 := hid qnt
        have zu7_7 := hm.size
        have Cx18 := hid (show Mod (fun k => (k = x)) u6_3 u7_7 from hm)
        clear hm
        clear act E qnt Hx13
        refine QSeq.nil (t' := [_, _, _, _, _, _, _, _]) rfl ?_
        obtain rfl := HA0.out
        clear HA0 oe0
        simp only [pz, Act.put, sIB, sCZ, sCS, List.set_nil]
        go_upto_region 8 with (fail)
        refine wp_region_U 53 [42, 43, 5] [0, 1, 2] (fun a0 HA0 => ?_)
        have oe5 := ev HA0 5 rfl
        refine QSeq.pure rfl _ (fun E => ex_move rfl (E.y 2 oe5)) ?_
        refine QSeq.pure rfl (.int .i64 ((p0 + 1 : Nat) : Int)) (fun E => ex_binE rfl (E.d 0 0) rfl (guard_ints _ _ _ _ _ _) (run_add_i _ _ Try.underlying3) (congrArg (Value.int .i64) (i64_eq (b := ((p0 + 1 : Nat) : Int)) (by omega) (by omega) (by omega)))) ?_
        refine QSeq.pure rfl _ (fun E => ex_assign rfl (E.d 1 0)) ?_
        refine QSeq.nil (t' := [_, _, _]) rfl ?_
        obtain rfl := HA0.out
        clear HA0 oe5
        simp only [pz, Act.put, sIB, sCZ, sCS]
        go_upto_region 10 with (fail)
        refine wp_region_U 53 [51, 9] [0, 1] (fun a0 HA0 => ?_)
        have oe9 := ev HA0 9 rfl
        refine QSeq.pure rfl (.int .i64 ((j + 1 : Nat) : Int)) (fun E => ex_binE rfl (E.y 1 oe9) rfl (guard_ints _ _ _ _ _ _) (run_add_i _ _ Try.underlying3) (congrArg (Value.int .i64) (i64_eq (b := ((j + 1 : Nat) : Int)) (by omega) (by omega) (by omega)))) ?_
        refine QSeq.pure rfl _ (fun E => ex_move rfl (E.d 0 0)) ?_
        refine QSeq.nil (t' := [_, _]) rfl ?_
        obtain rfl := HA0.out
        clear HA0 oe9
        simp only [pz, Act.put, sIB, sCZ, sCS]
        go_wp2
        go_roundw
        case rel => exact ⟨j + 1, p0 + 1, _, rfl, by go_num, by omega, by omega, by omega, (by have h := Hx17.out; rw [show lo + ((j : Nat) : Int) - ((p0 : Nat) : Int) = lo + ((j + 1 : Nat) : Int) - ((p0 + 1 : Nat) : Int) by omega] at h; exact h), (by rw [show l ++ ms.take (p0 + 1) = (l ++ ms.take p0) ++ [m] from (by subst hpj; rw [List.take_succ_eq_append_getElem hlt, HMM.out, List.append_assoc])]; exact ((Hx14.out.mod Cx18.out (by intro k h1 h2; rcases h1 with h1 | h1 | h1 <;> first | omega | (have hb := HBQ.out k h1; omega) | exact HXQ.out (h2 ▸ h1) | exact HXQ.out (h1 ▸ h2) | exact HXE.out (h2 ▸ h1) | exact HXE.out (h1 ▸ h2) | exact HX2.out (h2 ▸ h1) | exact HX2.out (h1 ▸ h2)) (by intro k h1 h2; rcases h1 with h1 | h1 | h1 | h1 <;> first | omega | (have hb := HBE.out k h1; omega) | (have hb := HB2.out k h1; omega) | exact HXQ.out (h2 ▸ h1) | exact HXQ.out (h1 ▸ h2) | exact HXE.out (h2 ▸ h1) | exact HXE.out (h1 ▸ h2) | exact HX2.out (h2 ▸ h1) | exact HX2.out (h1 ▸ h2)))).widen (R' := fun k => Q1 k ∨ New w u7_7 k) (E' := fun k => Eb k ∨ R2 k ∨ New w u7_7 k) (by intro k h1; rcases h1 with h1 | h1 | h1 <;> first | exact Or.inl h1 | exact Or.inr (by unfold New; omega)) (by intro k h1; rcases h1 with h1 | h1 | h1 | h1 <;> first | exact Or.inl h1 | exact Or.inr (Or.inl h1) | exact Or.inr (Or.inr (by unfold New; omega)))), (((K3.out.mod Cx1.out (fun _ _ h => h)).mod Cx16.out (by intro k h1 h2; rcases h2 with h2 | h2 | h2 <;> first | omega | (have hb := HB2.out k h1; omega) | (have hb := HBQ.out k h2; omega) | exact HQ2.out k h1 h2 | exact HQ2.out k h2 h1 | (have hb := HB2.out k h1; have hb2 := HBQ.out k h2; omega) | exact HXQ.out (h2 ▸ h1) | exact HXQ.out (h1 ▸ h2) | exact HXE.out (h2 ▸ h1) | exact HXE.out (h1 ▸ h2) | exact HX2.out (h2 ▸ h1) | exact HX2.out (h1 ▸ h2))).mod Cx18.out (by intro k h1 h2; first | omega | (have hb := HB2.out k h1; omega) | exact HXQ.out (h2 ▸ h1) | exact HXQ.out (h1 ▸ h2) | exact HXE.out (h2 ▸ h1) | exact HXE.out (h1 ▸ h2) | exact HX2.out (h2 ▸ h1) | exact HX2.out (h1 ▸ h2))), (((K4.out.trans Cx1.out (fun _ _ h => h.elim)).trans Cx16.out (by intro k h1 h2; rcases h2 with h2 | h2 | h2 <;> first | exact h2 | omega | exact Or.inl h2 | exact Or.inr h2 | exact Or.inr (Or.inl h2) | exact Or.inr (Or.inr h2) | (have hb := HBQ.out k h2; omega))).trans Cx18.out (by intro k h1 h2; first | exact h2 | omega | exact Or.inl h2 | exact Or.inr h2 | exact Or.inr (Or.inl h2) | exact Or.inr (Or.inr h2)))⟩
        case measure => simp [intOf]; omega
      · skip
        go_upto_region 5 with (fail)
        generalize ha0 : Act.mk _ _ = a0
        have oe0 : a0.eval (.tmp 0) = .pointer (some ⟨x, 0, none⟩) := by rw [← ha0]; rfl
        have hsz0 : a0.tmps.size = 53 := by rw [← ha0]; rfl
        have HA0 := hid ha0
        clear ha0
        refine wp_region_Q0 53 hsz0 [12, 13, 14, 15, 16, 17, 18, 19, 20, 21] [qi (.pointer (some ⟨x, 0, none⟩)), qi (.pointer (some ⟨x, 0, none⟩)), qi (.pointer (some ⟨x, 3, none⟩)), qi (.slice aol (l ++ ms.take p0).length capl), qi (.int .i64 ((l.length + p0 : Nat) : Int)), qi (.pointer (some ⟨x, 0, none⟩)), qi (.pointer (some ⟨x, 0, none⟩)), qi (.pointer (some ⟨x, 0, none⟩)), qi (.int .i64 mo), qi (.bool false)] ⟨qi_stable, qi_stable, qi_stable, qi_stable, qi_stable, qi_stable, qi_stable, qi_stable, qi_stable, qi_stable, trivial⟩ [] ⟨?_, ?_, ?_, ?_, ?_, ?_, ?_, ?_, ?_, ?_, trivial⟩ ?_
        · exact stq (fun E => ex_move rfl (E.v oe0))
        · exact stq (fun E => ex_nil rfl (E.d 0))
        · exact stq (fun E => ex_field rfl Try.underlying82 rfl (by kernel_rfl) (E.d 1))
        · exact stq (fun E => ex_load1 rfl Try.underlying76 rfl (E.d 2) (Cs.lit1 (K1.out.mod E.m.old (by intro h2; omega)) rfl))
        · exact stq (fun E => ex_lenS rfl ((E.d 3).trans (show Value.slice aol (l ++ ms.take p0).length capl = .slice aol (l.length + p0) capl from by rw [hll])) Try.underlying76)
        · exact stq (fun E => ex_move rfl (E.v oe0))
        · exact stq (fun E => ex_nil rfl (E.d 5))
        · exact stq (fun E => ex_field rfl Try.underlying82 rfl (by kernel_rfl) (E.d 6))
        · exact stq (fun E => ex_load1 rfl Try.underlying3 rfl (E.d 7) (Cs.lit1 (K1.out.mod E.m.old (by intro h2; omega)) rfl))
        · exact stq (fun E => ex_binE rfl (E.d 4) (E.d 8) (guard_ints _ _ _ _ _ _) (run_lss_i _ _ _ Try.underlying3) (congrArg Value.bool (decide_eq_false (by omega))))
        intro u5_0 hr
        have zu5_0 := hr.size
        have Cx19 := hid (hr.new (S := (fun _ => False)))
        clear hr
        refine QChain.nil fun vs hl hzz hrows hne => ?_
        obtain ⟨Z, hYZ, hZb, hV⟩ := hzz
        have f0 := fvi hV hl 0
        have f4 := fvi hV hl 4
        have f5 := fvi hV hl 5
        have f9 := fvi hV hl 9
        rw [show vs = [gw vs 0, gw vs 1, gw vs 2, gw vs 3, gw vs 4, gw vs 5, gw vs 6, gw vs 7, gw vs 8, gw vs 9] from (gw_eta hl).trans rfl]
        have ha0 := HA0.out
        subst ha0
        clear HA0 hV hYZ hZb hsz0 hrows hne oe0
        simp only [putAll, Act.put, sIB, sCZ, sCS, f0, f4, f5, f9]
        clear hl f0 f4 f5 f9
        go_upto_region 9 with (fail)
        refine wp_region_U 53 [44, 45, 46, 47, 48, 49, 50, 60] [0, 1, 2, 3, 4, 5, 6, 7] (fun a0 HA0 => ?_)
        have oe0 := ev HA0 0 rfl
        refine QSeq.pure rfl _ (fun E => ex_move rfl (E.v oe0)) ?_
        refine QSeq.pure rfl (.pointer (some ⟨x, 0, none⟩)) (fun E => ex_nil rfl (E.d 0 0)) ?_
        refine QSeq.pure rfl (.pointer (some ⟨x, 2, none⟩)) (fun E => ex_field rfl Try.underlying82 rfl (by kernel_rfl) (E.d 1 0)) ?_
        refine QSeq.pure rfl _ (fun E => ex_load1 rfl Try.underlying3 rfl (E.d 2 0) (Cs.lit1 (K1.out.mod Cx19.out (fun h => h)) rfl)) ?_
        refine QSeq.pure rfl (.int .i64 (lo + ((j + 1 : Nat) : Int) - ((p0 : Nat) : Int))) (fun E => ex_binE rfl (E.d 3 0) rfl (guard_ints _ _ _ _ _ _) (run_add_i _ _ Try.underlying3) (congrArg (Value.int .i64) (i64_eq (b := lo + ((j + 1 : Nat) : Int) - ((p0 : Nat) : Int)) (by omega) (by omega) (by omega)))) ?_
        refine QSeq.pure rfl (.pointer (some ⟨x, 0, none⟩)) (fun E => ex_nil rfl (E.d 0 4)) ?_
        refine QSeq.pure rfl (.pointer (some ⟨x, 2, none⟩)) (fun E => ex_field rfl Try.underlying82 rfl (by kernel_rfl) (E.d 5 0)) ?_
        refine QSeq.go fun act E => ?_
        refine qc_store rfl (wanted_none rfl) rfl (K1.out.mod Cx19.out (fun h => h)) (off := 2) (vs := [Value.int .i64 (lo + ((j + 1 : Nat) : Int) - ((p0 : Nat) : Int))]) (by kernel_rfl) one1 (by simp) (E.d 6 0) (ec (E.d 4 2)) ?_
        intro u9_7 qc0 hm
        have qnt := qc0.eqv (b := #[.int .i64 mo, .int .i64 (sn + ((p0 : Nat) : Int)), .int .i64 (lo + ((j + 1 : Nat) : Int) - ((p0 : Nat) : Int)), Value.slice aol (l ++ ms.take p0).length capl]) rfl
        clear qc0
        have Hx20 := hid qnt
        have zu9_7 := hm.size
        have Cx21 := hid (show Mod (fun k => (k = x)) u5_0 u9_7 from hm)
        clear hm
        clear act E qnt K1
        refine QSeq.nil (t' := [_, _, _, _, _, _, _, _]) rfl ?_
        obtain rfl := HA0.out
        clear HA0 oe0
        simp only [pz, Act.put, sIB, sCZ, sCS, List.set_nil]
        go_upto_region 10 with (fail)
        refine wp_region_U 53 [51, 9] [0, 1] (fun a0 HA0 => ?_)
        have oe9 := ev HA0 9 rfl
        refine QSeq.pure rfl (.int .i64 ((j + 1 : Nat) : Int)) (fun E => ex_binE rfl (E.y 1 oe9) rfl (guard_ints _ _ _ _ _ _) (run_add_i _ _ Try.underlying3) (congrArg (Value.int .i64) (i64_eq (b := ((j + 1 : Nat) : Int)) (by omega) (by omega) (by omega)))) ?_
        refine QSeq.pure rfl _ (fun E => ex_move rfl (E.d 0 0)) ?_
        refine QSeq.nil (t' := [_, _]) rfl ?_
        obtain rfl := HA0.out
        clear HA0 oe9
        simp only [pz, Act.put, sIB, sCZ, sCS]
        go_wp2
        go_roundw
        case rel => exact ⟨j + 1, p0, _, rfl, by go_num, by omega, by omega, by omega, Hx20.out, (((K2.out.mod Cx19.out (fun _ _ h => h) (fun _ _ h => h)).mod Cx21.out (by intro k h1 h2; rcases h1 with h1 | h1 <;> first | omega | (have hb := HBQ.out k h1; omega) | exact HXQ.out (h2 ▸ h1) | exact HXQ.out (h1 ▸ h2) | exact HXE.out (h2 ▸ h1) | exact HXE.out (h1 ▸ h2) | exact HX2.out (h2 ▸ h1) | exact HX2.out (h1 ▸ h2)) (by intro k h1 h2; rcases h1 with h1 | h1 | h1 <;> first | omega | (have hb := HBE.out k h1; omega) | (have hb := HB2.out k h1; omega) | exact HXQ.out (h2 ▸ h1) | exact HXQ.out (h1 ▸ h2) | exact HXE.out (h2 ▸ h1) | exact HXE.out (h1 ▸ h2) | exact HX2.out (h2 ▸ h1) | exact HX2.out (h1 ▸ h2)))).widen (R' := fun k => Q1 k ∨ New w u9_7 k) (E' := fun k => Eb k ∨ R2 k ∨ New w u9_7 k) (by intro k h1; rcases h1 with h1 | h1 <;> first | exact Or.inl h1 | exact Or.inr (by unfold New; omega)) (by intro k h1; rcases h1 with h1 | h1 | h1 <;> first | exact Or.inl h1 | exact Or.inr (Or.inl h1) | exact Or.inr (Or.inr (by unfold New; omega))), ((K3.out.mod Cx19.out (fun _ _ h => h)).mod Cx21.out (by intro k h1 h2; first | omega | (have hb := HB2.out k h1; omega) | exact HXQ.out (h2 ▸ h1) | exact HXQ.out (h1 ▸ h2) | exact HXE.out (h2 ▸ h1) | exact HXE.out (h1 ▸ h2) | exact HX2.out (h2 ▸ h1) | exact HX2.out (h1 ▸ h2))), ((K4.out.trans Cx19.out (fun _ _ h => h.elim)).trans Cx21.out (by intro k h1 h2; first | exact h2 | omega | exact Or.inl h2 | exact Or.inr h2 | exact Or.inr (Or.inl h2) | exact Or.inr (Or.inr h2)))⟩
        case measure => simp [intOf]; omega
    · obtain rfl : ms.length = j := by omega
      go_upto_region 3 with (fail)
      refine wp_region_U 53 [10] [0] (fun a0 HA0 => ?_)
      have oe8 := ev HA0 8 rfl
      have oe9 := ev HA0 9 rfl
      refine QSeq.pure rfl (.bool false) (fun E => ex_binE rfl (E.v oe9) (E.v oe8) (guard_ints _ _ _ _ _ _) (run_lss_i _ _ _ Try.underlying3) (congrArg Value.bool (decide_eq_false (by omega)))) ?_
      refine QSeq.nil (t' := [_]) rfl ?_
      obtain rfl := HA0.out
      clear HA0 oe8 oe9
      simp only [pz, Act.put, sIB, sCZ, sCS]
      go_upto_region 11 with (fail)
      refine wp_region_U 53 [52, 4] [0, 1] (fun a0 HA0 => ?_)
      have oe5 := ev HA0 5 rfl
      refine QSeq.pure rfl _ (fun E => ex_move rfl (E.v oe5)) ?_
      refine QSeq.pure rfl _ (fun E => ex_assign rfl (E.d 0 0)) ?_
      refine QSeq.nil (t' := [_, _]) rfl ?_
      obtain rfl := HA0.out
      clear HA0 oe5
      simp only [pz, Act.put, sIB, sCZ, sCS]
      obtain rfl : p0 = p := by omega
      go_wp2
      go_ret
      exact ⟨.slice aol (l ++ ms.take p0).length capl, rfl, ⟨K1.out, (fun k hk => by rcases hk with hk | hk | hk; (have hb := HBE.out k hk; omega); (have hb := HB2.out k hk; omega); exact hk.2), (fun hk => by rcases hk with hk | hk | hk; exact HXE.out hk; exact HX2.out hk; (have := hk.1; omega)), (fun hk => by have hk := (K2.out).blk _ hk; rcases hk with hk | hk <;> first | exact HXQ.out hk | omega), ((K2.out).widen (R' := (fun k => (Q1 k) ∨ (New w wl k))) (E' := fun k => Eb k ∨ R2 k ∨ New w wl k) (fun _ h => h) (by intro k hk; rcases hk with hk | hk | hk <;> first | exact Or.inl hk | exact Or.inr (Or.inl hk) | exact Or.inr (Or.inr (by unfold New; omega)))).own⟩, (fun k hk => by have hk := (K2.out).blk _ hk; rcases hk with hk | hk <;> first | exact Or.inl ((HQ1.out _).1 hk) | exact Or.inr (by unfold New; omega)), (K4.out.mono (fun k _ hk => by rcases hk with hk | hk; exact Or.inl hk; exact Or.inr ((HQ1.out k).1 hk)))⟩
end Go.Proofs.Ytekbmpjdombedaa

/- slices.Clone over messages; net.Net.Clone. -/
namespace Go.Proofs.Ytekbmpjdombedaa
open Go Go.RowKit Go.Gv

set_option maxHeartbeats 4000000 in
theorem SClone_Q {Eb : Nat → Prop} {w : World} {v : Value} {l : List Mg} (h : OwS MgR 67 (fun k => v.ownBlock = some k) Eb w v l) (hb : ∀ k, Eb k → k < w.heap.size) (hl : l.length ≤ 4096) : Calls Try.prog 33 #[v] w fun e w' => ∃ v', e = .returned v' ∧
    OwS MgR 67 (fun k => New w w' k) (fun k => Eb k ∧ v.ownBlock ≠ some k) w' v' l ∧ Mod (fun _ => False) w w' := by
  obtain ⟨Q1, hQ1, ho⟩ : ∃ Q : Nat → Prop, (∀ k, Q k ↔ v.ownBlock = some k) ∧ OwS MgR 67 Q Eb w v l := ⟨_, fun _ => Iff.rfl, h⟩
  have hbq : ∀ k, Q1 k → k < w.heap.size := fun k hk => h.lt ((hQ1 k).1 hk)
  obtain ⟨ao, cap, rfl⟩ := ho.shape
  obtain ⟨Q3, hQ3⟩ : ∃ Q : Nat → Prop, ∀ k, Q k ↔ (Eb k ∧ (Value.slice ao l.length cap).ownBlock ≠ some k) := ⟨_, fun _ => Iff.rfl⟩
  have HQ3 := Lib.hid hQ3
  have HB3 := hid (show ∀ k, Q3 k → k < w.heap.size from fun k hk => hb k ((hQ3 k).1 hk).1)
  clear hQ3
  have HOL := Lib.hid ho
  have HQ1 := Lib.hid hQ1
  have HBQ := Lib.hid hbq
  have HBE := Lib.hid hb
  clear ho h hb hbq hQ1
  go_enter Try.func33, Try.ntmps33
  go_upto_region 1 with (fail)
  have HM0 := hid (Mod.refl (fun _ => False) w)
  cases ao with
  | none =>
    go_upto_region 1 with (fail)
    refine wp_region_U 8 [3, 4] [0, 1] (fun a0 HA0 => ?_)
    have oe0 := ev HA0 0 rfl
    refine QSeq.pure rfl _ (fun E => ex_move rfl (E.v oe0)) ?_
    refine QSeq.pure rfl (.bool true) (fun E => ex_binE rfl (E.d 0 0) rfl (guard_sl _) (run_eql_sl _ _ _ _ Try.underlying76) rfl) ?_
    refine QSeq.nil (t' := [_, _]) rfl ?_
    obtain rfl := HA0.out
    clear HA0 oe0
    simp only [pz, Act.put, sIB, sCZ, sCS]
    go_upto_region 2 with (fail)
    refine wp_region_U 8 [2] [0] (fun a0 HA0 => ?_)
    refine QSeq.pure rfl (.slice none 0 0) (fun E => ex_assign rfl rfl) ?_
    refine QSeq.nil (t' := [_]) rfl ?_
    obtain rfl := HA0.out
    clear HA0
    simp only [pz, Act.put, sIB, sCZ, sCS]
    have hcb := OwS.capBd2 HOL.out
    have hnil : l = [] := by obtain ⟨css, h1, h2, ⟨h3, h4, h5⟩, h6⟩ := HOL.out; rcases h5 with ⟨h5, h7⟩ | ⟨g, c, cu, h5, _⟩; exact List.eq_nil_of_length_eq_zero h7; cases h5
    subst hnil
    go_wp2
    go_ret
    exact ⟨_, rfl, OwS.nil _ _ _ _ _, HM0.out⟩
  | some g =>
    go_upto_region 1 with (fail)
    refine wp_region_U 8 [3, 4] [0, 1] (fun a0 HA0 => ?_)
    have oe0 := ev HA0 0 rfl
    refine QSeq.pure rfl _ (fun E => ex_move rfl (E.v oe0)) ?_
    refine QSeq.pure rfl (.bool false) (fun E => ex_binE rfl (E.d 0 0) rfl (guard_sl _) (run_eql_sl _ _ _ _ Try.underlying76) rfl) ?_
    refine QSeq.nil (t' := [_, _]) rfl ?_
    obtain rfl := HA0.out
    clear HA0 oe0
    simp only [pz, Act.put, sIB, sCZ, sCS]
    go_upto_region 3 with (fail)
    refine wp_region_U 8 [5, 6, 7, 2] [0, 1, 2, 3] (fun a0 HA0 => ?_)
    have oe0 := ev HA0 0 rfl
    refine QSeq.go fun act E => ?_
    refine qc_build0 (sz := 295) rfl (wanted_none rfl) rfl Try.underlying76 (by kernel_rfl) ?_
    intro u3_0 qc0 hm
    have zl0 := qc0.lt
    have qnl := OwS.bare (A := MgR) (E := fun _ => False) qc0
    clear qc0
    have Hx1 := hid qnl
    have zu3_0 := hm.size
    have Cx2 := hid (show Mod (fun _ => False) w u3_0 from hm)
    clear hm
    clear act E qnl
    refine QSeq.pure rfl _ (fun E => ex_move rfl (E.v oe0)) ?_
    refine QSeq.go fun act E => ?_
    refine qc_appT (A := MgR) (e := 67) (E2 := (fun k => (Q3 k))) rfl (wanted_none rfl) rfl (.agg (mg0C 0 0 0).toArray) 960 Try.underlying76 info_Mg (by rfl) (of_decide_eq_true (by kernel_rfl)) (E.d 0 1) (E.d 1 0) (Hx1.out) ((HOL.out.mod Cx2.out (fun _ _ h => h) (fun _ _ h => h)).rdT.widen (fun k h => (HQ3.out k).2 h)) (by intro k h1 h2; have h3 := (Hx1.out).blk _ h2; skip; have hb := HB3.out k h1; omega) (by simp only [List.nil_append, List.length_take, List.length_drop, List.length_nil]; omega) (by rw [maxLen_val]; simp only [List.nil_append, List.length_take, List.length_drop, List.length_nil]; omega) ?_
    intro ao1 cap1 u3_2 qnl hm
    have Hx3 := hid (qnl.widen (R' := (fun k => (k = w.heap.size) ∨ (New u3_0 u3_2 k))) (E' := (fun k => (Q3 k))) (fun _ h => h) (by intro k h; (try simp only [false_or, or_self] at h); (try dsimp only at h ⊢); first | exact h | exact h.elim id id | (rcases h with h | h <;> first | exact h.elim | exact h)))
    have zu3_2 := hm.size
    have HMu3_2 := hid hm
    have Cx4 := hid (Mod.goS (S' := (fun _ => False)) Cx2.out hm (fun _ h => h) (by intro k h0 h2; omega))
    clear hm Cx2
    clear act E qnl Hx1
    refine QSeq.pure rfl _ (fun E => ex_assign rfl (E.d 2 0)) ?_
    clear HMu3_2
    refine QSeq.nil (t' := [_, _, _, _]) rfl ?_
    obtain rfl := HA0.out
    clear HA0 oe0
    simp only [pz, Act.put, sIB, sCZ, sCS]
    have hq := Hx3.out
    rw [List.nil_append] at hq
    have HQN := Lib.hid hq
    clear hq
    go_wp2
    go_ret
    exact ⟨_, rfl, HQN.out.widen (R' := fun k => New w u3_2 k) (by intro k h1; rcases h1 with h1 | h1 <;> (unfold New; omega)) (fun k h1 => (HQ3.out k).1 h1), (HM0.out.trans Cx4.out (fun _ _ h => h.elim))⟩
set_option maxHeartbeats 4000000 in
theorem NClone_Q {Eb : Nat → Prop} {w : World} {x : Nat} {v : Value} {mo sn lo : Int} {l : List Mg} (h : NtV Eb w x v mo l sn lo) (hl : l.length ≤ 4096) : Calls Try.prog 19 #[.pointer (some ⟨x, 0, none⟩)] w fun e w' => ∃ y v2, e = .returned (.pointer (some ⟨y, 0, none⟩)) ∧ NtV (fun k => Eb k ∧ v.ownBlock ≠ some k) w' y v2 mo l sn lo ∧ New w w' y ∧
    (∀ k, v2.ownBlock = some k → New w w' k) ∧ Mod (fun _ => False) w w' := by
  have hb := h.bd
  have hcl0 := h.ow
  obtain ⟨hc, hbE, hxE, hvx, ho0⟩ := h
  obtain ⟨Q1, hQ1, ho⟩ : ∃ Q : Nat → Prop, (∀ k, Q k ↔ v.ownBlock = some k) ∧ OwS MgR 67 Q Eb w v l := ⟨_, fun _ => Iff.rfl, ho0⟩
  have hbq : ∀ k, Q1 k → k < w.heap.size := fun k hk => ho0.lt ((hQ1 k).1 hk)
  have hxq : ¬ Q1 x := fun hk => hvx ((hQ1 x).1 hk)
  obtain ⟨ao, cap, rfl⟩ := ho.shape
  have hxl := hc.lt
  have hlm : l.length ≤ 9223372036854775807 := by rw [← maxLen_val]; exact ho.rd.bd
  have HNT := hid (show Cs w x #[.int .i64 mo, Value.slice ao l.length cap, .int .i64 sn, .int .i64 lo] 87 from hc)
  have HOL := Lib.hid ho
  have HQ1 := Lib.hid hQ1
  have HBQ := Lib.hid hbq
  have HBE := Lib.hid hbE
  have HXQ := Lib.hid hxq
  have HXE := Lib.hid hxE
  clear hc ho0 ho hQ1 hbE hxE hvx hbq hxq
  obtain ⟨Q3, hQ3⟩ : ∃ Q : Nat → Prop, ∀ k, Q k ↔ (Eb k ∧ (Value.slice ao l.length cap).ownBlock ≠ some k) := ⟨_, fun _ => Iff.rfl⟩
  have HQ3 := Lib.hid hQ3
  have HB3 := hid (show ∀ k, Q3 k → k < w.heap.size from fun k hk => hb k ((hQ3 k).1 hk).1)
  clear hQ3
  go_enter Try.func19, Try.ntmps19
  go_upto_region 1 with (fail)
  have HM0 := hid (Mod.refl (fun _ => False) w)
  go_upto_region 1 with (fail)
  refine wp_region_U 13 [4, 5, 6, 3, 17] [0, 1, 2, 3, 4] (fun a0 HA0 => ?_)
  have oe0 := ev HA0 0 rfl
  refine QSeq.pure rfl _ (fun E => ex_move rfl (E.v oe0)) ?_
  refine QSeq.pure rfl (.pointer (some ⟨x, 0, none⟩)) (fun E => ex_nil rfl (E.d 0 0)) ?_
  refine QSeq.pure rfl _ (fun E => ex_loadA rfl Try.underlying87 rfl (off := 0) (cs := [.int .i64 mo, .slice ao l.length cap, .int .i64 sn, .int .i64 lo]) (by kernel_rfl) (E.d 1 0) (Cs.litA HNT.out rfl)) ?_
  refine QSeq.go fun act E => ?_
  refine qc_alloc rfl (wanted_none rfl) rfl (z := [.int .i64 0, .slice none 0 0, .int .i64 0, .int .i64 0]) (by kernel_rfl) ?_
  intro u1_3 qq3n hm
  have zl1_3 := qq3n.lt
  have Hx1 := hid qq3n
  have zu1_3 := hm.size
  have Cx2 := hid (show Mod (fun _ => False) w u1_3 from hm)
  clear hm
  clear act E qq3n
  refine QSeq.go fun act E => ?_
  have hlz : (([.int .i64 mo, Value.slice ao l.length cap, .int .i64 sn, .int .i64 lo] : List Value)).length = List.length ([.int .i64 0, .slice none 0 0, .int .i64 0, .int .i64 0] : List Value) := rfl
  refine qc_store rfl (wanted_none rfl) rfl Hx1.out (off := 0) (vs := ([.int .i64 mo, Value.slice ao l.length cap, .int .i64 sn, .int .i64 lo] : List Value)) (by rw [hlz]; kernel_rfl) (by intro u hu; simp only [List.mem_cons, List.not_mem_nil, or_false] at hu; rcases hu with rfl | rfl | rfl | rfl <;> rfl) (by rw [hlz]; exact Nat.le_of_eq (Nat.zero_add _)) (E.d 3 0) (ec (E.d 2 1)) ?_
  intro u1_4 qc0 hm
  have qq3n := qc0.eqv (b := (([.int .i64 mo, Value.slice ao l.length cap, .int .i64 sn, .int .i64 lo] : List Value) : List Value).toArray) (lay_whole (#[.int .i64 0, .slice none 0 0, .int .i64 0, .int .i64 0]) _ (by rw [hlz]; rfl))
  clear qc0 hlz
  have Hx3 := hid qq3n
  have zu1_4 := hm.size
  have HMu1_4 := hid hm
  have Cx4 := hid (Mod.goS (S' := (fun _ => False)) Cx2.out hm (fun _ h => h) (by intro k h0 h2; omega))
  clear hm Cx2
  clear act E qq3n Hx1
  clear HMu1_4
  refine QSeq.nil (t' := [_, _, _, _, _]) rfl ?_
  obtain rfl := HA0.out
  clear HA0 oe0
  simp only [pz, Act.put, sIB, sCZ, sCS, List.set_nil]
  go_upto_region 2 with (fail)
  refine wp_region_U 13 [7, 8, 9, 10, 11, 12, 19] [0, 1, 2, 3, 4, 5, 6] (fun a0 HA0 => ?_)
  have oe0 := ev HA0 0 rfl
  have oe3 := ev HA0 3 rfl
  refine QSeq.pure rfl _ (fun E => ex_move rfl (E.v oe0)) ?_
  refine QSeq.pure rfl (.pointer (some ⟨x, 0, none⟩)) (fun E => ex_nil rfl (E.d 0 0)) ?_
  refine QSeq.pure rfl (.pointer (some ⟨x, 1, none⟩)) (fun E => ex_field rfl Try.underlying87 rfl (by kernel_rfl) (E.d 1 0)) ?_
  refine QSeq.pure rfl _ (fun E => ex_load1 rfl Try.underlying76 rfl (E.d 2 0) (Cs.lit1 (HNT.out.mod Cx4.out (fun h => h)) rfl)) ?_
  refine QSeq.call rfl rfl Try.func33 (SClone_Q (HOL.out.mod Cx4.out (fun _ _ h => h) (fun _ _ h => h)).own (by intro k h1; have hb := HBE.out k h1; omega) hl) (fun E => args1 (E.d 3 0)) ?_
  rintro e u2_4 ⟨vc, rfl, qcl, hm⟩
  obtain ⟨aoc, capc, rfl⟩ := qcl.shape
  refine ⟨_, rfl, ?_⟩
  have Hx5 := hid (qcl.widen (R' := (fun k => (New u1_4 u2_4 k))) (E' := (fun k => (Q3 k))) (fun _ h => h) (fun k h1 => (HQ3.out k).2 h1))
  have zu2_4 := hm.size
  have Cx6 := hid (show Mod (fun _ => False) u1_4 u2_4 from hm)
  clear hm
  clear qcl
  refine QSeq.pure rfl (.pointer (some ⟨w.heap.size, 1, none⟩)) (fun E => ex_field rfl Try.underlying87 rfl (by kernel_rfl) (E.v oe3)) ?_
  refine QSeq.go fun act E => ?_
  refine qc_store rfl (wanted_none rfl) rfl (Hx3.out.mod Cx6.out (fun h => h)) (off := 1) (vs := [Value.slice aoc l.length capc]) (by kernel_rfl) one1 (by simp) (E.d 5 0) (ec (E.d 4 1)) ?_
  intro u2_6 qc0 hm
  have qq3n := qc0.eqv (b := #[.int .i64 mo, Value.slice aoc l.length capc, .int .i64 sn, .int .i64 lo]) rfl
  clear qc0
  have Hx7 := hid qq3n
  have zu2_6 := hm.size
  have HMu2_6 := hid hm
  have Cx8 := hid (Mod.goS (S' := (fun k => (k = w.heap.size))) Cx6.out hm (fun _ h => h.elim) (by intro k h0 h2; exact h2))
  clear hm Cx6
  clear act E qq3n Hx3
  have Hx9 := hid (Hx5.out.mod HMu2_6.out (by intro k h1 h2; omega) (sB HB3))
  clear Hx5 HMu2_6
  refine QSeq.nil (t' := [_, _, _, _, _, _, _]) rfl ?_
  obtain rfl := HA0.out
  clear HA0 oe0 oe3
  simp only [pz, Act.put, sIB, sCZ, sCS, List.set_nil]
  go_upto_region 3 with (fail)
  refine wp_region_U 13 [2] [0] (fun a0 HA0 => ?_)
  have oe3 := ev HA0 3 rfl
  refine QSeq.pure rfl _ (fun E => ex_assign rfl (E.v oe3)) ?_
  refine QSeq.nil (t' := [_]) rfl ?_
  obtain rfl := HA0.out
  clear HA0 oe3
  simp only [pz, Act.put, sIB, sCZ, sCS]
  go_wp2
  go_ret
  exact ⟨_, .slice aoc l.length capc, rfl, ⟨Hx7.out, (fun k hk => by have hb := HB3.out k ((HQ3.out k).2 hk); omega), (fun hk => by have hb := HB3.out _ ((HQ3.out _).2 hk); omega), (fun hk => by have hk := (Hx9.out).blk _ hk; omega), ((Hx9.out).widen (E' := fun k => Eb k ∧ (Value.slice ao l.length cap).ownBlock ≠ some k) (fun _ h => h) (fun k h1 => (HQ3.out k).1 h1)).own⟩, (by unfold New; omega), (fun k hk => by have hk := (Hx9.out).blk _ hk; unfold New; omega), ((HM0.out.trans Cx4.out (fun _ _ h => h.elim)).trans Cx8.out (by intro k h1 h2; omega))⟩
end Go.Proofs.Ytekbmpjdombedaa

/- The two kinds of messages on their way as objects that share what they hold: what is theirs alone lies in O, what they hold in T. -/
namespace Go.Proofs.Ytekbmpjdombedaa
open Go Go.RowKit Go.Gv
theorem run_rem_i {P : Program} {t : TypeId} {k : IntKind} {w : World} (x y : Int) (h : y ≠ 0) : (binOp .rem t (.int k x) (.int k y)).run P w = .ok (.int k (x.tmod y)) w := by
  simp [binOp, Op.intDiv, h]
def NtS (O T : Nat → Prop) (w : World) (x : Nat) (mo : Int) (l : List Mg) (sn lo : Int) : Prop :=
  ∃ E v, NtV E w x v mo l sn lo ∧ O x ∧ (∀ k, v.ownBlock = some k → O k) ∧ ∀ k, E k → T k
def RnS (O T : Nat → Prop) (w : World) (x : Nat) (mo : Int) (l : List Mg) (sn lo : Int) : Prop :=
  ∃ E v, RnV E w x v mo l sn lo ∧ O x ∧ (∀ k, v.ownBlock = some k → O k) ∧ ∀ k, E k → T k
section
variable {O T R' E' S R2 : Nat → Prop} {w w' : World} {x : Nat} {v : Value} {mo sn lo : Int} {l : List Mg} {E : Nat → Prop}
theorem RnV.mod (h : RnV E w x v mo l sn lo) (hm : Mod S w w') (hx : ¬ S x) (hv : ∀ k, v.ownBlock = some k → ¬ S k) (hE : ∀ k, E k → ¬ S k) : RnV E w' x v mo l sn lo :=
  ⟨h.cs.mod hm hx, fun k hk => Nat.lt_of_lt_of_le (h.bd k hk) hm.size, h.ex, h.vx, h.ow.mod hm (fun k hk => hv k hk) (fun k hk => hE k hk)⟩
theorem NtS.mod (h : NtS O T w x mo l sn lo) (hm : Mod S w w') (hs : ∀ k, O k → S k → False) (hs2 : ∀ k, T k → S k → False) : NtS O T w' x mo l sn lo := by
  obtain ⟨E, v, h1, h2, h3, h4⟩ := h
  exact ⟨E, v, h1.mod hm (hs x h2) (fun k hk => hs k (h3 k hk)) (fun k hk => hs2 k (h4 k hk)), h2, h3, h4⟩
theorem NtS.widen (h : NtS O T w x mo l sn lo) (hs : ∀ k, O k → R' k) (hs2 : ∀ k, T k → E' k) : NtS R' E' w x mo l sn lo := by
  obtain ⟨E, v, h1, h2, h3, h4⟩ := h
  exact ⟨E, v, h1, hs x h2, fun k hk => hs k (h3 k hk), fun k hk => hs2 k (h4 k hk)⟩
theorem RnS.mod (h : RnS O T w x mo l sn lo) (hm : Mod S w w') (hs : ∀ k, O k → S k → False) (hs2 : ∀ k, T k → S k → False) : RnS O T w' x mo l sn lo := by
  obtain ⟨E, v, h1, h2, h3, h4⟩ := h
  exact ⟨E, v, h1.mod hm (hs x h2) (fun k hk => hs k (h3 k hk)) (fun k hk => hs2 k (h4 k hk)), h2, h3, h4⟩
theorem RnS.widen (h : RnS O T w x mo l sn lo) (hs : ∀ k, O k → R' k) (hs2 : ∀ k, T k → E' k) : RnS R' E' w x mo l sn lo := by
  obtain ⟨E, v, h1, h2, h3, h4⟩ := h
  exact ⟨E, v, h1, hs x h2, fun k hk => hs k (h3 k hk), fun k hk => hs2 k (h4 k hk)⟩
/-- the document's, opened: its cells, its messages -/
theorem RnS.cell (h : RnS O T w x mo l sn lo) : ∃ ao cap, Cs w x #[.int .i64 mo, .int .i64 sn, .int .i64 lo, .slice ao l.length cap] 82 ∧ O x ∧ RdS MgR (fun k => O k ∨ T k) w (.slice ao l.length cap) l := by
  obtain ⟨E, v, h1, h2, h3, h4⟩ := h
  obtain ⟨ao, cap, rfl⟩ := h1.ow.shape
  exact ⟨ao, cap, h1.cs, h2, h1.ow.rd.widen fun k hk => hk.imp (h3 k) (h4 k)⟩
theorem RnS.fresh {mo : Int} (h : Cs w x #[.int .i64 mo, .int .i64 0, .int .i64 0, .slice none 0 0] 82) : RnS (fun k => k = x) (fun _ => False) w x mo [] 0 0 :=
  ⟨(fun _ => False), _, ⟨h, (fun _ h => h.elim), (fun h => h), (fun h => by cases h), OwS.nil _ _ _ _ _⟩, rfl, (fun k h => by cases h), (fun _ h => h.elim)⟩
theorem NtR.toS {R : Nat → Prop} (h : NtR R w x mo [] sn lo) : NtS R (fun _ => False) w x mo [] sn lo := by
  obtain ⟨E, v, h1, h2, h3, h4⟩ := h
  refine ⟨fun _ => False, v, ⟨h1.cs, fun _ h => h.elim, fun h => h, h1.vx, ?_⟩, h2, h3, fun _ h => h.elim⟩
  obtain ⟨css, k1, k2, k3, k4⟩ := h1.ow
  exact ⟨css, k1, (fun i cs a hi ha => by cases ha), k3, k4⟩
theorem LenS (h : NtS O T w x mo l sn lo) : Calls Try.prog 11 #[.pointer (some ⟨x, 0, none⟩)] w fun e w' => e = .returned (.int .i64 ((l.length : Nat) : Int)) ∧ w = w' := by obtain ⟨E, v, h, -⟩ := h; exact NLen_Q h
theorem SentS (h : NtS O T w x mo l sn lo) : Calls Try.prog 12 #[.pointer (some ⟨x, 0, none⟩)] w fun e w' => e = .returned (.int .i64 sn) ∧ w = w' := by obtain ⟨E, v, h, -⟩ := h; exact NSent_Q h
theorem LostS (h : NtS O T w x mo l sn lo) : Calls Try.prog 17 #[.pointer (some ⟨x, 0, none⟩)] w fun e w' => e = .returned (.int .i64 lo) ∧ w = w' := by obtain ⟨E, v, h, -⟩ := h; exact NLost_Q h
theorem LookS {k : Nat} (h : NtS O T w x mo l sn lo) (hk : k < l.length) (hP : ∀ m ∈ l, cpMg m) : Calls Try.prog 14 #[.pointer (some ⟨x, 0, none⟩), .int .i64 ((k : Nat) : Int)] w fun e w' => ∃ cn, e = .returned (.tuple #[.agg cn.toArray, .bool true]) ∧ MgR.rd (New w w') w' cn l[k] ∧ Mod (fun _ => False) w w' := by
  obtain ⟨E, v, h, -⟩ := h; exact Look_in h hk hP
theorem LookSN {k : Int} (h : NtS O T w x mo l sn lo) (hk : ¬ (0 ≤ k ∧ k < (l.length : Nat))) : Calls Try.prog 14 #[.pointer (some ⟨x, 0, none⟩), .int .i64 k] w fun e w' => ∃ cn, e = .returned (.tuple #[.agg cn.toArray, .bool false]) ∧ MgR.rd (New w w') w' cn (mg0 0 0 0) ∧ Mod (fun _ => False) w w' := by
  obtain ⟨E, v, h, -⟩ := h; exact Look_out h hk
theorem TakeS {k : Nat} (h : NtS O T w x mo l sn lo) (hk : k < l.length) (hP : ∀ m ∈ l, cpMg m) : Calls Try.prog 10 #[.pointer (some ⟨x, 0, none⟩), .int .i64 ((k : Nat) : Int)] w fun e w' => ∃ cn, e = .returned (.tuple #[.agg cn.toArray, .bool true]) ∧
    NtS (fun k => O k ∨ New w w' k) T w' x mo (l.eraseIdx k) sn lo ∧ MgR.rd (New w w') w' cn l[k] ∧ Mod O w w' := by
  obtain ⟨E, v, h, hx, hv, hE⟩ := h
  refine (Take_in h hk hP).mono ?_
  rintro e w' ⟨cn, v', rfl, hn, hb, hr, hm⟩
  exact ⟨cn, rfl, ⟨E, v', hn, .inl hx, fun k hk => (hb k hk).imp (hv k) id, hE⟩, hr, hm.mono fun k _ hk => hk.elim (fun e => e ▸ hx) (hv k)⟩
theorem TakeSN {k : Int} (h : NtS O T w x mo l sn lo) (hk : ¬ (0 ≤ k ∧ k < (l.length : Nat))) : Calls Try.prog 10 #[.pointer (some ⟨x, 0, none⟩), .int .i64 k] w fun e w' => ∃ cn, e = .returned (.tuple #[.agg cn.toArray, .bool false]) ∧ MgR.rd (New w w') w' cn (mg0 0 0 0) ∧ Mod (fun _ => False) w w' := by
  obtain ⟨E, v, h, -⟩ := h; exact Take_out h hk
theorem DoubS {k : Nat} (h : NtS O T w x mo l sn lo) (hk : k < l.length ∧ ((l.length : Nat) : Int) < mo) (hmo : mo ≤ 4096) : Calls Try.prog 16 #[.pointer (some ⟨x, 0, none⟩), .int .i64 ((k : Nat) : Int)] w fun e w' => e = .returned (.bool true) ∧
    NtS (fun k => O k ∨ New w w' k) (fun k => T k ∨ New w w' k) w' x mo (l ++ [l[k]'hk.1]) sn lo ∧ Mod O w w' := by
  obtain ⟨E, v, h, hx, hv, hE⟩ := h
  refine (Double_yes h hk hmo).mono ?_
  rintro e w' ⟨v', rfl, hn, hb, hm⟩
  exact ⟨rfl, ⟨_, v', hn, .inl hx, fun k hk => (hb k hk).imp (hv k) id, fun k hk => hk.imp (hE k) id⟩, hm.mono fun k _ hk => hk.elim (fun e => e ▸ hx) (hv k)⟩
theorem DoubSN {k : Int} (h : NtS O T w x mo l sn lo) (hk : ¬ (0 ≤ k ∧ k < (l.length : Nat)) ∨ mo ≤ (l.length : Nat)) : Calls Try.prog 16 #[.pointer (some ⟨x, 0, none⟩), .int .i64 k] w fun e w' => e = .returned (.bool false) ∧ Mod (fun _ => False) w w' := by
  obtain ⟨E, v, h, -⟩ := h
  by_cases h0 : 0 ≤ k ∧ k < (l.length : Nat)
  · obtain ⟨q, rfl⟩ : ∃ q : Nat, k = (q : Int) := ⟨k.toNat, by omega⟩
    exact Double_full h ⟨by omega, hk.resolve_left (fun h => h h0)⟩
  · exact Double_out h h0
theorem SendS {ms : List Mg} {vm : Value} {p : Nat} (h : NtS O T w x mo l sn lo) (hms : RdS MgR R2 w vm ms) (hB2 : ∀ k, R2 k → k < w.heap.size) (h2 : ∀ k, R2 k → O k → False) (hP : ∀ m ∈ ms, cpMg m) (hml : ms.length ≤ 1000) (hlo : ((l.length : Nat) : Int) ≤ mo) (hmo : mo ≤ 4096)
    (hsn : 0 ≤ sn ∧ sn ≤ 1000000) (hlb : 0 ≤ lo ∧ lo ≤ 1000000) (hp : p = min ms.length (mo - (l.length : Nat)).toNat) : Calls Try.prog 8 #[.pointer (some ⟨x, 0, none⟩), vm] w fun e w' => e = .returned (.int .i64 ((p : Nat) : Int)) ∧
    NtS (fun k => O k ∨ New w w' k) (fun k => T k ∨ New w w' k) w' x mo (l ++ ms.take p) (sn + ((p : Nat) : Int)) (lo + ((ms.length : Nat) : Int) - ((p : Nat) : Int)) ∧ Mod O w w' := by
  obtain ⟨E, v, h, hx, hv, hE⟩ := h
  refine (Send_Q h hms hB2 (fun k hk => ⟨fun e => h2 k hk (e ▸ hx), fun e => h2 k hk (hv k e)⟩) hP hml hlo hmo hsn hlb hp).mono ?_
  rintro e w' ⟨v', rfl, hn, hb, hm⟩
  exact ⟨rfl, ⟨_, v', hn, .inl hx, fun k hk => (hb k hk).imp (hv k) id, fun k hk => hk.imp (hE k) id⟩, hm.mono fun k _ hk => hk.elim (fun e => e ▸ hx) (hv k)⟩
theorem CloneS (h : NtS O T w x mo l sn lo) (hl : l.length ≤ 4096) : Calls Try.prog 19 #[.pointer (some ⟨x, 0, none⟩)] w fun e w' => ∃ y, e = .returned (.pointer (some ⟨y, 0, none⟩)) ∧ NtS (New w w') T w' y mo l sn lo ∧ Mod (fun _ => False) w w' := by
  obtain ⟨E, v, h, hx, hv, hE⟩ := h
  refine (NClone_Q h hl).mono ?_
  rintro e w' ⟨y, v2, rfl, hn, hy, hb, hm⟩
  exact ⟨y, rfl, ⟨_, v2, hn, hy, hb, fun k hk => hE k hk.1⟩, hm⟩
theorem RTakeS {k : Nat} (h : RnS O T w x mo l sn lo) (hk : k < l.length) (hmo : l.length ≤ 4096) : Calls Try.prog 29 #[.pointer (some ⟨x, 0, none⟩), .int .i64 ((k : Nat) : Int)] w fun e w' => ∃ cn, e = .returned (.tuple #[.agg cn.toArray, .bool true]) ∧
    RnS (fun k => O k ∨ New w w' k) T w' x mo (l.eraseIdx k) sn lo ∧ MgR.rd T w' cn l[k] ∧ Mod O w w' := by
  obtain ⟨E, v, h, hx, hv, hE⟩ := h
  refine (RTake_in h hk hmo).mono ?_
  rintro e w' ⟨cn, v', rfl, hn, hb, hr, hm⟩
  exact ⟨cn, rfl, ⟨E, v', hn, .inl hx, fun k hk => .inr (hb k hk), hE⟩, hr.widen hE, hm.mono fun k _ hk => by rw [hk]; exact hx⟩
theorem RTakeSN {k : Int} (h : RnS O T w x mo l sn lo) (hk : ¬ (0 ≤ k ∧ k < (l.length : Nat))) : Calls Try.prog 29 #[.pointer (some ⟨x, 0, none⟩), .int .i64 k] w fun e w' => ∃ cn, e = .returned (.tuple #[.agg cn.toArray, .bool false]) ∧ MgR.rd (New w w') w' cn (mg0 0 0 0) ∧ Mod (fun _ => False) w w' := by
  obtain ⟨E, v, h, -⟩ := h
  by_cases h0 : k < 0
  · exact RTake_lo h h0
  · exact RTake_hi h ⟨by omega, by omega⟩
theorem RDoubS {k : Nat} (h : RnS O T w x mo l sn lo) (hk : k < l.length ∧ ((l.length : Nat) : Int) < mo) (hmo : mo ≤ 4096) : Calls Try.prog 30 #[.pointer (some ⟨x, 0, none⟩), .int .i64 ((k : Nat) : Int)] w fun e w' => e = .returned (.bool true) ∧
    RnS (fun k => O k ∨ New w w' k) (fun k => T k ∨ New w w' k) w' x mo (l ++ [l[k]'hk.1]) sn lo ∧ Mod O w w' := by
  obtain ⟨E, v, h, hx, hv, hE⟩ := h
  refine (RDouble_yes h hk hmo).mono ?_
  rintro e w' ⟨v', rfl, hn, hb, hm⟩
  exact ⟨rfl, ⟨_, v', hn, .inl hx, fun k hk => (hb k hk).imp (hv k) id, fun k hk => hk.imp (hE k) id⟩, hm.mono fun k _ hk => hk.elim (fun e => e ▸ hx) (hv k)⟩
theorem RDoubSN {k : Int} (h : RnS O T w x mo l sn lo) (hk : ¬ (0 ≤ k ∧ k < (l.length : Nat)) ∨ mo ≤ (l.length : Nat)) : Calls Try.prog 30 #[.pointer (some ⟨x, 0, none⟩), .int .i64 k] w fun e w' => e = .returned (.bool false) ∧ Mod (fun _ => False) w w' := by
  obtain ⟨E, v, h, -⟩ := h
  by_cases h0 : 0 ≤ k ∧ k < (l.length : Nat)
  · obtain ⟨q, rfl⟩ : ∃ q : Nat, k = (q : Int) := ⟨k.toNat, by omega⟩
    exact RDouble_full h ⟨by omega, hk.resolve_left (fun h => h h0)⟩
  · by_cases h1 : k < 0
    · exact RDouble_lo h h1
    · exact RDouble_hi h ⟨by omega, by omega⟩
theorem RSendS {ms : List Mg} {vm : Value} {p : Nat} (h : RnS O T w x mo l sn lo) (hms : RdS MgR R2 w vm ms) (hB2 : ∀ k, R2 k → k < w.heap.size) (h2 : ∀ k, R2 k → O k → False) (hml : ms.length ≤ 1000) (hlo : ((l.length : Nat) : Int) ≤ mo) (hmo : mo ≤ 4096)
    (hsn : 0 ≤ sn ∧ sn ≤ 1000000) (hlb : 0 ≤ lo ∧ lo ≤ 1000000) (hp : p = min ms.length (mo - (l.length : Nat)).toNat) : Calls Try.prog 32 #[.pointer (some ⟨x, 0, none⟩), vm] w fun e w' => e = .returned (.int .i64 ((p : Nat) : Int)) ∧
    RnS (fun k => O k ∨ New w w' k) (fun k => T k ∨ R2 k ∨ New w w' k) w' x mo (l ++ ms.take p) (sn + ((p : Nat) : Int)) (lo + ((ms.length : Nat) : Int) - ((p : Nat) : Int)) ∧ Mod O w w' := by
  obtain ⟨E, v, h, hx, hv, hE⟩ := h
  refine (RSend_Q h hms hB2 (fun k hk => ⟨fun e => h2 k hk (e ▸ hx), fun e => h2 k hk (hv k e)⟩) hml hlo hmo hsn hlb hp).mono ?_
  rintro e w' ⟨v', rfl, hn, hb, hm⟩
  exact ⟨rfl, ⟨_, v', hn, .inl hx, fun k hk => (hb k hk).imp (hv k) id, fun k hk => hk.imp (hE k) id⟩, hm.mono fun k _ hk => hk.elim (fun e => e ▸ hx) (hv k)⟩
end
/-- a call of a play -/
structure An where
  d : Int
  k : Int
  l : List Mg
def AnR : Rep An where
  sz := 3
  pos := by decide
  rd R w cs a := ∃ v, cs = [.int .i64 a.d, .int .i64 a.k, v] ∧ I64 a.d ∧ I64 a.k ∧ RdS MgR R w v a.l
  len h := by obtain ⟨v, rfl, _⟩ := h; rfl
  one h := by
    obtain ⟨v, rfl, h1, h2, h3⟩ := h
    obtain ⟨_, _, e⟩ := h3.shape
    subst e
    intro u hu
    simp only [List.mem_cons, List.not_mem_nil, or_false] at hu
    rcases hu with rfl | rfl | rfl <;> rfl
  keep h hk := by obtain ⟨v, rfl, h1, h2, h3⟩ := h; exact ⟨v, rfl, h1, h2, h3.keep hk⟩
  wid h hs := by obtain ⟨v, rfl, h1, h2, h3⟩ := h; exact ⟨v, rfl, h1, h2, h3.widen hs⟩
  tight h := by obtain ⟨v, rfl, h1, h2, h3⟩ := h; exact ⟨v, rfl, h1, h2, h3.tight⟩
/-- what one changes the other one does not hold -/
structure Dj (A1 B1 A2 B2 : Nat → Prop) : Prop where
  aa : ∀ k, A1 k → A2 k → False
  ab : ∀ k, A1 k → B2 k → False
  ba : ∀ k, A2 k → B1 k → False
end Go.Proofs.Ytekbmpjdombedaa
