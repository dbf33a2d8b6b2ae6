/- WalLong: a record may be as long as may be, no longer; a refused one leaves the log as it was: for every number and every list of bytes the law returns true. No condition. -/
import Derived.Test.YthojipjleajajaaWaL2
import Derived.ProofKit
import Derived.OpenShut
import Derived.ChangeOld
set_option maxRecDepth 100000
set_option linter.unusedVariables false
/- wal.Wal.Put. -/
namespace Go.Proofs.Ythojipjleajajaa
open Go Go.RowKit Go.Gv

set_option maxHeartbeats 4000000 in
theorem Put_A {R1 R2 R3 : Nat → Prop} {N M x p : Nat} {rs : List (List Int)} {s : DS} {v : Value} {b : List Int} {w : World} (hw : WlR R1 w x p rs) (hd : DkR R2 N w p s) (hb : RdR R3 M w v b) (hB1 : ∀ k, R1 k → k < w.heap.size) (hB2 : ∀ k, R2 k → k < w.heap.size) (hB3 : ∀ k, R3 k → k < w.heap.size)
    (h12 : ∀ k, R1 k → R2 k → False) (h13 : ∀ k, R3 k → R1 k → False) (h23 : ∀ k, R3 k → R2 k → False) (hbl : b.length ≤ 65536) (hN : N ≤ 900000) (hrl : rs.length ≤ 900000) (hd1 : (dStep s).dead = true) :
    Calls Try.prog 12 #[.pointer (some ⟨x, 0, none⟩), v] w fun e w' => e = .returned (.int .i64 9) ∧ PutTo R1 R2 (N + (encR b).length) w w' x p rs (dAppend s (encR b)) := by
  obtain ⟨v0, hc, hx, ho0⟩ := hw
  obtain ⟨Q1, hQ1, ho⟩ : ∃ Q : Nat → Prop, (∀ k, Q k → R1 k ∧ k ≠ x) ∧ OwS RwR 22 Q Q w v0 rs := ⟨_, fun _ h => h, ho0⟩
  obtain ⟨ao, cap, rfl⟩ := ho.shape
  obtain ⟨ab, cb, rfl⟩ := hb.shape
  have hxl := hc.lt
  have HWL := Lib.hid hc
  have HOL := Lib.hid ho
  have HQ1 := Lib.hid hQ1
  have HDK := Lib.hid hd
  have HB := Lib.hid hb
  have HBQ := hid (fun k (h : Q1 k) => hB1 k (hQ1 k h).1)
  have HB2 := Lib.hid hB2
  have HB3 := Lib.hid hB3
  have HQ2 := hid (fun k (h : Q1 k) => h12 k (hQ1 k h).1)
  have HQ3 := hid (fun k (h : Q1 k) (h3 : R3 k) => h13 k h3 (hQ1 k h).1)
  have H23 := hid (fun k (h : R2 k) (h3 : R3 k) => h23 k h3 h)
  have HX2 := hid (fun (h : R2 x) => h12 x hx h)
  have HXQ := hid (fun (h : Q1 x) => (hQ1 x h).2 rfl)
  have HX3 := hid (fun (h : R3 x) => h13 x h hx)
  have HX1 := Lib.hid hx
  have hel := encR_len (b := b) (by omega)
  clear hc ho0 ho hQ1 hd hb hB1 hB2 hB3 h12 h13 h23 hx
  go_enter Try.func12, Try.ntmps12
  go_upto_region 1 with (fail)
  have HM0 := hid (Mod.refl (fun k => (k = x) ∨ (Q1 k) ∨ (R2 k)) w)
  go_upto_region 1 with (fail)
  refine wp_region_U 41 [7, 8, 9] [0, 1, 2] (fun a0 HA0 => ?_)
  have oe1 := ev HA0 1 rfl
  refine QSeq.pure rfl _ (fun E => ex_move rfl (E.v oe1)) ?_
  refine QSeq.pure rfl (.int .i64 b.length) (fun E => ex_lenS rfl (E.d 0 0) Try.underlying22) ?_
  refine QSeq.pure rfl (.bool false) (fun E => ex_binE rfl (E.d 1 0) rfl (guard_ints _ _ _ _ _ _) (run_gtr_i _ _ _ Try.underlying3) (congrArg Value.bool (decide_eq_false (by omega)))) ?_
  refine QSeq.nil (t' := [_, _, _]) rfl ?_
  obtain rfl := HA0.out
  clear HA0 oe1
  simp only [pz, Act.put, List.setIfInBounds_toArray, List.set_cons_zero, List.set_cons_succ]
  have HD1 := Lib.hid hd1
  clear hd1
  go_upto_region 3 with (fail)
  generalize ha0 : Act.mk _ _ = a0
  have oe0 : a0.eval (.tmp 0) = .pointer (some ⟨x, 0, none⟩) := by rw [← ha0]; rfl
  have oe1 : a0.eval (.tmp 1) = .slice ab b.length cb := by rw [← ha0]; rfl
  have hsz0 : a0.tmps.size = 41 := by rw [← ha0]; rfl
  have HA0 := hid ha0
  clear ha0
  refine wp_region_Q1 41 hsz0 [10, 11, 12, 13, 14, 15, 16, 17, 18, 5] (fun k => (R2 k)) (fun k j => (k = 3 ∧ ((R2 j)))) (fun _ _ h => h.2) [qi (.pointer (some ⟨x, 0, none⟩)), qi (.pointer (some ⟨x, 0, none⟩)), qi (.pointer (some ⟨x, 0, none⟩)), qi (.pointer (some ⟨p, 0, none⟩)), qv 0, qi (.slice ab b.length cb), qv 1, qv 2, qi (.int .i64 9), qi (.int .i64 9)] ⟨qi_stable, qi_stable, qi_stable, qi_stable, qv_stable, qi_stable, qv_stable, qv_stable, qi_stable, qi_stable, trivial⟩ [4, 6, 7, 8] ⟨?_, ?_, ?_, ?_, ?_, ?_, ?_, ?_, ?_, ?_, trivial⟩ ?_
  · exact stq (fun E => ex_move rfl (E.v oe0))
  · exact stq (fun E => ex_nil rfl (E.d 0))
  · exact stq (fun E => ex_field rfl Try.underlying62 rfl (by kernel_rfl) (E.d 1))
  · exact stq (fun E => ex_load1 rfl Try.underlying23 rfl (E.d 2) (Cs.lit1 (HWL.out.mod E.m (by intro h2; rcases h2 with ⟨h0, h2⟩ | h2 <;> first | omega | (have hb := HB2.out _ h2; omega) | exact HX2.out h2 | exact HXQ.out h2 | exact HX3.out h2)) rfl))
  · exact stepq_chain rfl
  · exact stq (fun E => ex_move rfl (E.v oe1))
  · exact stepq_chain rfl
  · exact stepq_chain rfl
  · exact stepq_chain rfl
  · exact stq (fun E => ex_assign rfl (E.d 8))
  intro u3_0 hr
  have zu3_0 := hr.size
  have Cx1 := hid (hr.new (S := (fun k => (R2 k))))
  have Hx2 := hid (HDK.out.mod hr (by intro k h1 h2; have hb := HB2.out k h1; omega))
  clear HDK
  clear hr
  refine QChain.go fun Z act E => ?_
  refine qc_callF (args := #[]) rfl (wanted_none rfl) rfl Try.func38 args0 (NewWriter_Q _) ?_
  rintro e u3_1a ⟨g1, rfl, qwr1, hm⟩
  have zu3_1a := hm.size
  refine ⟨_, rfl, hm.mono (fun _ _ h => h.elim), (fun _ => rfl), ?_⟩
  intro u3_1 hr
  have zu3_1 := hr.size
  have Hx3 := hid ((qwr1.widen (R' := (fun k => (New u3_0 u3_1a k))) (fun _ h => h) (Nat.le_refl _)).mod hr (by intro k h1 h2; omega))
  have hmr := Mod.after hm hr
  have Hx4 := hid (Hx2.out.mod hmr (by intro k h1 h2; have hb := HB2.out k h1; omega))
  clear Hx2
  clear hmr
  have Cx5 := hid (Cx1.out.go hm hr)
  clear Cx1 hm hr Z act E qwr1
  refine QChain.go fun Z act E => ?_
  refine qc_callF (args := #[.pointer (some ⟨g1, 0, none⟩), .slice ab b.length cb]) rfl (wanted_none rfl) rfl Try.func39 (args2 (chv (v := .pointer (some ⟨g1, 0, none⟩)) (E.d 4)) (E.d 5)) (WRow_W Hx3.out (HB.out.mod Cx5.out (by intro k h1 h2; first | omega | (have hb := HB3.out k h1; omega) | (have hb := HB2.out k h2; omega) | exact HQ2.out k h1 h2 | exact HQ2.out k h2 h1 | exact HQ3.out k h1 h2 | exact HQ3.out k h2 h1 | exact H23.out k h1 h2 | exact H23.out k h2 h1 | (have hb := HB3.out k h1; have hb2 := HB2.out k h2; omega) | exact HX2.out (h2 ▸ h1) | exact HX2.out (h1 ▸ h2) | exact HXQ.out (h2 ▸ h1) | exact HXQ.out (h1 ▸ h2) | exact HX3.out (h2 ▸ h1) | exact HX3.out (h1 ▸ h2))) (sN HB3) (by omega)) ?_
  rintro e u3_2a ⟨rfl, qwr1, hm⟩
  have zu3_2a := hm.size
  refine ⟨_, rfl, hm.mono (by intro k hk h; omega), (fun _ => rfl), ?_⟩
  intro u3_2 hr
  have zu3_2 := hr.size
  have Hx6 := hid ((qwr1.widen (R' := (fun k => (New u3_0 u3_1a k) ∨ (New u3_1 u3_2a k))) (fun _ h => h) (Nat.le_refl _)).mod hr (by intro k h1 h2; omega))
  have hmr := hm.two hr
  have Hx7 := hid (Hx4.out.mod hmr (by intro k h1 h2; have hb := HB2.out k h1; omega))
  clear Hx4
  clear hmr
  have Cx8 := hid (Cx5.out.goM hm hr (by intro k h0 h2; first | omega | exact h2))
  clear Cx5 hm hr Z act E qwr1 Hx3
  refine QChain.go fun Z act E => ?_
  refine qc_callF (args := #[.pointer (some ⟨g1, 0, none⟩)]) rfl (wanted_none rfl) rfl Try.func40 (args1 (chv (v := .pointer (some ⟨g1, 0, none⟩)) (E.d 6))) (WBytes_Q Hx6.out) ?_
  rintro e u3_3a ⟨v_a1, rfl, qa1, hm⟩
  obtain ⟨ao_a1, cap_a1, rfl⟩ := qa1.shape
  have zu3_3a := hm.size
  refine ⟨_, rfl, hm.mono (fun _ _ h => h.elim), (fun _ => rfl), ?_⟩
  intro u3_3 hr
  have zu3_3 := hr.size
  have Hx9 := hid ((qa1.widen (R' := (fun k => (New u3_2 u3_3a k))) (fun _ h => h) (Nat.le_refl _)).mod hr (by intro k h1 h2; omega))
  have hmr := Mod.after hm hr
  have Hx10 := hid (Hx7.out.mod hmr (by intro k h1 h2; have hb := HB2.out k h1; omega))
  have Hx11 := hid (Hx6.out.mod hmr (by intro k h1 h2; omega))
  clear Hx7 Hx6
  clear hmr
  have Cx12 := hid (Cx8.out.go hm hr)
  clear Cx8 hm hr Z act E qa1
  refine QChain.go fun Z act E => ?_
  refine qc_callF (args := #[.pointer (some ⟨p, 0, none⟩), .slice ao_a1 ((encR b).length) cap_a1]) rfl (wanted_none rfl) rfl Try.func21 (args2 (E.d 3) (chv (v := .slice ao_a1 ((encR b).length) cap_a1) (E.d 7))) (Append_W Hx10.out Hx9.out.rd (by intro k h1 h2; have hb := HB2.out k h2; omega) (by omega) (dErr_dead HD1.out)) ?_
  rintro e u3_4a ⟨rfl, qdk, hm⟩
  have zu3_4a := hm.size
  refine ⟨_, rfl, hm.mono (by intro k hk h; first | omega | exact Or.inl ⟨(by have hb := HB2.out k h; omega), ⟨rfl, h⟩⟩), (fun _ => rfl), ?_⟩
  intro u3_4 hr
  have zu3_4 := hr.size
  have Hx13 := hid ((qdk.widen (R' := (fun k => (R2 k) ∨ (New u3_3 u3_4a k))) (fun _ h => h) (Nat.le_refl _)).mod hr (by intro k h1 h2; rcases h1 with h1 | h1 <;> first | omega | (have hb := HB2.out k h1; omega) | exact HX2.out (h2 ▸ h1) | exact HX2.out (h1 ▸ h2) | exact HXQ.out (h2 ▸ h1) | exact HXQ.out (h1 ▸ h2) | exact HX3.out (h2 ▸ h1) | exact HX3.out (h1 ▸ h2)))
  have hmr := hm.two hr
  have Hx14 := hid (Hx11.out.mod hmr (by intro k h1 h2; rcases h2 with h2 | h2 <;> first | omega | (have hb := HB2.out k h2; omega) | exact HX2.out (h2 ▸ h1) | exact HX2.out (h1 ▸ h2) | exact HXQ.out (h2 ▸ h1) | exact HXQ.out (h1 ▸ h2) | exact HX3.out (h2 ▸ h1) | exact HX3.out (h1 ▸ h2)))
  have Hx15 := hid (Hx9.out.mod hmr (by intro k h1 h2; rcases h2 with h2 | h2 <;> first | omega | (have hb := HB2.out k h2; omega) | exact HX2.out (h2 ▸ h1) | exact HX2.out (h1 ▸ h2) | exact HXQ.out (h2 ▸ h1) | exact HXQ.out (h1 ▸ h2) | exact HX3.out (h2 ▸ h1) | exact HX3.out (h1 ▸ h2)))
  clear Hx11 Hx9
  clear hmr
  have Cx16 := hid (Cx12.out.goM hm hr (fun _ _ h => h))
  clear Cx12 hm hr Z act E qdk Hx10
  clear Hx14
  clear Hx15
  refine QChain.nil fun vs hl hzz hrows hne => ?_
  obtain ⟨Z, hYZ, hZb, hV⟩ := hzz
  have f0 := fvi hV hl 0
  have f4 := fvc hV hl 4
  have f5 := fvi hV hl 5
  have f6 := fvc hV hl 6
  have f7 := fvc hV hl 7
  have f8 := fvi hV hl 8
  have f9 := fvi hV hl 9
  rw [show vs = [gw vs 0, gw vs 1, gw vs 2, gw vs 3, gw vs 4, gw vs 5, gw vs 6, gw vs 7, gw vs 8, gw vs 9] from (gw_eta hl).trans rfl]
  have ha0 := HA0.out
  subst ha0
  clear HA0 hV hYZ hZb hsz0 hrows hne oe0 oe1
  simp only [putAll, Act.put, List.setIfInBounds_toArray, List.set_cons_zero, List.set_cons_succ, f0, f4, f5, f6, f7, f8, f9]
  clear hl f0 f4 f5 f6 f7 f8 f9
  go_upto_region 4 with (fail)
  refine wp_region_U 41 [19, 20] [0, 1] (fun a0 HA0 => ?_)
  have oe5 := ev HA0 5 rfl
  refine QSeq.pure rfl _ (fun E => ex_move rfl (E.v oe5)) ?_
  refine QSeq.pure rfl (.bool true) (fun E => ex_binE rfl (E.d 0 0) rfl (guard_ints _ _ _ _ _ _) (run_neq_i _ _ _ Try.underlying26) (congrArg Value.bool (ne_tt (by decide)))) ?_
  refine QSeq.nil (t' := [_, _]) rfl ?_
  obtain rfl := HA0.out
  clear HA0 oe5
  simp only [pz, Act.put, List.setIfInBounds_toArray, List.set_cons_zero, List.set_cons_succ]
  go_upto_region 5 with (fail)
  refine wp_region_U 41 [21, 4] [0, 1] (fun a0 HA0 => ?_)
  have oe5 := ev HA0 5 rfl
  refine QSeq.pure rfl _ (fun E => ex_move rfl (E.v oe5)) ?_
  refine QSeq.pure rfl _ (fun E => ex_assign rfl (E.d 0 0)) ?_
  refine QSeq.nil (t' := [_, _]) rfl ?_
  obtain rfl := HA0.out
  clear HA0 oe5
  simp only [pz, Act.put, List.setIfInBounds_toArray, List.set_cons_zero, List.set_cons_succ]
  go_wp2
  go_ret
  refine ⟨rfl, u3_4, by omega, by omega, Hx13.out.widen (by intro k h1; rcases h1 with h1 | h1 <;> first | exact Or.inl h1 | (right; omega)) (Nat.le_refl _), ⟨_, (HWL.out.mod Cx16.out (by intro h2; first | omega | (have hb := HB2.out _ h2; omega) | exact HX2.out h2 | exact HXQ.out h2 | exact HX3.out h2)), Or.inl HX1.out, (HOL.out.mod Cx16.out (by intro k h1 h2; first | omega | (have hb := HBQ.out k h1; omega) | (have hb := HB2.out k h2; omega) | exact HQ2.out k h1 h2 | exact HQ2.out k h2 h1 | exact HQ3.out k h1 h2 | exact HQ3.out k h2 h1 | exact H23.out k h1 h2 | exact H23.out k h2 h1 | (have hb := HBQ.out k h1; have hb2 := HB2.out k h2; omega) | exact HX2.out (h2 ▸ h1) | exact HX2.out (h1 ▸ h2) | exact HXQ.out (h2 ▸ h1) | exact HXQ.out (h1 ▸ h2) | exact HX3.out (h2 ▸ h1) | exact HX3.out (h1 ▸ h2)) (by intro k h1 h2; first | omega | (have hb := HBQ.out k h1; omega) | (have hb := HB2.out k h2; omega) | exact HQ2.out k h1 h2 | exact HQ2.out k h2 h1 | exact HQ3.out k h1 h2 | exact HQ3.out k h2 h1 | exact H23.out k h1 h2 | exact H23.out k h2 h1 | (have hb := HBQ.out k h1; have hb2 := HB2.out k h2; omega) | exact HX2.out (h2 ▸ h1) | exact HX2.out (h1 ▸ h2) | exact HXQ.out (h2 ▸ h1) | exact HXQ.out (h1 ▸ h2) | exact HX3.out (h2 ▸ h1) | exact HX3.out (h1 ▸ h2))).widen (fun k h1 => ⟨Or.inl (HQ1.out k h1).1, (HQ1.out k h1).2⟩) (fun k h1 => ⟨Or.inl (HQ1.out k h1).1, (HQ1.out k h1).2⟩)⟩, (HM0.out.trans Cx16.out (by intro k h1 h2; first | exact h2 | omega | exact Or.inl h2 | exact Or.inr h2 | exact Or.inr (Or.inl h2) | exact Or.inr (Or.inr h2) | (have hb := HB2.out k h2; omega))).mono (fun k _ h => by rcases h with h | h | h <;> first | exact Or.inl (HQ1.out k h).1 | exact Or.inr h | exact Or.inl (h ▸ HX1.out))⟩
set_option maxHeartbeats 4000000 in
theorem Put_B {R1 R2 R3 : Nat → Prop} {N M x p : Nat} {rs : List (List Int)} {s : DS} {v : Value} {b : List Int} {w : World} (hw : WlR R1 w x p rs) (hd : DkR R2 N w p s) (hb : RdR R3 M w v b) (hB1 : ∀ k, R1 k → k < w.heap.size) (hB2 : ∀ k, R2 k → k < w.heap.size) (hB3 : ∀ k, R3 k → k < w.heap.size)
    (h12 : ∀ k, R1 k → R2 k → False) (h13 : ∀ k, R3 k → R1 k → False) (h23 : ∀ k, R3 k → R2 k → False) (hbl : b.length ≤ 65536) (hN : N ≤ 900000) (hrl : rs.length ≤ 900000) (hd1 : (dStep s).dead = false) (hd2 : (dStep (dAppend s (encR b))).dead = true) :
    Calls Try.prog 12 #[.pointer (some ⟨x, 0, none⟩), v] w fun e w' => e = .returned (.int .i64 9) ∧ PutTo R1 R2 (N + (encR b).length) w w' x p rs (dSync (dAppend s (encR b))) := by
  obtain ⟨v0, hc, hx, ho0⟩ := hw
  obtain ⟨Q1, hQ1, ho⟩ : ∃ Q : Nat → Prop, (∀ k, Q k → R1 k ∧ k ≠ x) ∧ OwS RwR 22 Q Q w v0 rs := ⟨_, fun _ h => h, ho0⟩
  obtain ⟨ao, cap, rfl⟩ := ho.shape
  obtain ⟨ab, cb, rfl⟩ := hb.shape
  have hxl := hc.lt
  have HWL := Lib.hid hc
  have HOL := Lib.hid ho
  have HQ1 := Lib.hid hQ1
  have HDK := Lib.hid hd
  have HB := Lib.hid hb
  have HBQ := hid (fun k (h : Q1 k) => hB1 k (hQ1 k h).1)
  have HB2 := Lib.hid hB2
  have HB3 := Lib.hid hB3
  have HQ2 := hid (fun k (h : Q1 k) => h12 k (hQ1 k h).1)
  have HQ3 := hid (fun k (h : Q1 k) (h3 : R3 k) => h13 k h3 (hQ1 k h).1)
  have H23 := hid (fun k (h : R2 k) (h3 : R3 k) => h23 k h3 h)
  have HX2 := hid (fun (h : R2 x) => h12 x hx h)
  have HXQ := hid (fun (h : Q1 x) => (hQ1 x h).2 rfl)
  have HX3 := hid (fun (h : R3 x) => h13 x h hx)
  have HX1 := Lib.hid hx
  have hel := encR_len (b := b) (by omega)
  clear hc ho0 ho hQ1 hd hb hB1 hB2 hB3 h12 h13 h23 hx
  go_enter Try.func12, Try.ntmps12
  go_upto_region 1 with (fail)
  have HM0 := hid (Mod.refl (fun k => (k = x) ∨ (Q1 k) ∨ (R2 k)) w)
  go_upto_region 1 with (fail)
  refine wp_region_U 41 [7, 8, 9] [0, 1, 2] (fun a0 HA0 => ?_)
  have oe1 := ev HA0 1 rfl
  refine QSeq.pure rfl _ (fun E => ex_move rfl (E.v oe1)) ?_
  refine QSeq.pure rfl (.int .i64 b.length) (fun E => ex_lenS rfl (E.d 0 0) Try.underlying22) ?_
  refine QSeq.pure rfl (.bool false) (fun E => ex_binE rfl (E.d 1 0) rfl (guard_ints _ _ _ _ _ _) (run_gtr_i _ _ _ Try.underlying3) (congrArg Value.bool (decide_eq_false (by omega)))) ?_
  refine QSeq.nil (t' := [_, _, _]) rfl ?_
  obtain rfl := HA0.out
  clear HA0 oe1
  simp only [pz, Act.put, List.setIfInBounds_toArray, List.set_cons_zero, List.set_cons_succ]
  have HD1 := Lib.hid hd1
  clear hd1
  go_upto_region 3 with (fail)
  generalize ha0 : Act.mk _ _ = a0
  have oe0 : a0.eval (.tmp 0) = .pointer (some ⟨x, 0, none⟩) := by rw [← ha0]; rfl
  have oe1 : a0.eval (.tmp 1) = .slice ab b.length cb := by rw [← ha0]; rfl
  have hsz0 : a0.tmps.size = 41 := by rw [← ha0]; rfl
  have HA0 := hid ha0
  clear ha0
  refine wp_region_Q1 41 hsz0 [10, 11, 12, 13, 14, 15, 16, 17, 18, 5] (fun k => (R2 k)) (fun k j => (k = 3 ∧ ((R2 j)))) (fun _ _ h => h.2) [qi (.pointer (some ⟨x, 0, none⟩)), qi (.pointer (some ⟨x, 0, none⟩)), qi (.pointer (some ⟨x, 0, none⟩)), qi (.pointer (some ⟨p, 0, none⟩)), qv 0, qi (.slice ab b.length cb), qv 1, qv 2, qi (.int .i64 0), qi (.int .i64 0)] ⟨qi_stable, qi_stable, qi_stable, qi_stable, qv_stable, qi_stable, qv_stable, qv_stable, qi_stable, qi_stable, trivial⟩ [4, 6, 7, 8] ⟨?_, ?_, ?_, ?_, ?_, ?_, ?_, ?_, ?_, ?_, trivial⟩ ?_
  · exact stq (fun E => ex_move rfl (E.v oe0))
  · exact stq (fun E => ex_nil rfl (E.d 0))
  · exact stq (fun E => ex_field rfl Try.underlying62 rfl (by kernel_rfl) (E.d 1))
  · exact stq (fun E => ex_load1 rfl Try.underlying23 rfl (E.d 2) (Cs.lit1 (HWL.out.mod E.m (by intro h2; rcases h2 with ⟨h0, h2⟩ | h2 <;> first | omega | (have hb := HB2.out _ h2; omega) | exact HX2.out h2 | exact HXQ.out h2 | exact HX3.out h2)) rfl))
  · exact stepq_chain rfl
  · exact stq (fun E => ex_move rfl (E.v oe1))
  · exact stepq_chain rfl
  · exact stepq_chain rfl
  · exact stepq_chain rfl
  · exact stq (fun E => ex_assign rfl (E.d 8))
  intro u3_0 hr
  have zu3_0 := hr.size
  have Cx1 := hid (hr.new (S := (fun k => (R2 k))))
  have Hx2 := hid (HDK.out.mod hr (by intro k h1 h2; have hb := HB2.out k h1; omega))
  clear HDK
  clear hr
  refine QChain.go fun Z act E => ?_
  refine qc_callF (args := #[]) rfl (wanted_none rfl) rfl Try.func38 args0 (NewWriter_Q _) ?_
  rintro e u3_1a ⟨g1, rfl, qwr1, hm⟩
  have zu3_1a := hm.size
  refine ⟨_, rfl, hm.mono (fun _ _ h => h.elim), (fun _ => rfl), ?_⟩
  intro u3_1 hr
  have zu3_1 := hr.size
  have Hx3 := hid ((qwr1.widen (R' := (fun k => (New u3_0 u3_1a k))) (fun _ h => h) (Nat.le_refl _)).mod hr (by intro k h1 h2; omega))
  have hmr := Mod.after hm hr
  have Hx4 := hid (Hx2.out.mod hmr (by intro k h1 h2; have hb := HB2.out k h1; omega))
  clear Hx2
  clear hmr
  have Cx5 := hid (Cx1.out.go hm hr)
  clear Cx1 hm hr Z act E qwr1
  refine QChain.go fun Z act E => ?_
  refine qc_callF (args := #[.pointer (some ⟨g1, 0, none⟩), .slice ab b.length cb]) rfl (wanted_none rfl) rfl Try.func39 (args2 (chv (v := .pointer (some ⟨g1, 0, none⟩)) (E.d 4)) (E.d 5)) (WRow_W Hx3.out (HB.out.mod Cx5.out (by intro k h1 h2; first | omega | (have hb := HB3.out k h1; omega) | (have hb := HB2.out k h2; omega) | exact HQ2.out k h1 h2 | exact HQ2.out k h2 h1 | exact HQ3.out k h1 h2 | exact HQ3.out k h2 h1 | exact H23.out k h1 h2 | exact H23.out k h2 h1 | (have hb := HB3.out k h1; have hb2 := HB2.out k h2; omega) | exact HX2.out (h2 ▸ h1) | exact HX2.out (h1 ▸ h2) | exact HXQ.out (h2 ▸ h1) | exact HXQ.out (h1 ▸ h2) | exact HX3.out (h2 ▸ h1) | exact HX3.out (h1 ▸ h2))) (sN HB3) (by omega)) ?_
  rintro e u3_2a ⟨rfl, qwr1, hm⟩
  have zu3_2a := hm.size
  refine ⟨_, rfl, hm.mono (by intro k hk h; omega), (fun _ => rfl), ?_⟩
  intro u3_2 hr
  have zu3_2 := hr.size
  have Hx6 := hid ((qwr1.widen (R' := (fun k => (New u3_0 u3_1a k) ∨ (New u3_1 u3_2a k))) (fun _ h => h) (Nat.le_refl _)).mod hr (by intro k h1 h2; omega))
  have hmr := hm.two hr
  have Hx7 := hid (Hx4.out.mod hmr (by intro k h1 h2; have hb := HB2.out k h1; omega))
  clear Hx4
  clear hmr
  have Cx8 := hid (Cx5.out.goM hm hr (by intro k h0 h2; first | omega | exact h2))
  clear Cx5 hm hr Z act E qwr1 Hx3
  refine QChain.go fun Z act E => ?_
  refine qc_callF (args := #[.pointer (some ⟨g1, 0, none⟩)]) rfl (wanted_none rfl) rfl Try.func40 (args1 (chv (v := .pointer (some ⟨g1, 0, none⟩)) (E.d 6))) (WBytes_Q Hx6.out) ?_
  rintro e u3_3a ⟨v_a1, rfl, qa1, hm⟩
  obtain ⟨ao_a1, cap_a1, rfl⟩ := qa1.shape
  have zu3_3a := hm.size
  refine ⟨_, rfl, hm.mono (fun _ _ h => h.elim), (fun _ => rfl), ?_⟩
  intro u3_3 hr
  have zu3_3 := hr.size
  have Hx9 := hid ((qa1.widen (R' := (fun k => (New u3_2 u3_3a k))) (fun _ h => h) (Nat.le_refl _)).mod hr (by intro k h1 h2; omega))
  have hmr := Mod.after hm hr
  have Hx10 := hid (Hx7.out.mod hmr (by intro k h1 h2; have hb := HB2.out k h1; omega))
  have Hx11 := hid (Hx6.out.mod hmr (by intro k h1 h2; omega))
  clear Hx7 Hx6
  clear hmr
  have Cx12 := hid (Cx8.out.go hm hr)
  clear Cx8 hm hr Z act E qa1
  refine QChain.go fun Z act E => ?_
  refine qc_callF (args := #[.pointer (some ⟨p, 0, none⟩), .slice ao_a1 ((encR b).length) cap_a1]) rfl (wanted_none rfl) rfl Try.func21 (args2 (E.d 3) (chv (v := .slice ao_a1 ((encR b).length) cap_a1) (E.d 7))) (Append_W Hx10.out Hx9.out.rd (by intro k h1 h2; have hb := HB2.out k h2; omega) (by omega) (dErr_live HD1.out)) ?_
  rintro e u3_4a ⟨rfl, qdk, hm⟩
  have zu3_4a := hm.size
  refine ⟨_, rfl, hm.mono (by intro k hk h; first | omega | exact Or.inl ⟨(by have hb := HB2.out k h; omega), ⟨rfl, h⟩⟩), (fun _ => rfl), ?_⟩
  intro u3_4 hr
  have zu3_4 := hr.size
  have Hx13 := hid ((qdk.widen (R' := (fun k => (R2 k) ∨ (New u3_3 u3_4a k))) (fun _ h => h) (Nat.le_refl _)).mod hr (by intro k h1 h2; rcases h1 with h1 | h1 <;> first | omega | (have hb := HB2.out k h1; omega) | exact HX2.out (h2 ▸ h1) | exact HX2.out (h1 ▸ h2) | exact HXQ.out (h2 ▸ h1) | exact HXQ.out (h1 ▸ h2) | exact HX3.out (h2 ▸ h1) | exact HX3.out (h1 ▸ h2)))
  have hmr := hm.two hr
  have Hx14 := hid (Hx11.out.mod hmr (by intro k h1 h2; rcases h2 with h2 | h2 <;> first | omega | (have hb := HB2.out k h2; omega) | exact HX2.out (h2 ▸ h1) | exact HX2.out (h1 ▸ h2) | exact HXQ.out (h2 ▸ h1) | exact HXQ.out (h1 ▸ h2) | exact HX3.out (h2 ▸ h1) | exact HX3.out (h1 ▸ h2)))
  have Hx15 := hid (Hx9.out.mod hmr (by intro k h1 h2; rcases h2 with h2 | h2 <;> first | omega | (have hb := HB2.out k h2; omega) | exact HX2.out (h2 ▸ h1) | exact HX2.out (h1 ▸ h2) | exact HXQ.out (h2 ▸ h1) | exact HXQ.out (h1 ▸ h2) | exact HX3.out (h2 ▸ h1) | exact HX3.out (h1 ▸ h2)))
  clear Hx11 Hx9
  clear hmr
  have Cx16 := hid (Cx12.out.goM hm hr (fun _ _ h => h))
  clear Cx12 hm hr Z act E qdk Hx10
  clear Hx14
  clear Hx15
  refine QChain.nil fun vs hl hzz hrows hne => ?_
  obtain ⟨Z, hYZ, hZb, hV⟩ := hzz
  have f0 := fvi hV hl 0
  have f4 := fvc hV hl 4
  have f5 := fvi hV hl 5
  have f6 := fvc hV hl 6
  have f7 := fvc hV hl 7
  have f8 := fvi hV hl 8
  have f9 := fvi hV hl 9
  rw [show vs = [gw vs 0, gw vs 1, gw vs 2, gw vs 3, gw vs 4, gw vs 5, gw vs 6, gw vs 7, gw vs 8, gw vs 9] from (gw_eta hl).trans rfl]
  have ha0 := HA0.out
  subst ha0
  clear HA0 hV hYZ hZb hsz0 hrows hne oe0 oe1
  simp only [putAll, Act.put, List.setIfInBounds_toArray, List.set_cons_zero, List.set_cons_succ, f0, f4, f5, f6, f7, f8, f9]
  clear hl f0 f4 f5 f6 f7 f8 f9
  go_upto_region 4 with (fail)
  refine wp_region_U 41 [19, 20] [0, 1] (fun a0 HA0 => ?_)
  have oe5 := ev HA0 5 rfl
  refine QSeq.pure rfl _ (fun E => ex_move rfl (E.v oe5)) ?_
  refine QSeq.pure rfl (.bool false) (fun E => ex_binE rfl (E.d 0 0) rfl (guard_ints _ _ _ _ _ _) (run_neq_i _ _ _ Try.underlying26) (congrArg Value.bool (ne_ff rfl))) ?_
  refine QSeq.nil (t' := [_, _]) rfl ?_
  obtain rfl := HA0.out
  clear HA0 oe5
  simp only [pz, Act.put, List.setIfInBounds_toArray, List.set_cons_zero, List.set_cons_succ]
  have HD2 := Lib.hid hd2
  clear hd2
  go_upto_region 6 with (fail)
  refine wp_region_U 41 [22, 23, 24, 25, 26, 6] [0, 1, 2, 3, 4, 5] (fun a0 HA0 => ?_)
  have oe0 := ev HA0 0 rfl
  refine QSeq.pure rfl _ (fun E => ex_move rfl (E.v oe0)) ?_
  refine QSeq.pure rfl (.pointer (some ⟨x, 0, none⟩)) (fun E => ex_nil rfl (E.d 0 0)) ?_
  refine QSeq.pure rfl (.pointer (some ⟨x, 0, none⟩)) (fun E => ex_field rfl Try.underlying62 rfl (by kernel_rfl) (E.d 1 0)) ?_
  refine QSeq.pure rfl _ (fun E => ex_load1 rfl Try.underlying23 rfl (E.d 2 0) (Cs.lit1 (HWL.out.mod Cx16.out (by intro h2; first | omega | (have hb := HB2.out _ h2; omega) | exact HX2.out h2 | exact HXQ.out h2 | exact HX3.out h2)) rfl)) ?_
  refine QSeq.call rfl rfl Try.func37 (Sync_W Hx13.out (dErr_dead HD2.out)) (fun E => args1 (E.d 3 0)) ?_
  rintro e u6_4 ⟨rfl, qdk, hm⟩
  refine ⟨_, rfl, ?_⟩
  have Hx17 := hid qdk
  have zu6_4 := hm.size
  have Cx18 := hid (show Mod (fun k => (R2 k) ∨ (New u3_3 u3_4a k)) u3_4 u6_4 from hm)
  clear hm
  clear qdk Hx13
  refine QSeq.pure rfl _ (fun E => ex_assign rfl (E.d 4 0)) ?_
  refine QSeq.nil (t' := [_, _, _, _, _, _]) rfl ?_
  obtain rfl := HA0.out
  clear HA0 oe0
  simp only [pz, Act.put, List.setIfInBounds_toArray, List.set_cons_zero, List.set_cons_succ]
  go_upto_region 7 with (fail)
  refine wp_region_U 41 [27, 28] [0, 1] (fun a0 HA0 => ?_)
  have oe6 := ev HA0 6 rfl
  refine QSeq.pure rfl _ (fun E => ex_move rfl (E.v oe6)) ?_
  refine QSeq.pure rfl (.bool true) (fun E => ex_binE rfl (E.d 0 0) rfl (guard_ints _ _ _ _ _ _) (run_neq_i _ _ _ Try.underlying26) (congrArg Value.bool (ne_tt (by decide)))) ?_
  refine QSeq.nil (t' := [_, _]) rfl ?_
  obtain rfl := HA0.out
  clear HA0 oe6
  simp only [pz, Act.put, List.setIfInBounds_toArray, List.set_cons_zero, List.set_cons_succ]
  go_upto_region 8 with (fail)
  refine wp_region_U 41 [29, 4] [0, 1] (fun a0 HA0 => ?_)
  have oe6 := ev HA0 6 rfl
  refine QSeq.pure rfl _ (fun E => ex_move rfl (E.v oe6)) ?_
  refine QSeq.pure rfl _ (fun E => ex_assign rfl (E.d 0 0)) ?_
  refine QSeq.nil (t' := [_, _]) rfl ?_
  obtain rfl := HA0.out
  clear HA0 oe6
  simp only [pz, Act.put, List.setIfInBounds_toArray, List.set_cons_zero, List.set_cons_succ]
  go_wp2
  go_ret
  refine ⟨rfl, u6_4, by omega, by omega, Hx17.out.widen (by intro k h1; rcases h1 with h1 | h1 <;> first | exact Or.inl h1 | (right; omega)) (Nat.le_refl _), ⟨_, ((HWL.out.mod Cx16.out (by intro h2; first | omega | (have hb := HB2.out _ h2; omega) | exact HX2.out h2 | exact HXQ.out h2 | exact HX3.out h2)).mod Cx18.out (by intro h2; rcases h2 with h2 | h2 <;> first | omega | (have hb := HB2.out _ h2; omega) | exact HX2.out h2 | exact HXQ.out h2 | exact HX3.out h2)), Or.inl HX1.out, ((HOL.out.mod Cx16.out (by intro k h1 h2; first | omega | (have hb := HBQ.out k h1; omega) | (have hb := HB2.out k h2; omega) | exact HQ2.out k h1 h2 | exact HQ2.out k h2 h1 | exact HQ3.out k h1 h2 | exact HQ3.out k h2 h1 | exact H23.out k h1 h2 | exact H23.out k h2 h1 | (have hb := HBQ.out k h1; have hb2 := HB2.out k h2; omega) | exact HX2.out (h2 ▸ h1) | exact HX2.out (h1 ▸ h2) | exact HXQ.out (h2 ▸ h1) | exact HXQ.out (h1 ▸ h2) | exact HX3.out (h2 ▸ h1) | exact HX3.out (h1 ▸ h2)) (by intro k h1 h2; first | omega | (have hb := HBQ.out k h1; omega) | (have hb := HB2.out k h2; omega) | exact HQ2.out k h1 h2 | exact HQ2.out k h2 h1 | exact HQ3.out k h1 h2 | exact HQ3.out k h2 h1 | exact H23.out k h1 h2 | exact H23.out k h2 h1 | (have hb := HBQ.out k h1; have hb2 := HB2.out k h2; omega) | exact HX2.out (h2 ▸ h1) | exact HX2.out (h1 ▸ h2) | exact HXQ.out (h2 ▸ h1) | exact HXQ.out (h1 ▸ h2) | exact HX3.out (h2 ▸ h1) | exact HX3.out (h1 ▸ h2))).mod Cx18.out (by intro k h1 h2; rcases h2 with h2 | h2 <;> first | omega | (have hb := HBQ.out k h1; omega) | (have hb := HB2.out k h2; omega) | exact HQ2.out k h1 h2 | exact HQ2.out k h2 h1 | exact HQ3.out k h1 h2 | exact HQ3.out k h2 h1 | exact H23.out k h1 h2 | exact H23.out k h2 h1 | (have hb := HBQ.out k h1; have hb2 := HB2.out k h2; omega) | exact HX2.out (h2 ▸ h1) | exact HX2.out (h1 ▸ h2) | exact HXQ.out (h2 ▸ h1) | exact HXQ.out (h1 ▸ h2) | exact HX3.out (h2 ▸ h1) | exact HX3.out (h1 ▸ h2)) (by intro k h1 h2; rcases h2 with h2 | h2 <;> first | omega | (have hb := HBQ.out k h1; omega) | (have hb := HB2.out k h2; omega) | exact HQ2.out k h1 h2 | exact HQ2.out k h2 h1 | exact HQ3.out k h1 h2 | exact HQ3.out k h2 h1 | exact H23.out k h1 h2 | exact H23.out k h2 h1 | (have hb := HBQ.out k h1; have hb2 := HB2.out k h2; omega) | exact HX2.out (h2 ▸ h1) | exact HX2.out (h1 ▸ h2) | exact HXQ.out (h2 ▸ h1) | exact HXQ.out (h1 ▸ h2) | exact HX3.out (h2 ▸ h1) | exact HX3.out (h1 ▸ h2))).widen (fun k h1 => ⟨Or.inl (HQ1.out k h1).1, (HQ1.out k h1).2⟩) (fun k h1 => ⟨Or.inl (HQ1.out k h1).1, (HQ1.out k h1).2⟩)⟩, ((HM0.out.trans Cx16.out (by intro k h1 h2; first | exact h2 | omega | exact Or.inl h2 | exact Or.inr h2 | exact Or.inr (Or.inl h2) | exact Or.inr (Or.inr h2) | (have hb := HB2.out k h2; omega))).trans Cx18.out (by intro k h1 h2; rcases h2 with h2 | h2 <;> first | exact h2 | omega | exact Or.inl h2 | exact Or.inr h2 | exact Or.inr (Or.inl h2) | exact Or.inr (Or.inr h2) | (have hb := HB2.out k h2; omega))).mono (fun k _ h => by rcases h with h | h | h <;> first | exact Or.inl (HQ1.out k h).1 | exact Or.inr h | exact Or.inl (h ▸ HX1.out))⟩
set_option maxHeartbeats 4000000 in
theorem Put_C {R1 R2 R3 : Nat → Prop} {N M x p : Nat} {rs : List (List Int)} {s : DS} {v : Value} {b : List Int} {w : World} (hw : WlR R1 w x p rs) (hd : DkR R2 N w p s) (hb : RdR R3 M w v b) (hB1 : ∀ k, R1 k → k < w.heap.size) (hB2 : ∀ k, R2 k → k < w.heap.size) (hB3 : ∀ k, R3 k → k < w.heap.size)
    (h12 : ∀ k, R1 k → R2 k → False) (h13 : ∀ k, R3 k → R1 k → False) (h23 : ∀ k, R3 k → R2 k → False) (hbl : b.length ≤ 65536) (hN : N ≤ 900000) (hrl : rs.length ≤ 900000) (hd1 : (dStep s).dead = false) (hd2 : (dStep (dAppend s (encR b))).dead = false) :
    Calls Try.prog 12 #[.pointer (some ⟨x, 0, none⟩), v] w fun e w' => e = .returned (.int .i64 0) ∧ PutTo R1 R2 (N + (encR b).length) w w' x p (rs ++ [b]) (dSync (dAppend s (encR b))) := by
  obtain ⟨v0, hc, hx, ho0⟩ := hw
  obtain ⟨Q1, hQ1, ho⟩ : ∃ Q : Nat → Prop, (∀ k, Q k → R1 k ∧ k ≠ x) ∧ OwS RwR 22 Q Q w v0 rs := ⟨_, fun _ h => h, ho0⟩
  obtain ⟨ao, cap, rfl⟩ := ho.shape
  obtain ⟨ab, cb, rfl⟩ := hb.shape
  have hxl := hc.lt
  have HWL := Lib.hid hc
  have HOL := Lib.hid ho
  have HQ1 := Lib.hid hQ1
  have HDK := Lib.hid hd
  have HB := Lib.hid hb
  have HBQ := hid (fun k (h : Q1 k) => hB1 k (hQ1 k h).1)
  have HB2 := Lib.hid hB2
  have HB3 := Lib.hid hB3
  have HQ2 := hid (fun k (h : Q1 k) => h12 k (hQ1 k h).1)
  have HQ3 := hid (fun k (h : Q1 k) (h3 : R3 k) => h13 k h3 (hQ1 k h).1)
  have H23 := hid (fun k (h : R2 k) (h3 : R3 k) => h23 k h3 h)
  have HX2 := hid (fun (h : R2 x) => h12 x hx h)
  have HXQ := hid (fun (h : Q1 x) => (hQ1 x h).2 rfl)
  have HX3 := hid (fun (h : R3 x) => h13 x h hx)
  have HX1 := Lib.hid hx
  have hel := encR_len (b := b) (by omega)
  clear hc ho0 ho hQ1 hd hb hB1 hB2 hB3 h12 h13 h23 hx
  go_enter Try.func12, Try.ntmps12
  go_upto_region 1 with (fail)
  have HM0 := hid (Mod.refl (fun k => (k = x) ∨ (Q1 k) ∨ (R2 k)) w)
  go_upto_region 1 with (fail)
  refine wp_region_U 41 [7, 8, 9] [0, 1, 2] (fun a0 HA0 => ?_)
  have oe1 := ev HA0 1 rfl
  refine QSeq.pure rfl _ (fun E => ex_move rfl (E.v oe1)) ?_
  refine QSeq.pure rfl (.int .i64 b.length) (fun E => ex_lenS rfl (E.d 0 0) Try.underlying22) ?_
  refine QSeq.pure rfl (.bool false) (fun E => ex_binE rfl (E.d 1 0) rfl (guard_ints _ _ _ _ _ _) (run_gtr_i _ _ _ Try.underlying3) (congrArg Value.bool (decide_eq_false (by omega)))) ?_
  refine QSeq.nil (t' := [_, _, _]) rfl ?_
  obtain rfl := HA0.out
  clear HA0 oe1
  simp only [pz, Act.put, List.setIfInBounds_toArray, List.set_cons_zero, List.set_cons_succ]
  have HD1 := Lib.hid hd1
  clear hd1
  go_upto_region 3 with (fail)
  generalize ha0 : Act.mk _ _ = a0
  have oe0 : a0.eval (.tmp 0) = .pointer (some ⟨x, 0, none⟩) := by rw [← ha0]; rfl
  have oe1 : a0.eval (.tmp 1) = .slice ab b.length cb := by rw [← ha0]; rfl
  have hsz0 : a0.tmps.size = 41 := by rw [← ha0]; rfl
  have HA0 := hid ha0
  clear ha0
  refine wp_region_Q1 41 hsz0 [10, 11, 12, 13, 14, 15, 16, 17, 18, 5] (fun k => (R2 k)) (fun k j => (k = 3 ∧ ((R2 j)))) (fun _ _ h => h.2) [qi (.pointer (some ⟨x, 0, none⟩)), qi (.pointer (some ⟨x, 0, none⟩)), qi (.pointer (some ⟨x, 0, none⟩)), qi (.pointer (some ⟨p, 0, none⟩)), qv 0, qi (.slice ab b.length cb), qv 1, qv 2, qi (.int .i64 0), qi (.int .i64 0)] ⟨qi_stable, qi_stable, qi_stable, qi_stable, qv_stable, qi_stable, qv_stable, qv_stable, qi_stable, qi_stable, trivial⟩ [4, 6, 7, 8] ⟨?_, ?_, ?_, ?_, ?_, ?_, ?_, ?_, ?_, ?_, trivial⟩ ?_
  · exact stq (fun E => ex_move rfl (E.v oe0))
  · exact stq (fun E => ex_nil rfl (E.d 0))
  · exact stq (fun E => ex_field rfl Try.underlying62 rfl (by kernel_rfl) (E.d 1))
  · exact stq (fun E => ex_load1 rfl Try.underlying23 rfl (E.d 2) (Cs.lit1 (HWL.out.mod E.m (by intro h2; rcases h2 with ⟨h0, h2⟩ | h2 <;> first | omega | (have hb := HB2.out _ h2; omega) | exact HX2.out h2 | exact HXQ.out h2 | exact HX3.out h2)) rfl))
  · exact stepq_chain rfl
  · exact stq (fun E => ex_move rfl (E.v oe1))
  · exact stepq_chain rfl
  · exact stepq_chain rfl
  · exact stepq_chain rfl
  · exact stq (fun E => ex_assign rfl (E.d 8))
  intro u3_0 hr
  have zu3_0 := hr.size
  have Cx1 := hid (hr.new (S := (fun k => (R2 k))))
  have Hx2 := hid (HDK.out.mod hr (by intro k h1 h2; have hb := HB2.out k h1; omega))
  clear HDK
  clear hr
  refine QChain.go fun Z act E => ?_
  refine qc_callF (args := #[]) rfl (wanted_none rfl) rfl Try.func38 args0 (NewWriter_Q _) ?_
  rintro e u3_1a ⟨g1, rfl, qwr1, hm⟩
  have zu3_1a := hm.size
  refine ⟨_, rfl, hm.mono (fun _ _ h => h.elim), (fun _ => rfl), ?_⟩
  intro u3_1 hr
  have zu3_1 := hr.size
  have Hx3 := hid ((qwr1.widen (R' := (fun k => (New u3_0 u3_1a k))) (fun _ h => h) (Nat.le_refl _)).mod hr (by intro k h1 h2; omega))
  have hmr := Mod.after hm hr
  have Hx4 := hid (Hx2.out.mod hmr (by intro k h1 h2; have hb := HB2.out k h1; omega))
  clear Hx2
  clear hmr
  have Cx5 := hid (Cx1.out.go hm hr)
  clear Cx1 hm hr Z act E qwr1
  refine QChain.go fun Z act E => ?_
  refine qc_callF (args := #[.pointer (some ⟨g1, 0, none⟩), .slice ab b.length cb]) rfl (wanted_none rfl) rfl Try.func39 (args2 (chv (v := .pointer (some ⟨g1, 0, none⟩)) (E.d 4)) (E.d 5)) (WRow_W Hx3.out (HB.out.mod Cx5.out (by intro k h1 h2; first | omega | (have hb := HB3.out k h1; omega) | (have hb := HB2.out k h2; omega) | exact HQ2.out k h1 h2 | exact HQ2.out k h2 h1 | exact HQ3.out k h1 h2 | exact HQ3.out k h2 h1 | exact H23.out k h1 h2 | exact H23.out k h2 h1 | (have hb := HB3.out k h1; have hb2 := HB2.out k h2; omega) | exact HX2.out (h2 ▸ h1) | exact HX2.out (h1 ▸ h2) | exact HXQ.out (h2 ▸ h1) | exact HXQ.out (h1 ▸ h2) | exact HX3.out (h2 ▸ h1) | exact HX3.out (h1 ▸ h2))) (sN HB3) (by omega)) ?_
  rintro e u3_2a ⟨rfl, qwr1, hm⟩
  have zu3_2a := hm.size
  refine ⟨_, rfl, hm.mono (by intro k hk h; omega), (fun _ => rfl), ?_⟩
  intro u3_2 hr
  have zu3_2 := hr.size
  have Hx6 := hid ((qwr1.widen (R' := (fun k => (New u3_0 u3_1a k) ∨ (New u3_1 u3_2a k))) (fun _ h => h) (Nat.le_refl _)).mod hr (by intro k h1 h2; omega))
  have hmr := hm.two hr
  have Hx7 := hid (Hx4.out.mod hmr (by intro k h1 h2; have hb := HB2.out k h1; omega))
  clear Hx4
  clear hmr
  have Cx8 := hid (Cx5.out.goM hm hr (by intro k h0 h2; first | omega | exact h2))
  clear Cx5 hm hr Z act E qwr1 Hx3
  refine QChain.go fun Z act E => ?_
  refine qc_callF (args := #[.pointer (some ⟨g1, 0, none⟩)]) rfl (wanted_none rfl) rfl Try.func40 (args1 (chv (v := .pointer (some ⟨g1, 0, none⟩)) (E.d 6))) (WBytes_Q Hx6.out) ?_
  rintro e u3_3a ⟨v_a1, rfl, qa1, hm⟩
  obtain ⟨ao_a1, cap_a1, rfl⟩ := qa1.shape
  have zu3_3a := hm.size
  refine ⟨_, rfl, hm.mono (fun _ _ h => h.elim), (fun _ => rfl), ?_⟩
  intro u3_3 hr
  have zu3_3 := hr.size
  have Hx9 := hid ((qa1.widen (R' := (fun k => (New u3_2 u3_3a k))) (fun _ h => h) (Nat.le_refl _)).mod hr (by intro k h1 h2; omega))
  have hmr := Mod.after hm hr
  have Hx10 := hid (Hx7.out.mod hmr (by intro k h1 h2; have hb := HB2.out k h1; omega))
  have Hx11 := hid (Hx6.out.mod hmr (by intro k h1 h2; omega))
  clear Hx7 Hx6
  clear hmr
  have Cx12 := hid (Cx8.out.go hm hr)
  clear Cx8 hm hr Z act E qa1
  refine QChain.go fun Z act E => ?_
  refine qc_callF (args := #[.pointer (some ⟨p, 0, none⟩), .slice ao_a1 ((encR b).length) cap_a1]) rfl (wanted_none rfl) rfl Try.func21 (args2 (E.d 3) (chv (v := .slice ao_a1 ((encR b).length) cap_a1) (E.d 7))) (Append_W Hx10.out Hx9.out.rd (by intro k h1 h2; have hb := HB2.out k h2; omega) (by omega) (dErr_live HD1.out)) ?_
  rintro e u3_4a ⟨rfl, qdk, hm⟩
  have zu3_4a := hm.size
  refine ⟨_, rfl, hm.mono (by intro k hk h; first | omega | exact Or.inl ⟨(by have hb := HB2.out k h; omega), ⟨rfl, h⟩⟩), (fun _ => rfl), ?_⟩
  intro u3_4 hr
  have zu3_4 := hr.size
  have Hx13 := hid ((qdk.widen (R' := (fun k => (R2 k) ∨ (New u3_3 u3_4a k))) (fun _ h => h) (Nat.le_refl _)).mod hr (by intro k h1 h2; rcases h1 with h1 | h1 <;> first | omega | (have hb := HB2.out k h1; omega) | exact HX2.out (h2 ▸ h1) | exact HX2.out (h1 ▸ h2) | exact HXQ.out (h2 ▸ h1) | exact HXQ.out (h1 ▸ h2) | exact HX3.out (h2 ▸ h1) | exact HX3.out (h1 ▸ h2)))
  have hmr := hm.two hr
  have Hx14 := hid (Hx11.out.mod hmr (by intro k h1 h2; rcases h2 with h2 | h2 <;> first | omega | (have hb := HB2.out k h2; omega) | exact HX2.out (h2 ▸ h1) | exact HX2.out (h1 ▸ h2) | exact HXQ.out (h2 ▸ h1) | exact HXQ.out (h1 ▸ h2) | exact HX3.out (h2 ▸ h1) | exact HX3.out (h1 ▸ h2)))
  have Hx15 := hid (Hx9.out.mod hmr (by intro k h1 h2; rcases h2 with h2 | h2 <;> first | omega | (have hb := HB2.out k h2; omega) | exact HX2.out (h2 ▸ h1) | exact HX2.out (h1 ▸ h2) | exact HXQ.out (h2 ▸ h1) | exact HXQ.out (h1 ▸ h2) | exact HX3.out (h2 ▸ h1) | exact HX3.out (h1 ▸ h2)))
  clear Hx11 Hx9
  clear hmr
  have Cx16 := hid (Cx12.out.goM hm hr (fun _ _ h => h))
  clear Cx12 hm hr Z act E qdk Hx10
  clear Hx14
  clear Hx15
  refine QChain.nil fun vs hl hzz hrows hne => ?_
  obtain ⟨Z, hYZ, hZb, hV⟩ := hzz
  have f0 := fvi hV hl 0
  have f4 := fvc hV hl 4
  have f5 := fvi hV hl 5
  have f6 := fvc hV hl 6
  have f7 := fvc hV hl 7
  have f8 := fvi hV hl 8
  have f9 := fvi hV hl 9
  rw [show vs = [gw vs 0, gw vs 1, gw vs 2, gw vs 3, gw vs 4, gw vs 5, gw vs 6, gw vs 7, gw vs 8, gw vs 9] from (gw_eta hl).trans rfl]
  have ha0 := HA0.out
  subst ha0
  clear HA0 hV hYZ hZb hsz0 hrows hne oe0 oe1
  simp only [putAll, Act.put, List.setIfInBounds_toArray, List.set_cons_zero, List.set_cons_succ, f0, f4, f5, f6, f7, f8, f9]
  clear hl f0 f4 f5 f6 f7 f8 f9
  go_upto_region 4 with (fail)
  refine wp_region_U 41 [19, 20] [0, 1] (fun a0 HA0 => ?_)
  have oe5 := ev HA0 5 rfl
  refine QSeq.pure rfl _ (fun E => ex_move rfl (E.v oe5)) ?_
  refine QSeq.pure rfl (.bool false) (fun E => ex_binE rfl (E.d 0 0) rfl (guard_ints _ _ _ _ _ _) (run_neq_i _ _ _ Try.underlying26) (congrArg Value.bool (ne_ff rfl))) ?_
  refine QSeq.nil (t' := [_, _]) rfl ?_
  obtain rfl := HA0.out
  clear HA0 oe5
  simp only [pz, Act.put, List.setIfInBounds_toArray, List.set_cons_zero, List.set_cons_succ]
  have HD2 := Lib.hid hd2
  clear hd2
  go_upto_region 6 with (fail)
  refine wp_region_U 41 [22, 23, 24, 25, 26, 6] [0, 1, 2, 3, 4, 5] (fun a0 HA0 => ?_)
  have oe0 := ev HA0 0 rfl
  refine QSeq.pure rfl _ (fun E => ex_move rfl (E.v oe0)) ?_
  refine QSeq.pure rfl (.pointer (some ⟨x, 0, none⟩)) (fun E => ex_nil rfl (E.d 0 0)) ?_
  refine QSeq.pure rfl (.pointer (some ⟨x, 0, none⟩)) (fun E => ex_field rfl Try.underlying62 rfl (by kernel_rfl) (E.d 1 0)) ?_
  refine QSeq.pure rfl _ (fun E => ex_load1 rfl Try.underlying23 rfl (E.d 2 0) (Cs.lit1 (HWL.out.mod Cx16.out (by intro h2; first | omega | (have hb := HB2.out _ h2; omega) | exact HX2.out h2 | exact HXQ.out h2 | exact HX3.out h2)) rfl)) ?_
  refine QSeq.call rfl rfl Try.func37 (Sync_W Hx13.out (dErr_live HD2.out)) (fun E => args1 (E.d 3 0)) ?_
  rintro e u6_4 ⟨rfl, qdk, hm⟩
  refine ⟨_, rfl, ?_⟩
  have Hx17 := hid qdk
  have zu6_4 := hm.size
  have Cx18 := hid (show Mod (fun k => (R2 k) ∨ (New u3_3 u3_4a k)) u3_4 u6_4 from hm)
  clear hm
  clear qdk Hx13
  refine QSeq.pure rfl _ (fun E => ex_assign rfl (E.d 4 0)) ?_
  refine QSeq.nil (t' := [_, _, _, _, _, _]) rfl ?_
  obtain rfl := HA0.out
  clear HA0 oe0
  simp only [pz, Act.put, List.setIfInBounds_toArray, List.set_cons_zero, List.set_cons_succ]
  go_upto_region 7 with (fail)
  refine wp_region_U 41 [27, 28] [0, 1] (fun a0 HA0 => ?_)
  have oe6 := ev HA0 6 rfl
  refine QSeq.pure rfl _ (fun E => ex_move rfl (E.v oe6)) ?_
  refine QSeq.pure rfl (.bool false) (fun E => ex_binE rfl (E.d 0 0) rfl (guard_ints _ _ _ _ _ _) (run_neq_i _ _ _ Try.underlying26) (congrArg Value.bool (ne_ff rfl))) ?_
  refine QSeq.nil (t' := [_, _]) rfl ?_
  obtain rfl := HA0.out
  clear HA0 oe6
  simp only [pz, Act.put, List.setIfInBounds_toArray, List.set_cons_zero, List.set_cons_succ]
  have HNB := hid (show OwR (fun k => New w w k) 900000 u6_4 (.slice none 0 0) [] from ⟨Own.nil _ _ _ _, (fun g h => by cases h), Nat.zero_le _⟩)
  go_upto_region 9 with (fail)
  generalize ha0 : Act.mk _ _ = a0
  have oe0 : a0.eval (.tmp 0) = .pointer (some ⟨x, 0, none⟩) := by rw [← ha0]; rfl
  have oe1 : a0.eval (.tmp 1) = .slice ab b.length cb := by rw [← ha0]; rfl
  have hsz0 : a0.tmps.size = 41 := by rw [← ha0]; rfl
  have HA0 := hid ha0
  clear ha0
  refine wp_region_Q1 41 hsz0 [30, 31, 32, 33, 34, 35, 36, 37, 38, 39, 40, 52] (fun k => (Q1 k) ∨ (k = x)) (fun k j => (k = 2 ∧ ((Q1 j))) ∨ (k = 3 ∧ ((j = x)))) (by intro k j h; (try dsimp only at h ⊢); rcases h with ⟨-, h⟩ | ⟨-, h⟩; (exact Or.inl (h)); (exact Or.inr (h))) [qi (.pointer (some ⟨x, 0, none⟩)), qi (.pointer (some ⟨x, 0, none⟩)), qi (.pointer (some ⟨x, 0, none⟩)), qi (.pointer (some ⟨x, 1, none⟩)), qi (.slice ao rs.length cap), qi (.slice ab b.length cb), qv 0, qv 1, qv 2, qi (.pointer (some ⟨x, 0, none⟩)), qi (.pointer (some ⟨x, 1, none⟩)), qv 3] ⟨qi_stable, qi_stable, qi_stable, qi_stable, qi_stable, qi_stable, qv_stable, qv_stable, qv_stable, qi_stable, qi_stable, qv_stable, trivial⟩ [6, 7, 8, 11] ⟨?_, ?_, ?_, ?_, ?_, ?_, ?_, ?_, ?_, ?_, ?_, ?_, trivial⟩ ?_
  · exact stq (fun E => ex_move rfl (E.v oe0))
  · exact stq (fun E => ex_move rfl (E.v oe0))
  · exact stq (fun E => ex_nil rfl (E.d 1))
  · exact stq (fun E => ex_field rfl Try.underlying62 rfl (by kernel_rfl) (E.d 2))
  · refine stepq_env rfl rfl rfl fun _ _ _ _ _ _ hm0 _ _ hd hub _ => ?_
    have h3 := hd ⟨3, .data⟩ (by simp) rfl _ rfl
    refine qe_run rfl (wanted_none rfl) (ex_load1 rfl Try.underlying33 rfl h3 (Cs.lit1 (((HWL.out.mod Cx16.out (by intro h2; first | omega | (have hb := HB2.out _ h2; omega) | exact HX2.out h2 | exact HXQ.out h2 | exact HX3.out h2)).mod Cx18.out (by intro h2; rcases h2 with h2 | h2 <;> first | omega | (have hb := HB2.out _ h2; omega) | exact HX2.out h2 | exact HXQ.out h2 | exact HX3.out h2)).mod hm0 (by intro h2; have hu := hub 3 11 rfl (by kernel_rfl); rcases h2 with ⟨h0, kk, hk, h2⟩ | h2 <;> first | omega | (rcases h2 with ⟨hkk, h2⟩ | ⟨hkk, h2⟩ <;> first | omega | (have hb := HBQ.out _ h2; omega) | exact HX2.out h2 | exact HXQ.out h2 | exact HX3.out h2))) rfl)) QE.refl ?_
    rfl
  · exact stq (fun E => ex_move rfl (E.v oe1))
  · exact stepq_chain rfl
  · exact stepq_chain rfl
  · exact stepq_chain rfl
  · exact stq (fun E => ex_nil rfl (E.d 0))
  · exact stq (fun E => ex_field rfl Try.underlying62 rfl (by kernel_rfl) (E.d 9))
  · exact stepq_chain rfl
  intro u9_0 hr
  have zu9_0 := hr.size
  have Cx19 := hid (hr.new (S := (fun k => (Q1 k) ∨ (k = x))))
  have Hx20 := hid (((HWL.out.mod Cx16.out (by intro h2; first | omega | (have hb := HB2.out _ h2; omega) | exact HX2.out h2 | exact HXQ.out h2 | exact HX3.out h2)).mod Cx18.out (by intro h2; rcases h2 with h2 | h2 <;> first | omega | (have hb := HB2.out _ h2; omega) | exact HX2.out h2 | exact HXQ.out h2 | exact HX3.out h2)).mod hr (by intro h2; omega))
  clear HWL
  have Hx21 := hid (((HOL.out.mod Cx16.out (by intro k h1 h2; first | omega | (have hb := HBQ.out k h1; omega) | (have hb := HB2.out k h2; omega) | exact HQ2.out k h1 h2 | exact HQ2.out k h2 h1 | exact HQ3.out k h1 h2 | exact HQ3.out k h2 h1 | exact H23.out k h1 h2 | exact H23.out k h2 h1 | (have hb := HBQ.out k h1; have hb2 := HB2.out k h2; omega) | exact HX2.out (h2 ▸ h1) | exact HX2.out (h1 ▸ h2) | exact HXQ.out (h2 ▸ h1) | exact HXQ.out (h1 ▸ h2) | exact HX3.out (h2 ▸ h1) | exact HX3.out (h1 ▸ h2)) (by intro k h1 h2; first | omega | (have hb := HBQ.out k h1; omega) | (have hb := HB2.out k h2; omega) | exact HQ2.out k h1 h2 | exact HQ2.out k h2 h1 | exact HQ3.out k h1 h2 | exact HQ3.out k h2 h1 | exact H23.out k h1 h2 | exact H23.out k h2 h1 | (have hb := HBQ.out k h1; have hb2 := HB2.out k h2; omega) | exact HX2.out (h2 ▸ h1) | exact HX2.out (h1 ▸ h2) | exact HXQ.out (h2 ▸ h1) | exact HXQ.out (h1 ▸ h2) | exact HX3.out (h2 ▸ h1) | exact HX3.out (h1 ▸ h2))).mod Cx18.out (by intro k h1 h2; rcases h2 with h2 | h2 <;> first | omega | (have hb := HBQ.out k h1; omega) | (have hb := HB2.out k h2; omega) | exact HQ2.out k h1 h2 | exact HQ2.out k h2 h1 | exact HQ3.out k h1 h2 | exact HQ3.out k h2 h1 | exact H23.out k h1 h2 | exact H23.out k h2 h1 | (have hb := HBQ.out k h1; have hb2 := HB2.out k h2; omega) | exact HX2.out (h2 ▸ h1) | exact HX2.out (h1 ▸ h2) | exact HXQ.out (h2 ▸ h1) | exact HXQ.out (h1 ▸ h2) | exact HX3.out (h2 ▸ h1) | exact HX3.out (h1 ▸ h2)) (by intro k h1 h2; rcases h2 with h2 | h2 <;> first | omega | (have hb := HBQ.out k h1; omega) | (have hb := HB2.out k h2; omega) | exact HQ2.out k h1 h2 | exact HQ2.out k h2 h1 | exact HQ3.out k h1 h2 | exact HQ3.out k h2 h1 | exact H23.out k h1 h2 | exact H23.out k h2 h1 | (have hb := HBQ.out k h1; have hb2 := HB2.out k h2; omega) | exact HX2.out (h2 ▸ h1) | exact HX2.out (h1 ▸ h2) | exact HXQ.out (h2 ▸ h1) | exact HXQ.out (h1 ▸ h2) | exact HX3.out (h2 ▸ h1) | exact HX3.out (h1 ▸ h2))).mod hr (by intro k h1 h2; have hb := HBQ.out k h1; omega) (by intro k h1 h2; have hb := HBQ.out k h1; omega))
  clear HOL
  clear hr
  refine QChain.go fun Z act E => ?_
  refine qc_appR rfl (wanted_none rfl) rfl rfl (E.d 5) (HNB.out.mod Cx19.out (by intro k h1 h2; rcases h2 with h2 | h2 <;> first | omega | (have hb := HBQ.out k h2; omega) | exact HX2.out (h2 ▸ h1) | exact HX2.out (h1 ▸ h2) | exact HXQ.out (h2 ▸ h1) | exact HXQ.out (h1 ▸ h2) | exact HX3.out (h2 ▸ h1) | exact HX3.out (h1 ▸ h2))) (((HB.out.mod Cx16.out (by intro k h1 h2; first | omega | (have hb := HB3.out k h1; omega) | (have hb := HB2.out k h2; omega) | exact HQ2.out k h1 h2 | exact HQ2.out k h2 h1 | exact HQ3.out k h1 h2 | exact HQ3.out k h2 h1 | exact H23.out k h1 h2 | exact H23.out k h2 h1 | (have hb := HB3.out k h1; have hb2 := HB2.out k h2; omega) | exact HX2.out (h2 ▸ h1) | exact HX2.out (h1 ▸ h2) | exact HXQ.out (h2 ▸ h1) | exact HXQ.out (h1 ▸ h2) | exact HX3.out (h2 ▸ h1) | exact HX3.out (h1 ▸ h2))).mod Cx18.out (by intro k h1 h2; rcases h2 with h2 | h2 <;> first | omega | (have hb := HB3.out k h1; omega) | (have hb := HB2.out k h2; omega) | exact HQ2.out k h1 h2 | exact HQ2.out k h2 h1 | exact HQ3.out k h1 h2 | exact HQ3.out k h2 h1 | exact H23.out k h1 h2 | exact H23.out k h2 h1 | (have hb := HB3.out k h1; have hb2 := HB2.out k h2; omega) | exact HX2.out (h2 ▸ h1) | exact HX2.out (h1 ▸ h2) | exact HXQ.out (h2 ▸ h1) | exact HXQ.out (h1 ▸ h2) | exact HX3.out (h2 ▸ h1) | exact HX3.out (h1 ▸ h2))).mod Cx19.out (by intro k h1 h2; rcases h2 with h2 | h2 <;> first | omega | (have hb := HB3.out k h1; omega) | (have hb := HBQ.out k h2; omega) | exact HQ2.out k h1 h2 | exact HQ2.out k h2 h1 | exact HQ3.out k h1 h2 | exact HQ3.out k h2 h1 | exact H23.out k h1 h2 | exact H23.out k h2 h1 | (have hb := HB3.out k h1; have hb2 := HBQ.out k h2; omega) | exact HX2.out (h2 ▸ h1) | exact HX2.out (h1 ▸ h2) | exact HXQ.out (h2 ▸ h1) | exact HXQ.out (h1 ▸ h2) | exact HX3.out (h2 ▸ h1) | exact HX3.out (h1 ▸ h2))) (by simpa using (show b.length ≤ 900000 by omega)) ?_
  intro ao11 cap11 u9_1a qnb hm
  have zu9_1a := hm.size
  refine ⟨hm.mono (by intro k hk h; omega), (fun _ => rfl), ?_⟩
  intro u9_1 hr
  have zu9_1 := hr.size
  have Hx22 := hid ((qnb.widen (R' := (fun k => (New w w k) ∨ (New u9_0 u9_1a k))) (fun _ h => h) (Nat.le_refl _)).mod hr (by intro k h1 h2; omega))
  have hmr := hm.two hr
  have Hx23 := hid (Hx20.out.mod hmr (by intro h2; omega))
  have Hx24 := hid (Hx21.out.mod hmr (by intro k h1 h2; have hb := HBQ.out k h1; omega) (by intro k h1 h2; have hb := HBQ.out k h1; omega))
  clear Hx20 Hx21
  clear hmr
  have Cx25 := hid (Cx19.out.goM hm hr (by intro k h0 h2; first | omega | exact Or.inl h2 | exact Or.inr (h2)))
  clear Cx19 hm hr Z act E qnb HNB
  refine QChain.go fun Z act E => ?_
  have ea36 : act.eval (.tmp 36) = .slice ao11 (([] : List Int).length + b.length) cap11 := (chv (v := .slice ao11 (([] : List Int).length + b.length) cap11) (E.d 6))
  refine qc_rows rfl (wanted_none rfl) rfl Try.underlying33 (by decide) (C := #[.slice ao11 (([] : List Int).length + b.length) cap11]) (by simp only [List.map_toArray, List.map_cons, List.map_nil, ea36]; kernel_rfl) ?_
  intro u9_2a qrow hm
  have zl9_7 := qrow.lt
  have zu9_2a := hm.size
  refine ⟨hm.mono (fun _ _ h => h.elim), (fun _ => rfl), ?_⟩
  intro u9_2 hr
  have zu9_2 := hr.size
  have Hx26 := hid (qrow.mod hr (by intro h2; omega))
  have hmr := Mod.after hm hr
  have Hx27 := hid (Hx23.out.mod hmr (by intro h2; omega))
  have Hx28 := hid (Hx24.out.mod hmr (by intro k h1 h2; have hb := HBQ.out k h1; omega) (by intro k h1 h2; have hb := HBQ.out k h1; omega))
  have Hx29 := hid (Hx22.out.mod hmr (by intro k h1 h2; omega))
  clear Hx23 Hx24 Hx22
  clear hmr
  have Cx30 := hid (Cx25.out.go hm hr)
  clear Cx25 hm hr Z act E qrow ea36
  refine QChain.go fun Z act E => ?_
  refine qc_appS (A := RwR) (e := 22) rfl (wanted_none rfl) rfl (.slice none 0 0) 24 Try.underlying33 info_Rw (by rfl) (of_decide_eq_true (by kernel_rfl)) (E.d 4) (chv (v := .slice (some ⟨u9_1.heap.size, 0, none⟩) 1 1) (E.d 7)) (Hx28.out) (RdS.single (R := (fun k => (New w w k) ∨ (New u9_0 u9_1a k) ∨ (k = u9_1.heap.size))) Hx26.out (RwR.mk (b := b) (Hx29.out.rd.widen (R' := (fun k => (New w w k) ∨ (New u9_0 u9_1a k) ∨ (k = u9_1.heap.size))) (by intro k h1; rcases h1 with h1 | h1 <;> first | exact Or.inl h1 | exact Or.inr (Or.inl h1)) (Nat.le_refl _)) (by omega)) (by right; right; rfl)) (by intro k h1 h2; have hb := HBQ.out k h2; omega) (by simp only [List.length_cons, List.length_nil]; omega) (by rw [maxLen_val]; simp only [List.length_cons, List.length_nil]; omega) ?_
  intro ao15 cap15 u9_3a qout hm
  have zu9_3a := hm.size
  refine ⟨hm.mono (by intro k hk h; first | omega | exact Or.inl ⟨(by have hb := HBQ.out k h; omega), Or.inl ⟨rfl, h⟩⟩), (fun _ => rfl), ?_⟩
  intro u9_3 hr
  have zu9_3 := hr.size
  have Hx31 := hid ((qout.widen (R' := (fun k => (Q1 k) ∨ (New u9_2 u9_3a k))) (E' := (fun k => (Q1 k) ∨ (New w w k) ∨ (New u9_0 u9_1a k) ∨ (k = u9_1.heap.size))) (fun _ h => h) (by intro k h1; rcases h1 with h1 | (h1 | h1 | h1) <;> first | omega | exact h1.elim | exact Or.inl h1 | exact Or.inr (Or.inl h1) | exact Or.inr (Or.inr (Or.inl h1)) | exact Or.inr (Or.inr (Or.inr (h1))))).mod hr (by intro k h1 h2; rcases h1 with h1 | h1 <;> first | omega | (have hb := HBQ.out k h1; omega) | exact HX2.out (h2 ▸ h1) | exact HX2.out (h1 ▸ h2) | exact HXQ.out (h2 ▸ h1) | exact HXQ.out (h1 ▸ h2) | exact HX3.out (h2 ▸ h1) | exact HX3.out (h1 ▸ h2)) (by intro k h1 h2; rcases h1 with h1 | h1 | h1 | h1 <;> first | omega | (have hb := HBQ.out k h1; omega) | exact HX2.out (h2 ▸ h1) | exact HX2.out (h1 ▸ h2) | exact HXQ.out (h2 ▸ h1) | exact HXQ.out (h1 ▸ h2) | exact HX3.out (h2 ▸ h1) | exact HX3.out (h1 ▸ h2)))
  have hmr := hm.two hr
  have Hx32 := hid (Hx27.out.mod hmr (by intro h2; rcases h2 with h2 | h2 <;> first | omega | (have hb := HBQ.out _ h2; omega) | exact HX2.out h2 | exact HXQ.out h2 | exact HX3.out h2))
  have Hx33 := hid (Hx29.out.mod hmr (by intro k h1 h2; rcases h2 with h2 | h2 <;> first | omega | (have hb := HBQ.out k h2; omega) | exact HX2.out (h2 ▸ h1) | exact HX2.out (h1 ▸ h2) | exact HXQ.out (h2 ▸ h1) | exact HXQ.out (h1 ▸ h2) | exact HX3.out (h2 ▸ h1) | exact HX3.out (h1 ▸ h2)))
  have Hx34 := hid (Hx26.out.mod hmr (by intro h2; rcases h2 with h2 | h2 <;> first | omega | (have hb := HBQ.out _ h2; omega) | exact HX2.out h2 | exact HXQ.out h2 | exact HX3.out h2))
  clear Hx27 Hx29 Hx26
  clear hmr
  have Cx35 := hid (Cx30.out.goM hm hr (by intro k h0 h2; first | omega | exact Or.inl h2 | exact Or.inr (h2)))
  clear Cx30 hm hr Z act E qout Hx28
  refine QChain.go fun Z act E => ?_
  refine qc_store rfl (wanted_none rfl) rfl Hx32.out (off := 1) (vs := [Value.slice ao15 (rs.length + 1) cap15]) (by kernel_rfl) one1 (by simp) (E.d 10) (ec (chv (v := .slice ao15 (rs.length + 1) cap15) (E.d 8))) ?_
  intro u9_4a qc0 hm
  have qwl := qc0.eqv (b := #[Value.pointer (some ⟨p, 0, none⟩), Value.slice ao15 (rs.length + 1) cap15]) rfl
  clear qc0
  have zu9_4a := hm.size
  refine ⟨hm.mono (by intro k hk h; omega), (fun _ => rfl), ?_⟩
  intro u9_4 hr
  have zu9_4 := hr.size
  have Hx36 := hid (qwl.mod hr (by intro h2; omega))
  have hmr := hm.two hr
  have Hx37 := hid (Hx31.out.mod hmr (by intro k h1 h2; rcases h1 with h1 | h1 <;> rcases h2 with h2 | h2 <;> first | omega | (have hb := HBQ.out k h1; omega) | exact HX2.out (h2 ▸ h1) | exact HX2.out (h1 ▸ h2) | exact HXQ.out (h2 ▸ h1) | exact HXQ.out (h1 ▸ h2) | exact HX3.out (h2 ▸ h1) | exact HX3.out (h1 ▸ h2)) (by intro k h1 h2; rcases h1 with h1 | h1 | h1 | h1 <;> rcases h2 with h2 | h2 <;> first | omega | (have hb := HBQ.out k h1; omega) | exact HX2.out (h2 ▸ h1) | exact HX2.out (h1 ▸ h2) | exact HXQ.out (h2 ▸ h1) | exact HXQ.out (h1 ▸ h2) | exact HX3.out (h2 ▸ h1) | exact HX3.out (h1 ▸ h2)))
  have Hx38 := hid (Hx33.out.mod hmr (by intro k h1 h2; omega))
  have Hx39 := hid (Hx34.out.mod hmr (by intro h2; omega))
  clear Hx31 Hx33 Hx34
  clear hmr
  have Cx40 := hid (Cx35.out.goM hm hr (by intro k h0 h2; first | omega | exact Or.inl h2 | exact Or.inr (h2)))
  clear Cx35 hm hr Z act E qwl Hx32
  refine QChain.nil fun vs hl hzz hrows hne => ?_
  obtain ⟨Z, hYZ, hZb, hV⟩ := hzz
  have f0 := fvi hV hl 0
  have f1 := fvi hV hl 1
  have f5 := fvi hV hl 5
  have f6 := fvc hV hl 6
  have f7 := fvc hV hl 7
  have f8 := fvc hV hl 8
  rw [show vs = [gw vs 0, gw vs 1, gw vs 2, gw vs 3, gw vs 4, gw vs 5, gw vs 6, gw vs 7, gw vs 8, gw vs 9, gw vs 10, gw vs 11] from (gw_eta hl).trans rfl]
  have ha0 := HA0.out
  subst ha0
  clear HA0 hV hYZ hZb hsz0 hrows hne oe0 oe1
  simp only [putAll, Act.put, List.setIfInBounds_toArray, List.set_cons_zero, List.set_cons_succ, List.set_nil, f0, f1, f5, f6, f7, f8]
  clear hl f0 f1 f5 f6 f7 f8
  go_upto_region 10 with (fail)
  refine wp_region_U 41 [4] [0] (fun a0 HA0 => ?_)
  refine QSeq.pure rfl (.int .i64 0) (fun E => ex_assign rfl rfl) ?_
  refine QSeq.nil (t' := [_]) rfl ?_
  obtain rfl := HA0.out
  clear HA0
  simp only [pz, Act.put, List.setIfInBounds_toArray, List.set_cons_zero, List.set_cons_succ]
  go_wp2
  go_ret
  refine ⟨rfl, u6_4, by omega, by omega, (Hx17.out.mod Cx40.out (by intro k h1 h2; rcases h1 with h1 | h1 <;> rcases h2 with h2 | h2 <;> first | omega | (have hb := HB2.out k h1; omega) | (have hb := HBQ.out k h2; omega) | exact HQ2.out k h1 h2 | exact HQ2.out k h2 h1 | exact HQ3.out k h1 h2 | exact HQ3.out k h2 h1 | exact H23.out k h1 h2 | exact H23.out k h2 h1 | (have hb := HB2.out k h1; have hb2 := HBQ.out k h2; omega) | exact HX2.out (h2 ▸ h1) | exact HX2.out (h1 ▸ h2) | exact HXQ.out (h2 ▸ h1) | exact HXQ.out (h1 ▸ h2) | exact HX3.out (h2 ▸ h1) | exact HX3.out (h1 ▸ h2))).widen (by intro k h1; rcases h1 with h1 | h1 <;> first | exact Or.inl h1 | (right; omega)) (Nat.le_refl _), ⟨_, Hx36.out, Or.inl HX1.out, Hx37.out.widen (by intro k h1; rcases h1 with h1 | h1 <;> first | exact ⟨Or.inl (HQ1.out k h1).1, (HQ1.out k h1).2⟩ | exact ⟨Or.inr (by omega), by omega⟩) (by intro k h1; rcases h1 with h1 | h1 | h1 | h1 <;> first | exact ⟨Or.inl (HQ1.out k h1).1, (HQ1.out k h1).2⟩ | exact ⟨Or.inr (by omega), by omega⟩)⟩, (((HM0.out.trans Cx16.out (by intro k h1 h2; first | exact h2 | omega | exact Or.inl h2 | exact Or.inr h2 | exact Or.inr (Or.inl h2) | exact Or.inr (Or.inr h2) | (have hb := HB2.out k h2; omega))).trans Cx18.out (by intro k h1 h2; rcases h2 with h2 | h2 <;> first | exact h2 | omega | exact Or.inl h2 | exact Or.inr h2 | exact Or.inr (Or.inl h2) | exact Or.inr (Or.inr h2) | (have hb := HB2.out k h2; omega))).trans Cx40.out (by intro k h1 h2; rcases h2 with h2 | h2 <;> first | exact h2 | omega | exact Or.inl h2 | exact Or.inr h2 | exact Or.inr (Or.inl h2) | exact Or.inr (Or.inr h2) | (have hb := HBQ.out k h2; omega))).mono (fun k _ h => by rcases h with h | h | h <;> first | exact Or.inl (HQ1.out k h).1 | exact Or.inr h | exact Or.inl (h ▸ HX1.out))⟩
end Go.Proofs.Ythojipjleajajaa

/- The contracts of a disk and the log on it, told of both as one object. -/
namespace Go.Proofs.Ythojipjleajajaa
open Go Go.RowKit Go.Gv

section
variable {R R3 : Nat → Prop} {N M x p : Nat} {rs rs' : List (List Int)} {s : DS} {b bs : List Int} {sy : Nat} {w : World} {v : Value}
theorem Open_D (h : DkR R N w p ⟨bs, sy, 0, false, false⟩) (hB : ∀ k, R k → k < w.heap.size) (hN : N ≤ 900000) (hP : Parse bs rs) :
    Calls Try.prog 9 #[.pointer (some ⟨p, 0, none⟩)] w fun e w' => ∃ x, e = .returned (.tuple #[.pointer (some ⟨x, 0, none⟩), .int .i64 0]) ∧ LgR (fun k => R k ∨ New w w' k) N w' x p rs ⟨rowsE rs, (rowsE rs).length, 0, false, false⟩ ∧ Mod R w w' :=
  (Open_Q h hB hN hP).mono fun e w' ⟨x, he, hw, hd, hm⟩ => ⟨x, he, ⟨New w w', R, fun _ h => .inr h, fun _ h => .inl h, fun k h1 h2 => by have := hB k h2; unfold New at h1; omega, hw, hd⟩, hm⟩
theorem Open_L (h : LgR R N w x p rs ⟨bs, sy, 0, false, false⟩) (hB : ∀ k, R k → k < w.heap.size) (hN : N ≤ 900000) (hP : Parse bs rs') :
    Calls Try.prog 9 #[.pointer (some ⟨p, 0, none⟩)] w fun e w' => ∃ x', e = .returned (.tuple #[.pointer (some ⟨x', 0, none⟩), .int .i64 0]) ∧ LgR (fun k => R k ∨ New w w' k) N w' x' p rs' ⟨rowsE rs', (rowsE rs').length, 0, false, false⟩ ∧ Mod R w w' := by
  obtain ⟨R1, R2, h1, h2, h3, h4, h5⟩ := h
  exact (Open_D h5 (fun k hk => hB k (h2 k hk)) hN hP).mono fun e w' ⟨x', he, hl, hm⟩ => ⟨x', he, hl.widen (fun k hk => hk.imp (h2 k) id) (Nat.le_refl _), hm.mono (fun k _ hk => h2 k hk)⟩
theorem Put_L (h : LgR R N w x p rs s) (hb : RdR R3 M w v b) (hB : ∀ k, R k → k < w.heap.size) (hB3 : ∀ k, R3 k → k < w.heap.size) (h3 : ∀ k, R3 k → R k → False) (hbl : b.length ≤ 65536) (hN : N ≤ 900000) (hrl : rs.length ≤ 900000) :
    Calls Try.prog 12 #[.pointer (some ⟨x, 0, none⟩), v] w fun e w' => e = .returned (.int .i64 (putE s b)) ∧ LgR (fun k => R k ∨ New w w' k) (N + b.length + 10) w' x p (putL rs s b) (putS s b) ∧ Mod R w w' := by
  obtain ⟨R1, R2, h1, h2, h12, h4, h5⟩ := h
  have hel := encR_len (b := b) (by omega)
  have fin : ∀ (E : Int) (rs' : List (List Int)) (s' : DS), putE s b = E → putL rs s b = rs' → putS s b = s' → (Calls Try.prog 12 #[.pointer (some ⟨x, 0, none⟩), v] w fun e w' => e = .returned (.int .i64 E) ∧ PutTo R1 R2 (N + (encR b).length) w w' x p rs' s') →
      Calls Try.prog 12 #[.pointer (some ⟨x, 0, none⟩), v] w fun e w' => e = .returned (.int .i64 (putE s b)) ∧ LgR (fun k => R k ∨ New w w' k) (N + b.length + 10) w' x p (putL rs s b) (putS s b) ∧ Mod R w w' := by
    intro E rs' s' e1 e2 e3 hc
    rw [e1, e2, e3]
    refine hc.mono fun e w' ⟨he, wm, z1, z2, hd, hw, hm⟩ => ⟨he, ⟨_, _, ?_, ?_, ?_, hw, hd.widen (fun _ h => h) (by omega)⟩, hm.mono fun k _ hk => hk.elim (h1 k) (h2 k)⟩
    · intro k hk; rcases hk with hk | hk
      · exact .inl (h1 k hk)
      · exact .inr ⟨by omega, hk.2⟩
    · intro k hk; rcases hk with hk | hk
      · exact .inl (h2 k hk)
      · exact .inr ⟨hk.1, by omega⟩
    · intro k hk hq
      rcases hk with hk | hk <;> rcases hq with hq | hq
      · exact h12 k hk hq
      · have := hB k (h1 k hk); omega
      · have := hB k (h2 k hq); omega
      · omega
  by_cases hd1 : (dStep s).dead = true
  · have e1 : putE s b = 9 := by unfold putE; rw [if_pos hd1]
    exact fin 9 rs _ e1 (by unfold putL; rw [e1, if_neg (by decide)]) (by unfold putS; rw [if_pos hd1]) (Put_A h4 h5 hb (fun k hk => hB k (h1 k hk)) (fun k hk => hB k (h2 k hk)) hB3 h12 (fun k a c => h3 k a (h1 k c)) (fun k a c => h3 k a (h2 k c)) hbl hN hrl hd1)
  · have hd1' : (dStep s).dead = false := by simpa using hd1
    by_cases hd2 : (dStep (dAppend s (encR b))).dead = true
    · have e1 : putE s b = 9 := by unfold putE; rw [if_neg hd1]; exact dErr_dead hd2
      exact fin 9 rs _ e1 (by unfold putL; rw [e1, if_neg (by decide)]) (by unfold putS; rw [if_neg hd1]) (Put_B h4 h5 hb (fun k hk => hB k (h1 k hk)) (fun k hk => hB k (h2 k hk)) hB3 h12 (fun k a c => h3 k a (h1 k c)) (fun k a c => h3 k a (h2 k c)) hbl hN hrl hd1' hd2)
    · have hd2' : (dStep (dAppend s (encR b))).dead = false := by simpa using hd2
      have e1 : putE s b = 0 := by unfold putE; rw [if_neg hd1]; exact dErr_live hd2'
      exact fin 0 (rs ++ [b]) _ e1 (by unfold putL; rw [e1, if_pos rfl]) (by unfold putS; rw [if_neg hd1]) (Put_C h4 h5 hb (fun k hk => hB k (h1 k hk)) (fun k hk => hB k (h2 k hk)) hB3 h12 (fun k a c => h3 k a (h1 k c)) (fun k a c => h3 k a (h2 k c)) hbl hN hrl hd1' hd2')
/-- a put on a disk that stops nowhere -/
theorem Put_LC (h : LgR R N w x p rs ⟨bs, sy, 0, false, false⟩) (hb : RdR R3 M w v b) (hB : ∀ k, R k → k < w.heap.size) (hB3 : ∀ k, R3 k → k < w.heap.size) (h3 : ∀ k, R3 k → R k → False) (hbl : b.length ≤ 65536) (hN : N ≤ 900000) (hrl : rs.length ≤ 900000) (hbs : bs = rowsE rs) :
    Calls Try.prog 12 #[.pointer (some ⟨x, 0, none⟩), v] w fun e w' => e = .returned (.int .i64 0) ∧ LgR (fun k => R k ∨ New w w' k) (N + b.length + 10) w' x p (rs ++ [b]) ⟨rowsE (rs ++ [b]), (rowsE (rs ++ [b])).length, 0, false, false⟩ ∧ Mod R w w' := by
  have K := Put_L h hb hB hB3 h3 hbl hN hrl
  subst hbs
  rw [show putL rs ⟨rowsE rs, sy, 0, false, false⟩ b = rs ++ [b] from rfl, show putE ⟨rowsE rs, sy, 0, false, false⟩ b = 0 from rfl, show putS ⟨rowsE rs, sy, 0, false, false⟩ b = ⟨rowsE rs ++ encR b, (rowsE rs ++ encR b).length, 0, false, false⟩ from rfl, ← rowsE_snoc] at K
  exact K
theorem Records_L (h : LgR R N w x p rs s) (hB : ∀ k, R k → k < w.heap.size) (hl : rs.length ≤ 1000000) :
    Calls Try.prog 14 #[.pointer (some ⟨x, 0, none⟩)] w fun e w' => ∃ v, e = .returned v ∧ OwS RwR 22 (New w w') (New w w') w' v rs ∧ Mod (fun _ => False) w w' := by
  obtain ⟨R1, R2, h1, h2, h12, h4, h5⟩ := h
  exact Records_Q h4 (fun k hk => hB k (h1 k hk)) hl
theorem WLen_L (h : LgR R N w x p rs s) : Calls Try.prog 13 #[.pointer (some ⟨x, 0, none⟩)] w fun e w' => e = .returned (.int .i64 (rs.length : Nat)) ∧ w = w' := by
  obtain ⟨R1, R2, h1, h2, h12, h4, h5⟩ := h
  exact WLen_Q h4
end
end Go.Proofs.Ythojipjleajajaa

/- Bytes that are written out: rows of one's own; a row that is marked. -/
namespace Go.Proofs.Ythojipjleajajaa
open Go Go.RowKit Go.Gv

section
variable {ops : Array Oper} {i : Nat} {o : Oper} {a : Act} {w : World}
theorem qc_bytes {KQ : Value → World → Prop} {ts T8 : TypeId} {n : Nat} {parts : Array (Nat × Operand)} (ho : ops[i]? = some o) (hw : Region.wanted o (yielded ops a.tmps) = true) (hop : o.op = .buildSlice ts n parts) (hu : Try.prog.underlying ts = some (.slice T8)) (hie : (Try.prog.info? T8).map (fun i => (i.size, i.zero)) = some (1, some (.int .u8 0))) (hn : n ≠ 0 ∧ n ≤ 1000) {C : Array Value}
    (hf : Instr.fill (fun i => some (i * 1, 1)) ((Array.range (n * 1)).map (#[Value.int .u8 0][· % 1]!)) (parts.map fun (i, x) => (i, a.eval x)).toList = some C)
    (h : ∀ w', Cs w' w.heap.size C T8 → Mod (fun _ => False) w w' → KQ (.slice (some ⟨w.heap.size, 0, none⟩) n n) w') {Q : Exit → Act → World → Prop} : wpOp Try.prog ops Q i (fun a' w' => ∃ v, a' = a.put o.dst v ∧ KQ v w') a w :=
  qc_run ho hw (ex_lit hop hu hie hn hf) (h _ (Cs.new _ _ _) ((Mod.refl _ _).alloc _))
end
/-- a row's conversion to its own type marks it -/
theorem qc_mark {ops : Array Oper} {i : Nat} {o : Oper} {a : Act} {w : World} {Q : Exit → Act → World → Prop} {KQ : Value → World → Prop} {ts T8 : TypeId} {x : Operand} {C : Array Value} {g : Nat} (hop : ops[i]? = some o) (hw : Region.wanted o (yielded ops a.tmps) = true) (ho : o.op = .convert ts ts x) (hu : Try.prog.underlying ts = some (.slice T8)) (he : Try.prog.underlying T8 = some (.int .u8))
    (hx : a.eval x = .slice (some ⟨g, 0, none⟩) C.size C.size) (hb : Cs w g C T8) (h : ∀ w' m', w'.heap[g]? = some (.cells C T8 m') → Mod (fun k => k = g) w w' → KQ (.slice (some ⟨g, 0, none⟩) C.size C.size) w') : wpOp Try.prog ops Q i (fun a' w' => ∃ v, a' = a.put o.dst v ∧ KQ v w') a w := by
  have hlt := (Array.getElem?_eq_some_iff.1 hb).1
  have hsh : w.shape? g = some (T8, C.size) := by unfold World.shape?; rw [hb]
  obtain ⟨m', hblk⟩ : ∃ m', (w.freeze ⟨g, C.size, none⟩ 1).heap[g]? = some (.cells C T8 m') := by
    unfold World.freeze
    rw [if_neg (by decide)]
    rw [Array.getElem?_modify, if_pos rfl, hb]
    exact ⟨_, rfl⟩
  refine qc_run hop hw (v := .slice (some ⟨g, 0, none⟩) C.size C.size) (w' := w.freeze ⟨g, C.size, none⟩ 1) ?_ (h _ m' hblk ⟨by unfold World.freeze; rw [if_neg (by decide)], by unfold World.freeze; rw [if_neg (by decide)], by unfold World.freeze; rw [if_neg (by decide)], by unfold World.freeze; rw [if_neg (by decide)]; simp, fun k hk hn => ?_⟩)
  · unfold execOp
    simp [ho, hx, convert, run_underlying hu, run_underlying he, markStringish, hsh]
  · unfold World.freeze
    rw [if_neg (by decide)]
    rw [Array.getElem?_modify, if_neg (fun e => hn (e.symm))]
theorem RdR_marked {w : World} {g : Nat} {C : Array Value} {T8 : TypeId} {m : Nat × Nat} {bs : List Int} (h : w.heap[g]? = some (.cells C T8 m)) (hC : C = (bs.map bv).toArray) (hb : Bytes bs) (hl : bs.length ≤ 1000000) : RdR (fun k => k = g) bs.length w (.slice (some ⟨g, 0, none⟩) bs.length bs.length) bs := by
  subst hC
  refine ⟨⟨hb, Rd.mk (Nat.le_refl _) (by rw [maxLen_val]; omega) (by simp) fun j u hu => ?_⟩, fun _ g' hg' => by cases hg'; rfl, Nat.le_refl _⟩
  rw [Nat.zero_add]
  simp [World.cell?, h]
  simpa using hu
end Go.Proofs.Ythojipjleajajaa

/- Slices of things as arguments: whatever a reading gives of them; rows, calls, numbers, truths. -/
namespace Go.Proofs.Ythojipjleajajaa
open Go Go.RowKit Go.Gv Go.ChangeShapes Go.WideShapes Go.ChangeAt Go.Deep

end Go.Proofs.Ythojipjleajajaa

/- Short contracts for the statements about logs. -/
namespace Go.Proofs.Ythojipjleajajaa
open Go Go.RowKit Go.Gv

section
variable {R R2 R3 : Nat → Prop} {N M x p : Nat} {rs : List (List Int)} {s : DS} {b bs cs : List Int} {w : World} {v v2 : Value}
theorem Cut_W {n : Nat} (hr : RdR R N w v bs) (hn : n ≤ 100000) (e : cs = bs.take n) :
    Calls Try.prog 11 #[v, .int .i64 n] w fun e w' => ∃ v', e = .returned v' ∧ OwR (New w w') 900000 w' v' cs ∧ Mod (fun _ => False) w w' := by
  subst e
  exact (Cut_R n hr (by omega)).mono fun e w' ⟨v', he, ho, hm⟩ => ⟨v', he, ho.widen (fun _ h => h) (by omega), hm⟩
theorem Same_T (ha : RdR R N w v bs) (hb : RdR R2 M w v2 bs) : Calls Try.prog 15 #[v, v2] w fun e w' => e = .returned (.bool true) ∧ Mod (fun _ => False) w w' := by
  have K := Same_R ha hb
  rw [decide_eq_true rfl] at K
  exact K
end
theorem Parse.nil : Parse [] [] := Parse.whole Fit.nil
end Go.Proofs.Ythojipjleajajaa

/- gavellaw08: the document's own example. -/
namespace Go.Proofs.Ythojipjleajajaa
open Go Go.RowKit Go.Gv

set_option maxHeartbeats 4000000 in
theorem wakes08 (w : World) : Calls Try.prog 16 #[] w fun e w' => e = .returned (.bool true) ∧ Mod (fun _ => False) w w' := by
 go_enter Try.func16, Try.ntmps16
 go_upto_region 1 with (fail)
 have HM0 := hid (Mod.refl (fun _ => False) w)
 go_upto_region 1 with (fail)
 refine wp_region_U 43 [6, 1] [0, 1] (fun a0 HA0 => ?_)
 refine QSeq.call rfl rfl Try.func8 (New_R _) (fun E => args0) ?_
 rintro e u1_0 ⟨p, rfl, qdk, hm⟩
 refine ⟨_, rfl, ?_⟩
 have Hx1 := hid qdk
 have zu1_0 := hm.size
 have Cx2 := hid (show Mod (fun _ => False) w u1_0 from hm)
 clear hm
 clear qdk
 refine QSeq.pure rfl _ (fun E => ex_assign rfl (E.d 0 0)) ?_
 refine QSeq.nil (t' := [_, _]) rfl ?_
 obtain rfl := HA0.out
 clear HA0
 simp only [pz, Act.put, List.setIfInBounds_toArray, List.set_cons_zero, List.set_cons_succ]
 go_upto_region 2 with (fail)
 refine wp_region_U 43 [7, 8] [0, 1] (fun a0 HA0 => ?_)
 have oe1 := ev HA0 1 rfl
 refine QSeq.pure rfl _ (fun E => ex_move rfl (E.v oe1)) ?_
 refine QSeq.pure rfl (.bool false) (fun E => ex_bin rfl (E.d 0 0) rfl (guard_ptr _ _ _ _ _ _ _) (run_eql_nil _ Try.underlying23 (by kernel_rfl) _)) ?_
 refine QSeq.nil (t' := [_, _]) rfl ?_
 obtain rfl := HA0.out
 clear HA0 oe1
 simp only [pz, Act.put, List.setIfInBounds_toArray, List.set_cons_zero, List.set_cons_succ]
 go_upto_region 4 with (fail)
 refine wp_region_U 43 [10, 11, 9, 12, 13, 2, 3] [0, 1, 2, 3, 4, 5, 6] (fun a0 HA0 => ?_)
 have oe1 := ev HA0 1 rfl
 refine QSeq.pure rfl _ (fun E => ex_move rfl (E.v oe1)) ?_
 refine QSeq.call rfl rfl Try.func9 (Open_D Hx1.out (by intro k h1; omega) (by omega) Parse.nil) (fun E => args1 (E.d 0 0)) ?_
 rintro e u4_1 ⟨x, rfl, qlg, hm⟩
 refine ⟨_, rfl, ?_⟩
 have Hx3 := hid (qlg.widen (R' := (fun k => (New w u1_0 k) ∨ (New u1_0 u4_1 k))) (fun _ h => h) (Nat.le_refl _))
 have zu4_1 := hm.size
 have Cx4 := hid (show Mod (fun k => (New w u1_0 k)) u1_0 u4_1 from hm)
 clear hm
 clear qlg
 clear Hx1
 refine QSeq.pure rfl _ (fun E => ex_move rfl (E.d 1 0)) ?_
 refine QSeq.pure rfl (.pointer (some ⟨x, 0, none⟩)) (fun E => ex_extract rfl (E.d 2 0) rfl) ?_
 refine QSeq.pure rfl (.int .i64 0) (fun E => ex_extract rfl (E.d 2 1) rfl) ?_
 refine QSeq.pure rfl _ (fun E => ex_assign rfl (E.d 3 1)) ?_
 refine QSeq.pure rfl _ (fun E => ex_assign rfl (E.d 4 1)) ?_
 refine QSeq.nil (t' := [_, _, _, _, _, _, _]) rfl ?_
 obtain rfl := HA0.out
 clear HA0 oe1
 simp only [pz, Act.put, List.setIfInBounds_toArray, List.set_cons_zero, List.set_cons_succ]
 go_upto_region 5 with (fail)
 refine wp_region_U 43 [14, 15, 16, 17, 18, 19, 20, 21, 22, 23, 24, 25, 26] [0, 1, 2, 3, 4, 5, 6, 7, 8, 9, 10, 11, 12] (fun a0 HA0 => ?_)
 have oe2 := ev HA0 2 rfl
 have oe3 := ev HA0 3 rfl
 refine QSeq.pure rfl _ (fun E => ex_move rfl (E.v oe3)) ?_
 refine QSeq.pure rfl (.bool false) (fun E => ex_binE rfl (E.d 0 0) rfl (guard_ints _ _ _ _ _ _) (run_neq_i _ _ _ Try.underlying26) (congrArg Value.bool (show _ = false from rfl))) ?_
 refine QSeq.pure rfl _ (fun E => ex_move rfl (E.d 1 0)) ?_
 refine QSeq.pureG rfl (.pointer (some ⟨x, 0, none⟩)) (fun E => ((wanted_of rfl rfl (E.sz 16 (by decide)) (E.d 2 0)).trans rfl)) (fun E => ex_move rfl (E.v oe2)) ?_
 refine QSeq.pureG rfl (.bool false) (fun E => ((wanted_of rfl rfl (E.sz 16 (by decide)) (E.d 2 1)).trans rfl)) (fun E => ex_bin rfl (E.d 3 0) rfl (guard_ptr _ _ _ _ _ _ _) (run_eql_nil _ Try.underlying25 (by kernel_rfl) _)) ?_
 refine QSeq.pure rfl (.bool false) (fun E => ex_pick rfl (E.d 2 2) rfl (E.d 4 0)) ?_
 refine QSeq.pure rfl _ (fun E => ex_move rfl (E.d 5 0)) ?_
 refine QSeq.pureG rfl (.pointer (some ⟨x, 0, none⟩)) (fun E => ((wanted_of rfl rfl (E.sz 20 (by decide)) (E.d 6 0)).trans rfl)) (fun E => ex_move rfl (E.v oe2)) ?_
 refine QSeq.go fun act E => ?_
 refine qc_bytes rfl ((wanted_of rfl rfl (E.sz 20 (by decide)) (E.d 6 1)).trans rfl) rfl Try.underlying22 (by kernel_rfl) (by decide) (C := #[.int .u8 97]) (by simp only [List.map_toArray, List.map_cons, List.map_nil, Act.eval]; kernel_rfl) ?_
 intro u5_8 qlit hm
 have zl5_8 := qlit.lt
 have Hx5 := hid qlit
 have zu5_8 := hm.size
 have Cx6 := hid (show Mod (fun _ => False) u4_1 u5_8 from hm)
 clear hm
 clear act E qlit
 refine QSeq.go fun act E => ?_
 refine qc_mark (C := #[.int .u8 97]) rfl ((wanted_of rfl rfl (E.sz 20 (by decide)) (E.d 6 2)).trans rfl) rfl Try.underlying22 Try.underlying5 (E.d 8 0) Hx5.out ?_
 intro u5_9 mk hmk hm
 have qrow := RdR_marked (bs := [97]) hmk rfl (by intro y hy; simp at hy; omega) (by decide)
 clear hmk
 clear Hx5
 have Hx7 := hid qrow
 have zu5_9 := hm.size
 have HMu5_9 := hid hm
 have Cx8 := hid (Mod.goS (S' := (fun _ => False)) Cx6.out hm (fun _ h => h) (by intro k h0 h2; omega))
 clear hm Cx6
 clear act E qrow
 refine QSeq.go fun act E => ?_
 refine qc_callF (args := #[.pointer (some ⟨x, 0, none⟩), .slice (some ⟨u4_1.heap.size, 0, none⟩) 1 1]) rfl ((wanted_of rfl rfl (E.sz 20 (by decide)) (E.d 6 3)).trans rfl) rfl Try.func12 (args2 (E.d 7 2) (E.d 9 0)) (Put_LC (Hx3.out.mod Cx8.out (fun _ _ h => h)) Hx7.out (by intro k h1; omega) (by intro k h1; omega) (by intro k h1 h2; omega) (by decide) (by decide) (by decide) rfl) ?_
 rintro e u5_10 ⟨rfl, qlg, hm⟩
 refine ⟨_, rfl, ?_⟩
 have Hx9 := hid (qlg.widen (R' := (fun k => (New w u1_0 k) ∨ (New u1_0 u4_1 k) ∨ (New u5_9 u5_10 k))) (by intro k h1; omega) (Nat.le_refl _))
 have zu5_10 := hm.size
 have HMu5_10 := hid hm
 have Cx10 := hid (Mod.goS (S' := (fun k => (New w u1_0 k) ∨ (New u1_0 u4_1 k))) Cx8.out hm (fun _ h => h.elim) (by intro k h0 h2; rcases h2 with h2 | h2; exact Or.inl h2; exact Or.inr (h2)))
 clear hm Cx8
 clear act E qlg Hx3
 refine QSeq.pureG rfl (.bool false) (fun E => ((wanted_of rfl rfl (E.sz 20 (by decide)) (E.d 6 4)).trans rfl)) (fun E => ex_binE rfl (E.d 10 0) rfl (guard_ints _ _ _ _ _ _) (run_neq_i _ _ _ Try.underlying26) (congrArg Value.bool (show _ = false from rfl))) ?_
 refine QSeq.pure rfl (.bool false) (fun E => ex_pick rfl (E.d 6 5) rfl (E.d 11 0)) ?_
 have Hx11 := hid (Hx7.out.mod HMu5_10.out (by intro k h1 h2; omega))
 clear Hx7 HMu5_9 HMu5_10
 refine QSeq.nil (t' := [_, _, _, _, _, _, _, _, _, _, _, _, _]) rfl ?_
 obtain rfl := HA0.out
 clear HA0 oe2 oe3
 simp only [pz, Act.put, List.setIfInBounds_toArray, List.set_cons_zero, List.set_cons_succ]
 clear Hx11
 go_upto_region 7 with (fail)
 refine wp_region_U 43 [28, 29, 27, 30, 31, 4, 5] [0, 1, 2, 3, 4, 5, 6] (fun a0 HA0 => ?_)
 have oe1 := ev HA0 1 rfl
 refine QSeq.pure rfl _ (fun E => ex_move rfl (E.v oe1)) ?_
 refine QSeq.call rfl rfl Try.func9 (Open_L Hx9.out (by intro k h1; omega) (by decide) (Parse.whole (by intro b hb; simp at hb; subst hb; decide))) (fun E => args1 (E.d 0 0)) ?_
 rintro e u7_1 ⟨y, rfl, qlg, hm⟩
 refine ⟨_, rfl, ?_⟩
 have Hx12 := hid (qlg.widen (R' := (fun k => (New w u1_0 k) ∨ (New u1_0 u4_1 k) ∨ (New u5_9 u5_10 k) ∨ (New u5_10 u7_1 k))) (by intro k h1; omega) (Nat.le_refl _))
 have zu7_1 := hm.size
 have Cx13 := hid (show Mod (fun k => (New w u1_0 k) ∨ (New u1_0 u4_1 k) ∨ (New u5_9 u5_10 k)) u5_10 u7_1 from hm)
 clear hm
 clear qlg Hx9
 refine QSeq.pure rfl _ (fun E => ex_move rfl (E.d 1 0)) ?_
 refine QSeq.pure rfl (.pointer (some ⟨y, 0, none⟩)) (fun E => ex_extract rfl (E.d 2 0) rfl) ?_
 refine QSeq.pure rfl (.int .i64 0) (fun E => ex_extract rfl (E.d 2 1) rfl) ?_
 refine QSeq.pure rfl _ (fun E => ex_assign rfl (E.d 3 1)) ?_
 refine QSeq.pure rfl _ (fun E => ex_assign rfl (E.d 4 1)) ?_
 refine QSeq.nil (t' := [_, _, _, _, _, _, _]) rfl ?_
 obtain rfl := HA0.out
 clear HA0 oe1
 simp only [pz, Act.put, List.setIfInBounds_toArray, List.set_cons_zero, List.set_cons_succ]
 go_upto_region 8 with (fail)
 refine wp_region_U 43 [32, 33, 34, 35, 36, 37, 38, 39, 40, 41, 42, 0] [0, 1, 2, 3, 4, 5, 6, 7, 8, 9, 10, 11] (fun a0 HA0 => ?_)
 have oe4 := ev HA0 4 rfl
 have oe5 := ev HA0 5 rfl
 refine QSeq.pure rfl _ (fun E => ex_move rfl (E.v oe5)) ?_
 refine QSeq.pure rfl (.bool true) (fun E => ex_binE rfl (E.d 0 0) rfl (guard_ints _ _ _ _ _ _) (run_eql_i _ _ _ Try.underlying26) (congrArg Value.bool (show _ = true from rfl))) ?_
 refine QSeq.pure rfl _ (fun E => ex_move rfl (E.d 1 0)) ?_
 refine QSeq.pureG rfl (.pointer (some ⟨y, 0, none⟩)) (fun E => ((wanted_of rfl rfl (E.sz 34 (by decide)) (E.d 2 0)).trans rfl)) (fun E => ex_move rfl (E.v oe4)) ?_
 refine QSeq.pureG rfl (.bool true) (fun E => ((wanted_of rfl rfl (E.sz 34 (by decide)) (E.d 2 1)).trans rfl)) (fun E => ex_bin rfl (E.d 3 0) rfl (guard_ptr _ _ _ _ _ _ _) (run_neq_nil _ Try.underlying25 (by kernel_rfl) _)) ?_
 refine QSeq.pure rfl (.bool true) (fun E => ex_pick rfl (E.d 2 2) (E.d 4 0) rfl) ?_
 refine QSeq.pure rfl _ (fun E => ex_move rfl (E.d 5 0)) ?_
 refine QSeq.pureG rfl (.pointer (some ⟨y, 0, none⟩)) (fun E => ((wanted_of rfl rfl (E.sz 38 (by decide)) (E.d 6 0)).trans rfl)) (fun E => ex_move rfl (E.v oe4)) ?_
 refine QSeq.go fun act E => ?_
 refine qc_callF (args := #[.pointer (some ⟨y, 0, none⟩)]) rfl ((wanted_of rfl rfl (E.sz 38 (by decide)) (E.d 6 1)).trans rfl) rfl Try.func13 (args1 (E.d 7 0)) (WLen_L Hx12.out) ?_
 rintro e w2 ⟨rfl, hw2⟩
 obtain rfl : u7_1 = w2 := by first | exact hw2 | exact hw2.symm
 refine ⟨_, rfl, ?_⟩
 clear act E
 refine QSeq.pureG rfl (.bool true) (fun E => ((wanted_of rfl rfl (E.sz 38 (by decide)) (E.d 6 2)).trans rfl)) (fun E => ex_binE rfl (E.d 8 0) rfl (guard_ints _ _ _ _ _ _) (run_eql_i _ _ _ Try.underlying3) (congrArg Value.bool (show _ = true from rfl))) ?_
 refine QSeq.pure rfl (.bool true) (fun E => ex_pick rfl (E.d 6 3) (E.d 9 0) rfl) ?_
 refine QSeq.pure rfl _ (fun E => ex_assign rfl (E.d 10 0)) ?_
 refine QSeq.nil (t' := [_, _, _, _, _, _, _, _, _, _, _, _]) rfl ?_
 obtain rfl := HA0.out
 clear HA0 oe4 oe5
 simp only [pz, Act.put, List.setIfInBounds_toArray, List.set_cons_zero, List.set_cons_succ]
 go_wp2
 go_ret
 exact ⟨rfl, ((((HM0.out.trans Cx2.out (fun _ _ h => h.elim)).trans Cx4.out (by intro k h1 h2; omega)).trans Cx10.out (by intro k h1 h2; omega)).trans Cx13.out (by intro k h1 h2; omega))⟩
end Go.Proofs.Ythojipjleajajaa

/- WalLong: the walk. -/
namespace Go.Proofs.Ythojipjleajajaa
open Go Go.RowKit Go.Gv


theorem info_u8w : (Try.prog.info? 5).map (fun i => (i.zero, i.size, i.bytes)) = some (some (.int .u8 0), 1, 1) := by kernel_rfl
/-- beside the chain bytes are made -/
theorem qe_makeB {ops : Array Oper} {i : Nat} {o : Oper} {a : Act} {w : World} {B : Nat} {S0 : Nat → Prop} {l : List QPred} {Z : Nat → Prop} {t : List Value} {Q : Exit → Act → World → Prop} {x c : Operand} {n : Nat} (ho : ops[i]? = some o) (hw : Region.wanted o (yielded ops a.tmps) = true) (hop : o.op = Op.makeSlice 22 x c) (hl : a.eval x = .int .i64 (n : Int)) (hc : a.eval c = .int .i64 (n : Int)) (hn : n ≤ 900000) (hB : B ≤ w.heap.size) (hZ : ∀ j, Z j → j < w.heap.size)
    (hv : ∀ v w', qr B S0 (fun R w v => RdR R 1000000 w v (List.replicate n 0)) Z t v w' → (l.getD i qa) Z t v w') : wpOp Try.prog ops Q i (QJ B l Z i o t a w) a w := by
  obtain ⟨i0, hi, hz0, hz1, hz2⟩ := info_parts info_u8w
  have hr := run_make (P := Try.prog) w 22 5 i0 (.int .u8 0) Try.underlying22 hi hz0 .i64 .i64 n n (by omega) (by omega) (by rw [hz2]; omega) (by omega)
  have e : madeCells (Value.int .u8 0).cells (((n : Int)).toNat * i0.size) = ((List.replicate n (0 : Int)).map bv).toArray := by
    apply Array.toList_inj.1
    rw [hz1, Nat.mul_one, Int.toNat_natCast]
    show (madeCells #[Value.int .u8 0] n).toList = _
    rw [toList_madeCells_one]
    simp
  rw [e, Int.toNat_natCast] at hr
  refine qe_run ho hw (v := .slice (some ⟨w.heap.size, 0, none⟩) n n) (w' := w.alloc (.cells ((List.replicate n (0 : Int)).map bv).toArray 5)) ?_ (QE.still ((Mod.refl _ _).alloc _)) (hv _ _ ⟨fun k => k = w.heap.size, fun j hj => ?_, ?_⟩)
  · unfold execOp
    simp only [hop, hl, hc]
    simp only [Sem.run_bind, hr, Result.andThen_ok, Sem.run_pure]
  · subst hj
    have := (Cs.new w ((List.replicate n (0 : Int)).map bv).toArray 5).lt
    exact ⟨this, fun h => by omega, fun h => by have := hZ _ h.2; omega⟩
  · have hcs := Cs.new w ((List.replicate n (0 : Int)).map bv).toArray 5
    refine ⟨⟨fun b hb => by rw [List.eq_of_mem_replicate hb]; decide, ?_⟩, fun _ g' hg' => by cases hg'; rfl, by simp; omega⟩
    rw [List.length_replicate]
    refine Rd.mk (Nat.le_refl _) (by rw [maxLen_val]; omega) (by simp) fun j u hu => ?_
    rw [Nat.zero_add, hcs.cell, List.getElem?_toArray]
    exact hu
theorem Put_long {R3 : Nat → Prop} {M x : Nat} {v : Value} {b : List Int} {w : World} (hb : RdR R3 M w v b) (hl : 65536 < b.length) :
    Calls Try.prog 12 #[.pointer (some ⟨x, 0, none⟩), v] w fun e w' => e = .returned (.int .i64 7) ∧ Mod (fun _ => False) w w' := by
  obtain ⟨ao, cap, rfl⟩ := hb.shape
  have hl2 : (65536 : Int) < b.length := by omega
  clear hb
  go_enter Try.func12, Try.ntmps12
  go_wp2
  go_ret
  exact ⟨rfl, Mod.refl _ _⟩
set_option maxHeartbeats 8000000 in
theorem WalLong_walk (n0 : Int) (bs : List Int) (vb : Value) (w : World) (hn : -9223372036854775808 ≤ n0 ∧ n0 ≤ 9223372036854775807) (hb : RdR (fun k => k < w.heap.size) bs.length w vb bs) :
    Calls Try.prog 3 #[.int .i64 n0, vb] w fun e w' => e = .returned (.bool true) ∧ Mod (fun _ => False) w w' := by
  obtain ⟨bo, bcap, rfl⟩ := hb.shape
  have HB := Lib.hid hb
  have HN := Lib.hid hn
  clear hb hn
  go_enter Try.func3, Try.ntmps3
  go_upto_region 1 with (fail)
  have HM0 := hid (Mod.refl (fun _ => False) w)
  go_upto_region 1 with (fail)
  refine wp_region_U 115 [15, 5] [0, 1] (fun a0 HA0 => ?_)
  refine QSeq.call rfl rfl Try.func8 (New_R _) (fun E => args0) ?_
  rintro e u1_0 ⟨p, rfl, qdk, hm⟩
  refine ⟨_, rfl, ?_⟩
  have Hx1 := hid qdk
  have zu1_0 := hm.size
  have Cx2 := hid (show Mod (fun _ => False) w u1_0 from hm)
  clear hm
  clear qdk
  refine QSeq.pure rfl _ (fun E => ex_assign rfl (E.d 0 0)) ?_
  refine QSeq.nil (t' := [_, _]) rfl ?_
  obtain rfl := HA0.out
  clear HA0
  simp only [pz, Act.put, List.setIfInBounds_toArray, List.set_cons_zero, List.set_cons_succ]
  go_upto_region 2 with (fail)
  refine wp_region_U 115 [16, 17] [0, 1] (fun a0 HA0 => ?_)
  have oe5 := ev HA0 5 rfl
  refine QSeq.pure rfl _ (fun E => ex_move rfl (E.v oe5)) ?_
  refine QSeq.pure rfl (.bool false) (fun E => ex_bin rfl (E.d 0 0) rfl (guard_ptr _ _ _ _ _ _ _) (run_eql_nil _ Try.underlying23 (by kernel_rfl) _)) ?_
  refine QSeq.nil (t' := [_, _]) rfl ?_
  obtain rfl := HA0.out
  clear HA0 oe5
  simp only [pz, Act.put, List.setIfInBounds_toArray, List.set_cons_zero, List.set_cons_succ]
  go_upto_region 4 with (fail)
  refine wp_region_U 115 [19, 20, 18, 21, 22, 6, 7] [0, 1, 2, 3, 4, 5, 6] (fun a0 HA0 => ?_)
  have oe5 := ev HA0 5 rfl
  refine QSeq.pure rfl _ (fun E => ex_move rfl (E.v oe5)) ?_
  refine QSeq.call rfl rfl Try.func9 (Open_D Hx1.out (by intro k h1; omega) (by omega) Parse.nil) (fun E => args1 (E.d 0 0)) ?_
  rintro e u4_1 ⟨x, rfl, qlg, hm⟩
  refine ⟨_, rfl, ?_⟩
  have Hx3 := hid (qlg.widen (R' := (fun k => (New w u1_0 k) ∨ (New u1_0 u4_1 k))) (fun _ h => h) (Nat.le_refl _))
  have zu4_1 := hm.size
  have Cx4 := hid (show Mod (fun k => (New w u1_0 k)) u1_0 u4_1 from hm)
  clear hm
  clear qlg
  clear Hx1
  refine QSeq.pure rfl _ (fun E => ex_move rfl (E.d 1 0)) ?_
  refine QSeq.pure rfl (.pointer (some ⟨x, 0, none⟩)) (fun E => ex_extract rfl (E.d 2 0) rfl) ?_
  refine QSeq.pure rfl (.int .i64 0) (fun E => ex_extract rfl (E.d 2 1) rfl) ?_
  refine QSeq.pure rfl _ (fun E => ex_assign rfl (E.d 3 1)) ?_
  refine QSeq.pure rfl _ (fun E => ex_assign rfl (E.d 4 1)) ?_
  refine QSeq.nil (t' := [_, _, _, _, _, _, _]) rfl ?_
  obtain rfl := HA0.out
  clear HA0 oe5
  simp only [pz, Act.put, List.setIfInBounds_toArray, List.set_cons_zero, List.set_cons_succ]
  go_upto_region 5 with (fail)
  refine wp_region_U 115 [23, 24, 25, 26, 27, 28] [0, 1, 2, 3, 4, 5] (fun a0 HA0 => ?_)
  have oe6 := ev HA0 6 rfl
  have oe7 := ev HA0 7 rfl
  refine QSeq.pure rfl _ (fun E => ex_move rfl (E.v oe7)) ?_
  refine QSeq.pure rfl (.bool false) (fun E => ex_binE rfl (E.d 0 0) rfl (guard_ints _ _ _ _ _ _) (run_neq_i _ _ _ Try.underlying26) (congrArg Value.bool (show _ = false from rfl))) ?_
  refine QSeq.pure rfl _ (fun E => ex_move rfl (E.d 1 0)) ?_
  refine QSeq.pureG rfl (.pointer (some ⟨x, 0, none⟩)) (fun E => ((wanted_of rfl rfl (E.sz 25 (by decide)) (E.d 2 0)).trans rfl)) (fun E => ex_move rfl (E.v oe6)) ?_
  refine QSeq.pureG rfl (.bool false) (fun E => ((wanted_of rfl rfl (E.sz 25 (by decide)) (E.d 2 1)).trans rfl)) (fun E => ex_bin rfl (E.d 3 0) rfl (guard_ptr _ _ _ _ _ _ _) (run_eql_nil _ Try.underlying25 (by kernel_rfl) _)) ?_
  refine QSeq.pure rfl (.bool false) (fun E => ex_pick rfl (E.d 2 2) rfl (E.d 4 0)) ?_
  refine QSeq.nil (t' := [_, _, _, _, _, _]) rfl ?_
  obtain rfl := HA0.out
  clear HA0 oe6 oe7
  simp only [pz, Act.put, List.setIfInBounds_toArray, List.set_cons_zero, List.set_cons_succ]
  obtain ⟨kk, hkk, hkl⟩ := within_nat n0 3 (by decide)
  have HW := hid (Within_any n0 3 (by decide) (by decide) HN.out)
  rw [hkk] at HW
  clear hkk
  obtain ⟨n, hnk⟩ : ∃ n : Nat, n = 65535 + kk := ⟨_, rfl⟩
  go_upto_region 7 with (fail)
  refine wp_region_U 115 [29, 30, 31, 0] [0, 1, 2, 3] (fun a0 HA0 => ?_)
  have oe0 := ev HA0 0 rfl
  refine QSeq.pure rfl _ (fun E => ex_move rfl (E.y 3 oe0)) ?_
  refine QSeq.go fun act E => ?_
  refine qc_callF (args := #[.int .i64 n0, .int .i64 3]) rfl (wanted_none rfl) rfl Try.func10 (args2 (E.d 0 0) rfl) (HW.out _) ?_
  rintro e w2 ⟨rfl, hw2⟩
  obtain rfl : u4_1 = w2 := by first | exact hw2 | exact hw2.symm
  refine ⟨_, rfl, ?_⟩
  clear act E
  refine QSeq.pure rfl (.int .i64 ((n : Nat) : Int)) (fun E => ex_binE rfl rfl (E.d 1 0) (guard_ints _ _ _ _ _ _) (run_add_i _ _ Try.underlying3) (congrArg (Value.int .i64) (i64_eq (b := ((n : Nat) : Int)) (by omega) (by omega) (by omega)))) ?_
  refine QSeq.pure rfl _ (fun E => ex_assign rfl (E.d 2 0)) ?_
  refine QSeq.nil (t' := [_, _, _, _]) rfl ?_
  obtain rfl := HA0.out
  clear HA0 oe0
  simp only [pz, Act.put, List.setIfInBounds_toArray, List.set_cons_zero, List.set_cons_succ]
  obtain ⟨cb, hcb⟩ : ∃ c, c = bs.take 30 := ⟨_, rfl⟩
  have HCB := Lib.hid hcb
  have hcl : cb.length ≤ 30 := by rw [hcb, List.length_take]; omega
  clear hcb
  obtain ⟨zb, hzb⟩ : ∃ z : List Int, z = List.replicate n 0 := ⟨_, rfl⟩
  have hzl : zb.length = n := by rw [hzb, List.length_replicate]
  have HZB := Lib.hid hzb
  clear hzb
  go_upto_region 8 with (fail)
  refine wp_region_U 115 [32, 33, 1] [0, 1, 2] (fun a0 HA0 => ?_)
  have oe1 := ev HA0 1 rfl
  refine QSeq.pure rfl _ (fun E => ex_move rfl (E.y 2 oe1)) ?_
  refine QSeq.call rfl rfl Try.func11 (Cut_W (n := 30) ((HB.out.mod Cx2.out (fun _ _ h => h)).mod Cx4.out (by intro k h1 h2; omega)) (by decide) HCB.out) (fun E => args2 (E.d 0 0) rfl) ?_
  rintro e u8_1 ⟨v_bb, rfl, qbb, hm⟩
  obtain ⟨ao_bb, cap_bb, rfl⟩ := qbb.shape
  refine ⟨_, rfl, ?_⟩
  have Hx5 := hid qbb
  have zu8_1 := hm.size
  have Cx6 := hid (show Mod (fun _ => False) u4_1 u8_1 from hm)
  clear hm
  clear qbb
  refine QSeq.pure rfl _ (fun E => ex_assign rfl (E.d 1 0)) ?_
  refine QSeq.nil (t' := [_, _, _]) rfl ?_
  obtain rfl := HA0.out
  clear HA0 oe1
  simp only [pz, Act.put, List.setIfInBounds_toArray, List.set_cons_zero, List.set_cons_succ]
  clear HB
  by_cases hok : n ≤ 65536
  · skip
    go_upto_region 9 with (fail)
    generalize ha0 : Act.mk _ _ = a0
    have oe0 : a0.eval (.tmp 0) = .int .i64 ((n : Nat) : Int) := by rw [← ha0]; rfl
    have oe1 : a0.eval (.tmp 1) = .slice ao_bb cb.length cap_bb := by rw [← ha0]; rfl
    have oe6 : a0.eval (.tmp 6) = .pointer (some ⟨x, 0, none⟩) := by rw [← ha0]; rfl
    have hsz0 : a0.tmps.size = 115 := by rw [← ha0]; rfl
    have HA0 := hid ha0
    clear ha0
    refine wp_region_Q1 115 hsz0 [34, 35, 36, 37, 38, 39, 40, 41, 42, 43, 8, 9, 10] (fun k => (New w u1_0 k) ∨ (New u1_0 u4_1 k)) (fun k j => (k = 0 ∧ ((New w u1_0 j) ∨ (New u1_0 u4_1 j))) ∨ (k = 1 ∧ ((New w u1_0 j) ∨ (New u1_0 u4_1 j))) ∨ (k = 2 ∧ ((New w u1_0 j) ∨ (New u1_0 u4_1 j)))) (by intro k j h; (try dsimp only at h ⊢); omega) [qi (.pointer (some ⟨x, 0, none⟩)), qi (.slice ao_bb cb.length cap_bb), qi (.int .i64 0), qi (.pointer (some ⟨x, 0, none⟩)), qi (.int .i64 ((n : Nat) : Int)), qr u8_1.heap.size (fun k => (New w u1_0 k) ∨ (New u1_0 u4_1 k)) (fun R w v => RdR R 1000000 w v (List.replicate n 0)), qi (.int .i64 0), qi (.pointer (some ⟨x, 0, none⟩)), qi (.slice ao_bb cb.length cap_bb), qi (.int .i64 0), qi (.int .i64 0), qi (.int .i64 0), qi (.int .i64 0)] ⟨qi_stable, qi_stable, qi_stable, qi_stable, qi_stable, (qr_stable rdR_cells), qi_stable, qi_stable, qi_stable, qi_stable, qi_stable, qi_stable, qi_stable, trivial⟩ [2, 6, 9] ⟨?_, ?_, ?_, ?_, ?_, ?_, ?_, ?_, ?_, ?_, ?_, ?_, ?_, trivial⟩ ?_
    · exact stq (fun E => ex_move rfl (E.v oe6))
    · exact stq (fun E => ex_move rfl (E.v oe1))
    · exact stepq_chain rfl
    · exact stq (fun E => ex_move rfl (E.v oe6))
    · exact stq (fun E => ex_move rfl (E.v oe0))
    · refine stepq_env rfl rfl rfl fun _ _ _ _ hZ hm _ _ _ hd _ _ => ?_
      have h4 := hd ⟨4, .data⟩ (by simp) rfl _ rfl
      exact qe_makeB rfl (wanted_none rfl) rfl h4 h4 (by omega) hm.size (fun j hj => (hZ j hj).2) (fun _ _ h => h)
    · exact stepq_chain rfl
    · exact stq (fun E => ex_move rfl (E.v oe6))
    · exact stq (fun E => ex_move rfl (E.v oe1))
    · exact stepq_chain rfl
    · exact stq (fun E => ex_assign rfl (E.d 2))
    · exact stq (fun E => ex_assign rfl (E.d 6))
    · exact stq (fun E => ex_assign rfl (E.d 9))
    intro u9_0 hr
    have zu9_0 := hr.size
    have Cx7 := hid (hr.new (S := (fun k => (New w u1_0 k) ∨ (New u1_0 u4_1 k))))
    have Hx8 := hid ((Hx3.out.mod Cx6.out (fun _ _ h => h)).mod hr (by intro k h1 h2; omega))
    clear Hx3
    clear hr
    refine QChain.go fun Z act E => ?_
    refine qc_callF (args := #[.pointer (some ⟨x, 0, none⟩), .slice ao_bb cb.length cap_bb]) rfl (wanted_none rfl) rfl Try.func12 (args2 (E.d 0) (E.d 1)) (Put_LC Hx8.out (Hx5.out.mod Cx7.out (by intro k h1 h2; omega)).rd (by intro k h1; omega) (by intro k h1; omega) (by intro k h1 h2; omega) (by omega) (by omega) (by simp) rfl) ?_
    rintro e u9_1a ⟨rfl, qlg, hm⟩
    have zu9_1a := hm.size
    refine ⟨_, rfl, hm.mono (by intro k hk h; omega), (fun _ => rfl), ?_⟩
    intro u9_1 hr
    have zu9_1 := hr.size
    have Hx9 := hid ((qlg.widen (R' := (fun k => (New w u1_0 k) ∨ (New u1_0 u4_1 k) ∨ (New u9_0 u9_1a k))) (by intro k h1; omega) (Nat.le_refl _)).mod hr (by intro k h1 h2; omega))
    have Cx10 := hid (Cx7.out.goM hm hr (fun _ _ h => h))
    clear Cx7 hm hr Z act E qlg Hx8
    refine QChain.go fun Z act E => ?_
    have h2q : qr u8_1.heap.size (fun k => (New w u1_0 k) ∨ (New u1_0 u4_1 k)) (fun R w v => RdR R 1000000 w v (List.replicate n 0)) Z ([] ++ [.int .i64 0]) (act.eval (.tmp 39)) _ := E.d 5
    obtain ⟨R2, hR2, hrd2⟩ := h2q
    rw [← HZB.out] at hrd2
    refine qc_callF (args := #[.pointer (some ⟨x, 0, none⟩), act.eval (.tmp 39)]) rfl (wanted_none rfl) rfl Try.func12 (args2 (E.d 3) rfl) (Put_LC Hx9.out hrd2 (by intro k h1; omega) (fun k h1 => (hR2 k h1).1) (by intro k h1 h2; have hr2 := hR2 k h1; by_cases hkB : k < u8_1.heap.size; exact hr2.2.1 ⟨hkB, by (try dsimp only); omega⟩; exact hr2.2.2 ⟨by omega, E.YZ k (by (try dsimp only); omega)⟩) (by omega) (by omega) (by simp) rfl) ?_
    rintro e u9_2a ⟨rfl, qlg, hm⟩
    have zu9_2a := hm.size
    refine ⟨_, rfl, hm.mono (by intro k hk h; omega), (fun _ => rfl), ?_⟩
    intro u9_2 hr
    have zu9_2 := hr.size
    have Hx11 := hid ((qlg.widen (R' := (fun k => (New w u1_0 k) ∨ (New u1_0 u4_1 k) ∨ (New u9_0 u9_1a k) ∨ (New u9_1 u9_2a k))) (by intro k h1; omega) (Nat.le_refl _)).mod hr (by intro k h1 h2; omega))
    have Cx12 := hid (Cx10.out.goM hm hr (by intro k h0 h2; omega))
    clear Cx10 hm hr qlg Hx9
    refine QChain.go fun Z act E => ?_
    refine qc_callF (args := #[.pointer (some ⟨x, 0, none⟩), .slice ao_bb cb.length cap_bb]) rfl (wanted_none rfl) rfl Try.func12 (args2 (E.d 7) (E.d 8)) (Put_LC Hx11.out (Hx5.out.mod Cx12.out (by intro k h1 h2; omega)).rd (by intro k h1; omega) (by intro k h1; omega) (by intro k h1 h2; omega) (by omega) (by omega) (by simp) rfl) ?_
    rintro e u9_3a ⟨rfl, qlg, hm⟩
    have zu9_3a := hm.size
    refine ⟨_, rfl, hm.mono (by intro k hk h; omega), (fun _ => rfl), ?_⟩
    intro u9_3 hr
    have zu9_3 := hr.size
    have Hx13 := hid ((qlg.widen (R' := (fun k => (New w u1_0 k) ∨ (New u1_0 u4_1 k) ∨ (New u9_0 u9_1a k) ∨ (New u9_1 u9_2a k) ∨ (New u9_2 u9_3a k))) (by intro k h1; omega) (Nat.le_refl _)).mod hr (by intro k h1 h2; omega))
    have Cx14 := hid (Cx12.out.goM hm hr (by intro k h0 h2; omega))
    clear Cx12 hm hr Z act E qlg Hx11
    refine QChain.nil fun vs hl hzz hrows hne => ?_
    obtain ⟨Z, hYZ, hZb, hV⟩ := hzz
    have f0 := fvi hV hl 0
    have f1 := fvi hV hl 1
    have f2 := fvi hV hl 2
    have f3 := fvi hV hl 3
    have f4 := fvi hV hl 4
    have f6 := fvi hV hl 6
    have f7 := fvi hV hl 7
    have f8 := fvi hV hl 8
    have f9 := fvi hV hl 9
    have f10 := fvi hV hl 10
    have f11 := fvi hV hl 11
    have f12 := fvi hV hl 12
    rw [show vs = [gw vs 0, gw vs 1, gw vs 2, gw vs 3, gw vs 4, gw vs 5, gw vs 6, gw vs 7, gw vs 8, gw vs 9, gw vs 10, gw vs 11, gw vs 12] from (gw_eta hl).trans rfl]
    have ha0 := HA0.out
    subst ha0
    clear HA0 hV hYZ hZb hsz0 hrows hne oe0 oe1 oe6
    simp only [putAll, Act.put, List.setIfInBounds_toArray, List.set_cons_zero, List.set_cons_succ, f0, f1, f2, f3, f4, f6, f7, f8, f9, f10, f11, f12]
    clear hl f0 f1 f2 f3 f4 f6 f7 f8 f9 f10 f11 f12
    go_upto_region 10 with (fail)
    refine wp_region_U 115 [44, 45, 46, 47, 48, 49, 50, 51, 52, 53, 54, 55, 56, 57, 58, 59, 60, 61, 62, 63, 64] [0, 1, 2, 3, 4, 5, 6, 7, 8, 9, 10, 11, 12, 13, 14, 15, 16, 17, 18, 19, 20] (fun a0 HA0 => ?_)
    have oe0 := ev HA0 0 rfl
    have oe8 := ev HA0 8 rfl
    have oe9 := ev HA0 9 rfl
    have oe10 := ev HA0 10 rfl
    refine QSeq.pure rfl _ (fun E => ex_move rfl (E.v oe8)) ?_
    refine QSeq.pure rfl (.bool false) (fun E => ex_binE rfl (E.d 0 0) rfl (guard_ints _ _ _ _ _ _) (run_neq_i _ _ _ Try.underlying26) (congrArg Value.bool (show _ = false from rfl))) ?_
    refine QSeq.pure rfl _ (fun E => ex_move rfl (E.d 1 0)) ?_
    refine QSeq.pureG rfl (.int .i64 0) (fun E => ((wanted_of rfl rfl (E.sz 46 (by decide)) (E.d 2 0)).trans rfl)) (fun E => ex_move rfl (E.v oe10)) ?_
    refine QSeq.pureG rfl (.bool false) (fun E => ((wanted_of rfl rfl (E.sz 46 (by decide)) (E.d 2 1)).trans rfl)) (fun E => ex_binE rfl (E.d 3 0) rfl (guard_ints _ _ _ _ _ _) (run_neq_i _ _ _ Try.underlying26) (congrArg Value.bool (show _ = false from rfl))) ?_
    refine QSeq.pure rfl (.bool false) (fun E => ex_pick rfl (E.d 2 2) rfl (E.d 4 0)) ?_
    refine QSeq.pure rfl _ (fun E => ex_move rfl (E.d 5 0)) ?_
    refine QSeq.pureG rfl (.int .i64 0) (fun E => ((wanted_of rfl rfl (E.sz 50 (by decide)) (E.d 6 0)).trans rfl)) (fun E => ex_move rfl (E.v oe9)) ?_
    refine QSeq.pureG rfl (.bool true) (fun E => ((wanted_of rfl rfl (E.sz 50 (by decide)) (E.d 6 1)).trans rfl)) (fun E => ex_binE rfl (E.d 7 0) rfl (guard_ints _ _ _ _ _ _) (run_eql_i _ _ _ Try.underlying26) (congrArg Value.bool (show _ = true from rfl))) ?_
    refine QSeq.pureG rfl (.int .i64 ((n : Nat) : Int)) (fun E => ((wanted_of rfl rfl (E.sz 50 (by decide)) (E.d 6 2)).trans rfl)) (fun E => ex_move rfl (E.v oe0)) ?_
    refine QSeq.pureG rfl (.bool true) (fun E => ((wanted_of rfl rfl (E.sz 50 (by decide)) (E.d 6 3)).trans rfl)) (fun E => ex_binE rfl (E.d 9 0) rfl (guard_ints _ _ _ _ _ _) (run_leq_i _ _ _ Try.underlying3) (congrArg Value.bool (decide_eq_true (by omega)))) ?_
    refine QSeq.pureG rfl (.bool false) (fun E => ((wanted_of rfl rfl (E.sz 50 (by decide)) (E.d 6 4)).trans rfl)) (fun E => ex_bin rfl (E.d 8 2) (E.d 10 0) (guard_bools _ _ _ _ _ _) (run_neq_bools _ _ _ Try.underlying4)) ?_
    refine QSeq.pure rfl (.bool false) (fun E => ex_pick rfl (E.d 6 5) rfl (E.d 11 0)) ?_
    refine QSeq.pure rfl _ (fun E => ex_move rfl (E.d 12 0)) ?_
    refine QSeq.pureG rfl (.int .i64 0) (fun E => ((wanted_of rfl rfl (E.sz 57 (by decide)) (E.d 13 0)).trans rfl)) (fun E => ex_move rfl (E.v oe9)) ?_
    refine QSeq.pureG rfl (.bool false) (fun E => ((wanted_of rfl rfl (E.sz 57 (by decide)) (E.d 13 1)).trans rfl)) (fun E => ex_binE rfl (E.d 14 0) rfl (guard_ints _ _ _ _ _ _) (run_neq_i _ _ _ Try.underlying26) (congrArg Value.bool (show _ = false from rfl))) ?_
    refine QSeq.pureG rfl (.bool false) (fun E => ((wanted_of rfl rfl (E.sz 57 (by decide)) (E.d 13 2)).trans rfl)) (fun E => ex_move rfl (E.d 15 0)) ?_
    refine QSeq.skip rfl (fun E => ((wanted_of rfl rfl (E.sz 60 (by decide)) (E.d 16 0)).trans rfl)) ?_
    refine QSeq.skip rfl (fun E => ((wanted_of rfl rfl (E.sz 60 (by decide)) (E.d 16 1)).trans rfl)) ?_
    refine QSeq.pureG rfl (.bool false) (fun E => ((wanted_of rfl rfl (E.sz 57 (by decide)) (E.d 13 5)).trans rfl)) (fun E => ex_pick rfl (E.d 16 2) (E.d 18 0) rfl) ?_
    refine QSeq.pure rfl (.bool false) (fun E => ex_pick rfl (E.d 13 6) rfl (E.d 19 0)) ?_
    refine QSeq.nil (t' := [_, _, _, _, _, _, _, _, _, _, _, _, _, _, _, _, _, _, _, _, _]) rfl ?_
    obtain rfl := HA0.out
    clear HA0 oe0 oe8 oe9 oe10
    simp only [pz, Act.put, List.setIfInBounds_toArray, List.set_cons_zero, List.set_cons_succ]
    obtain ⟨R1, R2, hq1, hq2, hq12, hqw, hqd⟩ := Hx13.out
    have HR1 := hid (fun k (h : R1 k) => (show (New w u1_0 k) ∨ (New u1_0 u4_1 k) ∨ (New u9_0 u9_1a k) ∨ (New u9_1 u9_2a k) ∨ (New u9_2 u9_3a k) from hq1 k h))
    have HR2 := hid (fun k (h : R2 k) => (show (New w u1_0 k) ∨ (New u1_0 u4_1 k) ∨ (New u9_0 u9_1a k) ∨ (New u9_1 u9_2a k) ∨ (New u9_2 u9_3a k) from hq2 k h))
    have HR12 := Lib.hid hq12
    have HWL := Lib.hid hqw
    have HDK := Lib.hid hqd
    clear hq1 hq2 hq12 hqw hqd
    clear Hx13
    have hfit : Fit ((([] ++ [cb]) ++ [zb]) ++ [cb]) := by intro c hc; simp at hc; rcases hc with hc | hc | hc <;> subst hc <;> omega
    go_upto_region 12 with (fail)
    refine wp_region_U 115 [66, 67, 65, 68, 69, 11, 12] [0, 1, 2, 3, 4, 5, 6] (fun a0 HA0 => ?_)
    have oe5 := ev HA0 5 rfl
    refine QSeq.pure rfl _ (fun E => ex_move rfl (E.v oe5)) ?_
    refine QSeq.call rfl rfl Try.func9 (Open_D HDK.out (by intro k h1; have hb := HR2.out k h1; omega) (by omega) (Parse.whole hfit)) (fun E => args1 (E.d 0 0)) ?_
    rintro e u12_1 ⟨y, rfl, qlg, hm⟩
    refine ⟨_, rfl, ?_⟩
    have Hx15 := hid (qlg.widen (R' := (fun k => (R2 k) ∨ (New u9_3 u12_1 k))) (fun _ h => h) (Nat.le_refl _))
    have zu12_1 := hm.size
    have Cx16 := hid (show Mod (fun k => (R2 k)) u9_3 u12_1 from hm)
    clear hm
    clear qlg
    clear HDK
    refine QSeq.pure rfl _ (fun E => ex_move rfl (E.d 1 0)) ?_
    refine QSeq.pure rfl (.pointer (some ⟨y, 0, none⟩)) (fun E => ex_extract rfl (E.d 2 0) rfl) ?_
    refine QSeq.pure rfl (.int .i64 0) (fun E => ex_extract rfl (E.d 2 1) rfl) ?_
    refine QSeq.pure rfl _ (fun E => ex_assign rfl (E.d 3 1)) ?_
    refine QSeq.pure rfl _ (fun E => ex_assign rfl (E.d 4 1)) ?_
    refine QSeq.nil (t' := [_, _, _, _, _, _, _]) rfl ?_
    obtain rfl := HA0.out
    clear HA0 oe5
    simp only [pz, Act.put, List.setIfInBounds_toArray, List.set_cons_zero, List.set_cons_succ]
    go_upto_region 13 with (fail)
    refine wp_region_U 115 [13] [0] (fun a0 HA0 => ?_)
    refine QSeq.pure rfl (.int .i64 2) (fun E => ex_assign rfl rfl) ?_
    refine QSeq.nil (t' := [_]) rfl ?_
    obtain rfl := HA0.out
    clear HA0
    simp only [pz, Act.put, List.setIfInBounds_toArray, List.set_cons_zero, List.set_cons_succ]
    go_upto_region 14 with (fail)
    refine wp_region_U 115 [70, 71] [0, 1] (fun a0 HA0 => ?_)
    have oe9 := ev HA0 9 rfl
    refine QSeq.pure rfl _ (fun E => ex_move rfl (E.v oe9)) ?_
    refine QSeq.pure rfl (.bool true) (fun E => ex_binE rfl (E.d 0 0) rfl (guard_ints _ _ _ _ _ _) (run_eql_i _ _ _ Try.underlying26) (congrArg Value.bool (show _ = true from rfl))) ?_
    refine QSeq.nil (t' := [_, _]) rfl ?_
    obtain rfl := HA0.out
    clear HA0 oe9
    simp only [pz, Act.put, List.setIfInBounds_toArray, List.set_cons_zero, List.set_cons_succ]
    go_upto_region 15 with (fail)
    refine wp_region_U 115 [13] [0] (fun a0 HA0 => ?_)
    refine QSeq.pure rfl (.int .i64 3) (fun E => ex_assign rfl rfl) ?_
    refine QSeq.nil (t' := [_]) rfl ?_
    obtain rfl := HA0.out
    clear HA0
    simp only [pz, Act.put, List.setIfInBounds_toArray, List.set_cons_zero, List.set_cons_succ]
    go_upto_region 16 with (fail)
    refine wp_region_U 115 [72, 73, 74, 75, 76, 77, 78, 79, 80, 81, 82, 83, 84, 85, 86, 87, 88, 89] [0, 1, 2, 3, 4, 5, 6, 7, 8, 9, 10, 11, 12, 13, 14, 15, 16, 17] (fun a0 HA0 => ?_)
    have oe6 := ev HA0 6 rfl
    have oe11 := ev HA0 11 rfl
    have oe12 := ev HA0 12 rfl
    have oe13 := ev HA0 13 rfl
    refine QSeq.pure rfl _ (fun E => ex_move rfl (E.v oe12)) ?_
    refine QSeq.pure rfl (.bool false) (fun E => ex_binE rfl (E.d 0 0) rfl (guard_ints _ _ _ _ _ _) (run_neq_i _ _ _ Try.underlying26) (congrArg Value.bool (show _ = false from rfl))) ?_
    refine QSeq.pure rfl _ (fun E => ex_move rfl (E.d 1 0)) ?_
    refine QSeq.pureG rfl (.pointer (some ⟨y, 0, none⟩)) (fun E => ((wanted_of rfl rfl (E.sz 74 (by decide)) (E.d 2 0)).trans rfl)) (fun E => ex_move rfl (E.v oe11)) ?_
    refine QSeq.pureG rfl (.bool false) (fun E => ((wanted_of rfl rfl (E.sz 74 (by decide)) (E.d 2 1)).trans rfl)) (fun E => ex_bin rfl (E.d 3 0) rfl (guard_ptr _ _ _ _ _ _ _) (run_eql_nil _ Try.underlying25 (by kernel_rfl) _)) ?_
    refine QSeq.pure rfl (.bool false) (fun E => ex_pick rfl (E.d 2 2) rfl (E.d 4 0)) ?_
    refine QSeq.pure rfl _ (fun E => ex_move rfl (E.d 5 0)) ?_
    refine QSeq.pureG rfl (.pointer (some ⟨y, 0, none⟩)) (fun E => ((wanted_of rfl rfl (E.sz 78 (by decide)) (E.d 6 0)).trans rfl)) (fun E => ex_move rfl (E.v oe11)) ?_
    refine QSeq.go fun act E => ?_
    refine qc_callF (args := #[.pointer (some ⟨y, 0, none⟩)]) rfl ((wanted_of rfl rfl (E.sz 78 (by decide)) (E.d 6 1)).trans rfl) rfl Try.func13 (args1 (E.d 7 0)) (WLen_L Hx15.out) ?_
    rintro e w2 ⟨rfl, hw2⟩
    obtain rfl : u12_1 = w2 := by first | exact hw2 | exact hw2.symm
    refine ⟨_, rfl, ?_⟩
    clear act E
    refine QSeq.pureG rfl (.int .i64 3) (fun E => ((wanted_of rfl rfl (E.sz 78 (by decide)) (E.d 6 2)).trans rfl)) (fun E => ex_move rfl (E.v oe13)) ?_
    refine QSeq.pureG rfl (.bool false) (fun E => ((wanted_of rfl rfl (E.sz 78 (by decide)) (E.d 6 3)).trans rfl)) (fun E => ex_binE rfl (E.d 8 1) (E.d 9 0) (guard_ints _ _ _ _ _ _) (run_neq_i _ _ _ Try.underlying3) (congrArg Value.bool (show _ = false from rfl))) ?_
    refine QSeq.pure rfl (.bool false) (fun E => ex_pick rfl (E.d 6 4) rfl (E.d 10 0)) ?_
    refine QSeq.pure rfl _ (fun E => ex_move rfl (E.d 11 0)) ?_
    refine QSeq.pureG rfl (.pointer (some ⟨x, 0, none⟩)) (fun E => ((wanted_of rfl rfl (E.sz 84 (by decide)) (E.d 12 0)).trans rfl)) (fun E => ex_move rfl (E.v oe6)) ?_
    refine QSeq.go fun act E => ?_
    refine qc_callF (args := #[.pointer (some ⟨x, 0, none⟩)]) rfl ((wanted_of rfl rfl (E.sz 84 (by decide)) (E.d 12 1)).trans rfl) rfl Try.func13 (args1 (E.d 13 0)) (WLen_Q (HWL.out.mod Cx16.out (by intro k h1 h2; first | omega | (have hb := HR1.out k h1; omega) | (have hb := HR2.out k h2; omega) | exact HR12.out k h1 h2 | exact HR12.out k h2 h1 | (have hb := HR1.out k h1; have hb2 := HR2.out k h2; omega)))) ?_
    rintro e w2 ⟨rfl, hw2⟩
    obtain rfl : u12_1 = w2 := by first | exact hw2 | exact hw2.symm
    refine ⟨_, rfl, ?_⟩
    clear act E
    refine QSeq.pureG rfl (.int .i64 3) (fun E => ((wanted_of rfl rfl (E.sz 84 (by decide)) (E.d 12 2)).trans rfl)) (fun E => ex_move rfl (E.v oe13)) ?_
    refine QSeq.pureG rfl (.bool false) (fun E => ((wanted_of rfl rfl (E.sz 84 (by decide)) (E.d 12 3)).trans rfl)) (fun E => ex_binE rfl (E.d 14 1) (E.d 15 0) (guard_ints _ _ _ _ _ _) (run_neq_i _ _ _ Try.underlying3) (congrArg Value.bool (show _ = false from rfl))) ?_
    refine QSeq.pure rfl (.bool false) (fun E => ex_pick rfl (E.d 12 4) rfl (E.d 16 0)) ?_
    refine QSeq.nil (t' := [_, _, _, _, _, _, _, _, _, _, _, _, _, _, _, _, _, _]) rfl ?_
    obtain rfl := HA0.out
    clear HA0 oe6 oe11 oe12 oe13
    simp only [pz, Act.put, List.setIfInBounds_toArray, List.set_cons_zero, List.set_cons_succ]
    go_upto_region 18 with (fail)
    refine wp_region_U 115 [90, 91, 14] [0, 1, 2] (fun a0 HA0 => ?_)
    have oe11 := ev HA0 11 rfl
    refine QSeq.pure rfl _ (fun E => ex_move rfl (E.v oe11)) ?_
    refine QSeq.call rfl rfl Try.func14 (Records_L Hx15.out (by intro k h1; rcases h1 with h1 | h1 <;> first | omega | (have hb := HR2.out k h1; omega)) (by simp)) (fun E => args1 (E.d 0 0)) ?_
    rintro e u18_1 ⟨vr, rfl, qrec, hm⟩
    obtain ⟨ao_r, cap_r, rfl⟩ := qrec.shape
    refine ⟨_, rfl, ?_⟩
    have Hx17 := hid (qrec.widen (R' := (fun k => (New u12_1 u18_1 k))) (E' := (fun k => (New u12_1 u18_1 k))) (fun _ h => h) (fun _ h => h))
    have zu18_1 := hm.size
    have Cx18 := hid (show Mod (fun _ => False) u12_1 u18_1 from hm)
    clear hm
    clear qrec
    refine QSeq.pure rfl _ (fun E => ex_assign rfl (E.d 1 0)) ?_
    refine QSeq.nil (t' := [_, _, _]) rfl ?_
    obtain rfl := HA0.out
    clear HA0 oe11
    simp only [pz, Act.put, List.setIfInBounds_toArray, List.set_cons_zero, List.set_cons_succ]
    clear HWL
    clear Hx15
    have hq := (Hx17.out.widen (R' := (fun k => (New u12_1 u18_1 k))) (E' := (fun k => (New u12_1 u18_1 k))) (by intro k h1; first | omega | exact h1.elim | exact h1) (by intro k h1; first | omega | exact h1.elim | exact h1)).rd.widen (R' := (fun k => (New u12_1 u18_1 k))) (fun k h => h.elim id id)
    obtain ⟨g1, o1, cs, ea1, hrg, hrd, hcs⟩ := hq.at (i := 0) (by simp)
    obtain ⟨v1, rfl, hv1⟩ := hrd
    have hv1 : RdR _ 100000 _ v1 cb := hv1
    obtain ⟨a1, k1, rfl⟩ := hv1.shape
    subst ea1
    have HAT1 := hid (show CellsAt (fun k => (New u12_1 u18_1 k)) u18_1 g1 (o1 + 0 * 1) [.slice a1 cb.length k1] from ⟨hrg, hcs⟩)
    have HEL1 := Lib.hid hv1
    clear hrg hcs hv1
    obtain ⟨g2, o2, cs, ea2, hrg, hrd, hcs⟩ := hq.at (i := 2) (by simp)
    obtain ⟨v2, rfl, hv2⟩ := hrd
    have hv2 : RdR _ 100000 _ v2 cb := hv2
    obtain ⟨a2, k2, rfl⟩ := hv2.shape
    cases ea2
    have HAT2 := hid (show CellsAt (fun k => (New u12_1 u18_1 k)) u18_1 g1 (o1 + 2 * 1) [.slice a2 cb.length k2] from ⟨hrg, hcs⟩)
    have HEL2 := Lib.hid hv2
    clear hrg hcs hv2
    clear hq
    clear Hx17
    go_upto_region 19 with (fail)
    refine wp_region_U 115 [92, 93, 94, 95, 96, 97, 98, 99, 100, 101, 102, 103, 104, 105, 106, 107, 108, 109, 110, 111, 112, 113, 114, 4] [0, 1, 2, 3, 4, 5, 6, 7, 8, 9, 10, 11, 12, 13, 14, 15, 16, 17, 18, 19, 20, 21, 22, 23] (fun a0 HA0 => ?_)
    have oe1 := ev HA0 1 rfl
    have oe13 := ev HA0 13 rfl
    have oe14 := ev HA0 14 rfl
    refine QSeq.pure rfl _ (fun E => ex_move rfl (E.v oe14)) ?_
    refine QSeq.pure rfl (.int .i64 3) (fun E => ex_lenS rfl (E.d 0 0) Try.underlying33) ?_
    refine QSeq.pure rfl _ (fun E => ex_move rfl (E.v oe13)) ?_
    refine QSeq.pure rfl (.bool true) (fun E => ex_binE rfl (E.d 1 1) (E.d 2 0) (guard_ints _ _ _ _ _ _) (run_eql_i _ _ _ Try.underlying3) (congrArg Value.bool (show _ = true from rfl))) ?_
    refine QSeq.pure rfl _ (fun E => ex_move rfl (E.d 3 0)) ?_
    refine QSeq.pureG rfl (.slice (some ⟨g1, o1, none⟩) 3 cap_r) (fun E => ((wanted_of rfl rfl (E.sz 96 (by decide)) (E.d 4 0)).trans rfl)) (fun E => ex_move rfl (E.v oe14)) ?_
    refine QSeq.pureG rfl (.pointer (some ⟨g1, o1 + 0 * 1, none⟩)) (fun E => ((wanted_of rfl rfl (E.sz 96 (by decide)) (E.d 4 1)).trans rfl)) (fun E => ex_idxS (i := 0) (s := 1) rfl Try.underlying33 (by kernel_rfl) (E.d 5 0) rfl (by decide)) ?_
    refine QSeq.pureG rfl (.slice a1 cb.length k1) (fun E => ((wanted_of rfl rfl (E.sz 96 (by decide)) (E.d 4 2)).trans rfl)) (fun E => ex_load1 rfl Try.underlying22 rfl (E.d 6 0) ((HAT1.out).2 0 _ rfl)) ?_
    refine QSeq.pureG rfl (.slice ao_bb cb.length cap_bb) (fun E => ((wanted_of rfl rfl (E.sz 96 (by decide)) (E.d 4 3)).trans rfl)) (fun E => ex_move rfl (E.v oe1)) ?_
    refine QSeq.go fun act E => ?_
    refine qc_callF (args := #[.slice a1 cb.length k1, .slice ao_bb cb.length cap_bb]) rfl ((wanted_of rfl rfl (E.sz 96 (by decide)) (E.d 4 4)).trans rfl) rfl Try.func15 (args2 (E.d 7 1) (E.d 8 0)) (Same_T HEL1.out (((Hx5.out.mod Cx14.out (by intro k h1 h2; omega)).mod Cx16.out (by intro k h1 h2; have hb := HR2.out k h2; omega)).mod Cx18.out (fun _ _ h => h)).rd) ?_
    rintro e u19_9 ⟨rfl, hm⟩
    refine ⟨_, rfl, ?_⟩
    have zu19_9 := hm.size
    have Cx19 := hid (show Mod (fun _ => False) u18_1 u19_9 from hm)
    clear hm
    clear act E
    refine QSeq.pure rfl (.bool true) (fun E => ex_pick rfl (E.d 4 5) (E.d 9 0) rfl) ?_
    refine QSeq.pure rfl _ (fun E => ex_move rfl (E.d 10 0)) ?_
    refine QSeq.pureG rfl (.slice (some ⟨g1, o1, none⟩) 3 cap_r) (fun E => ((wanted_of rfl rfl (E.sz 103 (by decide)) (E.d 11 0)).trans rfl)) (fun E => ex_move rfl (E.v oe14)) ?_
    refine QSeq.pureG rfl (.int .i64 3) (fun E => ((wanted_of rfl rfl (E.sz 103 (by decide)) (E.d 11 1)).trans rfl)) (fun E => ex_move rfl (E.v oe13)) ?_
    refine QSeq.pureG rfl (.int .i64 2) (fun E => ((wanted_of rfl rfl (E.sz 103 (by decide)) (E.d 11 2)).trans rfl)) (fun E => ex_binE rfl (E.d 13 0) rfl (guard_ints _ _ _ _ _ _) (run_sub_i _ _ Try.underlying3) (congrArg (Value.int .i64) (show IntKind.i64.wrap (3 - 1) = 2 from by decide))) ?_
    refine QSeq.pureG rfl (.pointer (some ⟨g1, o1 + 2 * 1, none⟩)) (fun E => ((wanted_of rfl rfl (E.sz 103 (by decide)) (E.d 11 3)).trans rfl)) (fun E => ex_idxS (i := 2) (s := 1) rfl Try.underlying33 (by kernel_rfl) (E.d 12 2) (E.d 14 0) (by decide)) ?_
    refine QSeq.pureG rfl (.slice a2 cb.length k2) (fun E => ((wanted_of rfl rfl (E.sz 103 (by decide)) (E.d 11 4)).trans rfl)) (fun E => ex_load1 rfl Try.underlying22 rfl (E.d 15 0) (((HAT2.out.mod Cx19.out (fun _ _ h => h))).2 0 _ rfl)) ?_
    refine QSeq.pureG rfl (.slice ao_bb cb.length cap_bb) (fun E => ((wanted_of rfl rfl (E.sz 103 (by decide)) (E.d 11 5)).trans rfl)) (fun E => ex_move rfl (E.v oe1)) ?_
    refine QSeq.go fun act E => ?_
    refine qc_callF (args := #[.slice a2 cb.length k2, .slice ao_bb cb.length cap_bb]) rfl ((wanted_of rfl rfl (E.sz 103 (by decide)) (E.d 11 6)).trans rfl) rfl Try.func15 (args2 (E.d 16 1) (E.d 17 0)) (Same_T (HEL2.out.mod Cx19.out (fun _ _ h => h)) ((((Hx5.out.mod Cx14.out (by intro k h1 h2; omega)).mod Cx16.out (by intro k h1 h2; have hb := HR2.out k h2; omega)).mod Cx18.out (fun _ _ h => h)).mod Cx19.out (fun _ _ h => h)).rd) ?_
    rintro e u19_18 ⟨rfl, hm⟩
    refine ⟨_, rfl, ?_⟩
    have zu19_18 := hm.size
    have HMu19_18 := hid hm
    have Cx20 := hid (Cx19.out.goE hm)
    clear hm Cx19
    clear act E
    refine QSeq.pure rfl (.bool true) (fun E => ex_pick rfl (E.d 11 7) (E.d 18 0) rfl) ?_
    refine QSeq.pure rfl _ (fun E => ex_move rfl (E.d 19 0)) ?_
    refine QSeq.go fun act E => ?_
    refine qc_callF (args := #[]) rfl ((wanted_of rfl rfl (E.sz 112 (by decide)) (E.d 20 0)).trans rfl) rfl Try.func16 args0 (wakes08 _) ?_
    rintro e u19_21 ⟨rfl, hm⟩
    refine ⟨_, rfl, ?_⟩
    have zu19_21 := hm.size
    have HMu19_21 := hid hm
    have Cx21 := hid (Cx20.out.goE hm)
    clear hm Cx20
    clear act E
    refine QSeq.pure rfl (.bool true) (fun E => ex_pick rfl (E.d 20 1) (E.d 21 0) rfl) ?_
    refine QSeq.pure rfl _ (fun E => ex_assign rfl (E.d 22 0)) ?_
    clear HMu19_18 HMu19_21
    refine QSeq.nil (t' := [_, _, _, _, _, _, _, _, _, _, _, _, _, _, _, _, _, _, _, _, _, _, _, _]) rfl ?_
    obtain rfl := HA0.out
    clear HA0 oe1 oe13 oe14
    simp only [pz, Act.put, List.setIfInBounds_toArray, List.set_cons_zero, List.set_cons_succ]
    go_wp2
    go_ret
    exact ⟨rfl, (((((((HM0.out.trans Cx2.out (fun _ _ h => h.elim)).trans Cx4.out (by intro k h1 h2; omega)).trans Cx6.out (fun _ _ h => h.elim)).trans Cx14.out (by intro k h1 h2; omega)).trans Cx16.out (by intro k h1 h2; first | exact h2 | omega | (have hb := HR2.out k h2; omega))).trans Cx18.out (fun _ _ h => h.elim)).trans Cx21.out (fun _ _ h => h.elim))⟩
  · skip
    go_upto_region 9 with (fail)
    generalize ha0 : Act.mk _ _ = a0
    have oe0 : a0.eval (.tmp 0) = .int .i64 ((n : Nat) : Int) := by rw [← ha0]; rfl
    have oe1 : a0.eval (.tmp 1) = .slice ao_bb cb.length cap_bb := by rw [← ha0]; rfl
    have oe6 : a0.eval (.tmp 6) = .pointer (some ⟨x, 0, none⟩) := by rw [← ha0]; rfl
    have hsz0 : a0.tmps.size = 115 := by rw [← ha0]; rfl
    have HA0 := hid ha0
    clear ha0
    refine wp_region_Q1 115 hsz0 [34, 35, 36, 37, 38, 39, 40, 41, 42, 43, 8, 9, 10] (fun k => (New w u1_0 k) ∨ (New u1_0 u4_1 k)) (fun k j => (k = 0 ∧ ((New w u1_0 j) ∨ (New u1_0 u4_1 j))) ∨ (k = 2 ∧ ((New w u1_0 j) ∨ (New u1_0 u4_1 j)))) (by intro k j h; (try dsimp only at h ⊢); omega) [qi (.pointer (some ⟨x, 0, none⟩)), qi (.slice ao_bb cb.length cap_bb), qi (.int .i64 0), qi (.pointer (some ⟨x, 0, none⟩)), qi (.int .i64 ((n : Nat) : Int)), qr u8_1.heap.size (fun k => (New w u1_0 k) ∨ (New u1_0 u4_1 k)) (fun R w v => RdR R 1000000 w v (List.replicate n 0)), qi (.int .i64 7), qi (.pointer (some ⟨x, 0, none⟩)), qi (.slice ao_bb cb.length cap_bb), qi (.int .i64 0), qi (.int .i64 0), qi (.int .i64 7), qi (.int .i64 0)] ⟨qi_stable, qi_stable, qi_stable, qi_stable, qi_stable, (qr_stable rdR_cells), qi_stable, qi_stable, qi_stable, qi_stable, qi_stable, qi_stable, qi_stable, trivial⟩ [2, 6, 9] ⟨?_, ?_, ?_, ?_, ?_, ?_, ?_, ?_, ?_, ?_, ?_, ?_, ?_, trivial⟩ ?_
    · exact stq (fun E => ex_move rfl (E.v oe6))
    · exact stq (fun E => ex_move rfl (E.v oe1))
    · exact stepq_chain rfl
    · exact stq (fun E => ex_move rfl (E.v oe6))
    · exact stq (fun E => ex_move rfl (E.v oe0))
    · refine stepq_env rfl rfl rfl fun _ _ _ _ hZ hm _ _ _ hd _ _ => ?_
      have h4 := hd ⟨4, .data⟩ (by simp) rfl _ rfl
      exact qe_makeB rfl (wanted_none rfl) rfl h4 h4 (by omega) hm.size (fun j hj => (hZ j hj).2) (fun _ _ h => h)
    · exact stepq_chain rfl
    · exact stq (fun E => ex_move rfl (E.v oe6))
    · exact stq (fun E => ex_move rfl (E.v oe1))
    · exact stepq_chain rfl
    · exact stq (fun E => ex_assign rfl (E.d 2))
    · exact stq (fun E => ex_assign rfl (E.d 6))
    · exact stq (fun E => ex_assign rfl (E.d 9))
    intro u9_0 hr
    have zu9_0 := hr.size
    have Cx22 := hid (hr.new (S := (fun k => (New w u1_0 k) ∨ (New u1_0 u4_1 k))))
    have Hx23 := hid ((Hx3.out.mod Cx6.out (fun _ _ h => h)).mod hr (by intro k h1 h2; omega))
    clear Hx3
    clear hr
    refine QChain.go fun Z act E => ?_
    refine qc_callF (args := #[.pointer (some ⟨x, 0, none⟩), .slice ao_bb cb.length cap_bb]) rfl (wanted_none rfl) rfl Try.func12 (args2 (E.d 0) (E.d 1)) (Put_LC Hx23.out (Hx5.out.mod Cx22.out (by intro k h1 h2; omega)).rd (by intro k h1; omega) (by intro k h1; omega) (by intro k h1 h2; omega) (by omega) (by omega) (by simp) rfl) ?_
    rintro e u9_1a ⟨rfl, qlg, hm⟩
    have zu9_1a := hm.size
    refine ⟨_, rfl, hm.mono (by intro k hk h; omega), (fun _ => rfl), ?_⟩
    intro u9_1 hr
    have zu9_1 := hr.size
    have Hx24 := hid ((qlg.widen (R' := (fun k => (New w u1_0 k) ∨ (New u1_0 u4_1 k) ∨ (New u9_0 u9_1a k))) (by intro k h1; omega) (Nat.le_refl _)).mod hr (by intro k h1 h2; omega))
    have Cx25 := hid (Cx22.out.goM hm hr (fun _ _ h => h))
    clear Cx22 hm hr Z act E qlg Hx23
    refine QChain.go fun Z act E => ?_
    have h2q : qr u8_1.heap.size (fun k => (New w u1_0 k) ∨ (New u1_0 u4_1 k)) (fun R w v => RdR R 1000000 w v (List.replicate n 0)) Z ([] ++ [.int .i64 0]) (act.eval (.tmp 39)) _ := E.d 5
    obtain ⟨R2, hR2, hrd2⟩ := h2q
    rw [← HZB.out] at hrd2
    refine qc_callF (args := #[.pointer (some ⟨x, 0, none⟩), act.eval (.tmp 39)]) rfl (wanted_none rfl) rfl Try.func12 (args2 (E.d 3) rfl) (Put_long hrd2 (by omega)) ?_
    rintro e u9_2a ⟨rfl, hm⟩
    have zu9_2a := hm.size
    refine ⟨_, rfl, hm.mono (fun _ _ h => h.elim), (fun _ => rfl), ?_⟩
    intro u9_2 hr
    have zu9_2 := hr.size
    have hmr := Mod.after hm hr
    have Hx26 := hid (Hx24.out.mod hmr (by intro k h1 h2; omega))
    clear Hx24
    clear hmr
    have Cx27 := hid (Cx25.out.go hm hr)
    clear Cx25 hm hr
    refine QChain.go fun Z act E => ?_
    refine qc_callF (args := #[.pointer (some ⟨x, 0, none⟩), .slice ao_bb cb.length cap_bb]) rfl (wanted_none rfl) rfl Try.func12 (args2 (E.d 7) (E.d 8)) (Put_LC Hx26.out (Hx5.out.mod Cx27.out (by intro k h1 h2; omega)).rd (by intro k h1; omega) (by intro k h1; omega) (by intro k h1 h2; omega) (by omega) (by omega) (by simp) rfl) ?_
    rintro e u9_3a ⟨rfl, qlg, hm⟩
    have zu9_3a := hm.size
    refine ⟨_, rfl, hm.mono (by intro k hk h; omega), (fun _ => rfl), ?_⟩
    intro u9_3 hr
    have zu9_3 := hr.size
    have Hx28 := hid ((qlg.widen (R' := (fun k => (New w u1_0 k) ∨ (New u1_0 u4_1 k) ∨ (New u9_0 u9_1a k) ∨ (New u9_2 u9_3a k))) (by intro k h1; omega) (Nat.le_refl _)).mod hr (by intro k h1 h2; omega))
    have Cx29 := hid (Cx27.out.goM hm hr (by intro k h0 h2; omega))
    clear Cx27 hm hr Z act E qlg Hx26
    refine QChain.nil fun vs hl hzz hrows hne => ?_
    obtain ⟨Z, hYZ, hZb, hV⟩ := hzz
    have f0 := fvi hV hl 0
    have f1 := fvi hV hl 1
    have f2 := fvi hV hl 2
    have f3 := fvi hV hl 3
    have f4 := fvi hV hl 4
    have f6 := fvi hV hl 6
    have f7 := fvi hV hl 7
    have f8 := fvi hV hl 8
    have f9 := fvi hV hl 9
    have f10 := fvi hV hl 10
    have f11 := fvi hV hl 11
    have f12 := fvi hV hl 12
    rw [show vs = [gw vs 0, gw vs 1, gw vs 2, gw vs 3, gw vs 4, gw vs 5, gw vs 6, gw vs 7, gw vs 8, gw vs 9, gw vs 10, gw vs 11, gw vs 12] from (gw_eta hl).trans rfl]
    have ha0 := HA0.out
    subst ha0
    clear HA0 hV hYZ hZb hsz0 hrows hne oe0 oe1 oe6
    simp only [putAll, Act.put, List.setIfInBounds_toArray, List.set_cons_zero, List.set_cons_succ, f0, f1, f2, f3, f4, f6, f7, f8, f9, f10, f11, f12]
    clear hl f0 f1 f2 f3 f4 f6 f7 f8 f9 f10 f11 f12
    go_upto_region 10 with (fail)
    refine wp_region_U 115 [44, 45, 46, 47, 48, 49, 50, 51, 52, 53, 54, 55, 56, 57, 58, 59, 60, 61, 62, 63, 64] [0, 1, 2, 3, 4, 5, 6, 7, 8, 9, 10, 11, 12, 13, 14, 15, 16, 17, 18, 19, 20] (fun a0 HA0 => ?_)
    have oe0 := ev HA0 0 rfl
    have oe8 := ev HA0 8 rfl
    have oe9 := ev HA0 9 rfl
    have oe10 := ev HA0 10 rfl
    refine QSeq.pure rfl _ (fun E => ex_move rfl (E.v oe8)) ?_
    refine QSeq.pure rfl (.bool false) (fun E => ex_binE rfl (E.d 0 0) rfl (guard_ints _ _ _ _ _ _) (run_neq_i _ _ _ Try.underlying26) (congrArg Value.bool (show _ = false from rfl))) ?_
    refine QSeq.pure rfl _ (fun E => ex_move rfl (E.d 1 0)) ?_
    refine QSeq.pureG rfl (.int .i64 0) (fun E => ((wanted_of rfl rfl (E.sz 46 (by decide)) (E.d 2 0)).trans rfl)) (fun E => ex_move rfl (E.v oe10)) ?_
    refine QSeq.pureG rfl (.bool false) (fun E => ((wanted_of rfl rfl (E.sz 46 (by decide)) (E.d 2 1)).trans rfl)) (fun E => ex_binE rfl (E.d 3 0) rfl (guard_ints _ _ _ _ _ _) (run_neq_i _ _ _ Try.underlying26) (congrArg Value.bool (show _ = false from rfl))) ?_
    refine QSeq.pure rfl (.bool false) (fun E => ex_pick rfl (E.d 2 2) rfl (E.d 4 0)) ?_
    refine QSeq.pure rfl _ (fun E => ex_move rfl (E.d 5 0)) ?_
    refine QSeq.pureG rfl (.int .i64 7) (fun E => ((wanted_of rfl rfl (E.sz 50 (by decide)) (E.d 6 0)).trans rfl)) (fun E => ex_move rfl (E.v oe9)) ?_
    refine QSeq.pureG rfl (.bool false) (fun E => ((wanted_of rfl rfl (E.sz 50 (by decide)) (E.d 6 1)).trans rfl)) (fun E => ex_binE rfl (E.d 7 0) rfl (guard_ints _ _ _ _ _ _) (run_eql_i _ _ _ Try.underlying26) (congrArg Value.bool (show _ = false from rfl))) ?_
    refine QSeq.pureG rfl (.int .i64 ((n : Nat) : Int)) (fun E => ((wanted_of rfl rfl (E.sz 50 (by decide)) (E.d 6 2)).trans rfl)) (fun E => ex_move rfl (E.v oe0)) ?_
    refine QSeq.pureG rfl (.bool false) (fun E => ((wanted_of rfl rfl (E.sz 50 (by decide)) (E.d 6 3)).trans rfl)) (fun E => ex_binE rfl (E.d 9 0) rfl (guard_ints _ _ _ _ _ _) (run_leq_i _ _ _ Try.underlying3) (congrArg Value.bool (decide_eq_false (by omega)))) ?_
    refine QSeq.pureG rfl (.bool false) (fun E => ((wanted_of rfl rfl (E.sz 50 (by decide)) (E.d 6 4)).trans rfl)) (fun E => ex_bin rfl (E.d 8 2) (E.d 10 0) (guard_bools _ _ _ _ _ _) (run_neq_bools _ _ _ Try.underlying4)) ?_
    refine QSeq.pure rfl (.bool false) (fun E => ex_pick rfl (E.d 6 5) rfl (E.d 11 0)) ?_
    refine QSeq.pure rfl _ (fun E => ex_move rfl (E.d 12 0)) ?_
    refine QSeq.pureG rfl (.int .i64 7) (fun E => ((wanted_of rfl rfl (E.sz 57 (by decide)) (E.d 13 0)).trans rfl)) (fun E => ex_move rfl (E.v oe9)) ?_
    refine QSeq.pureG rfl (.bool true) (fun E => ((wanted_of rfl rfl (E.sz 57 (by decide)) (E.d 13 1)).trans rfl)) (fun E => ex_binE rfl (E.d 14 0) rfl (guard_ints _ _ _ _ _ _) (run_neq_i _ _ _ Try.underlying26) (congrArg Value.bool (show _ = true from rfl))) ?_
    refine QSeq.pureG rfl (.bool true) (fun E => ((wanted_of rfl rfl (E.sz 57 (by decide)) (E.d 13 2)).trans rfl)) (fun E => ex_move rfl (E.d 15 0)) ?_
    refine QSeq.pureG rfl (.int .i64 7) (fun E => ((wanted_of rfl rfl (E.sz 60 (by decide)) (E.d 16 0)).trans rfl)) (fun E => ex_move rfl (E.v oe9)) ?_
    refine QSeq.pureG rfl (.bool false) (fun E => ((wanted_of rfl rfl (E.sz 60 (by decide)) (E.d 16 1)).trans rfl)) (fun E => ex_binE rfl (E.d 17 0) rfl (guard_ints _ _ _ _ _ _) (run_neq_i _ _ _ Try.underlying26) (congrArg Value.bool (show _ = false from rfl))) ?_
    refine QSeq.pureG rfl (.bool false) (fun E => ((wanted_of rfl rfl (E.sz 57 (by decide)) (E.d 13 5)).trans rfl)) (fun E => ex_pick rfl (E.d 16 2) (E.d 18 0) rfl) ?_
    refine QSeq.pure rfl (.bool false) (fun E => ex_pick rfl (E.d 13 6) rfl (E.d 19 0)) ?_
    refine QSeq.nil (t' := [_, _, _, _, _, _, _, _, _, _, _, _, _, _, _, _, _, _, _, _, _]) rfl ?_
    obtain rfl := HA0.out
    clear HA0 oe0 oe8 oe9 oe10
    simp only [pz, Act.put, List.setIfInBounds_toArray, List.set_cons_zero, List.set_cons_succ]
    obtain ⟨R1, R2, hq1, hq2, hq12, hqw, hqd⟩ := Hx28.out
    have HR1 := hid (fun k (h : R1 k) => (show (New w u1_0 k) ∨ (New u1_0 u4_1 k) ∨ (New u9_0 u9_1a k) ∨ (New u9_2 u9_3a k) from hq1 k h))
    have HR2 := hid (fun k (h : R2 k) => (show (New w u1_0 k) ∨ (New u1_0 u4_1 k) ∨ (New u9_0 u9_1a k) ∨ (New u9_2 u9_3a k) from hq2 k h))
    have HR12 := Lib.hid hq12
    have HWL := Lib.hid hqw
    have HDK := Lib.hid hqd
    clear hq1 hq2 hq12 hqw hqd
    clear Hx28
    have hfit : Fit (([] ++ [cb]) ++ [cb]) := by intro c hc; simp at hc; subst hc; omega
    go_upto_region 12 with (fail)
    refine wp_region_U 115 [66, 67, 65, 68, 69, 11, 12] [0, 1, 2, 3, 4, 5, 6] (fun a0 HA0 => ?_)
    have oe5 := ev HA0 5 rfl
    refine QSeq.pure rfl _ (fun E => ex_move rfl (E.v oe5)) ?_
    refine QSeq.call rfl rfl Try.func9 (Open_D HDK.out (by intro k h1; have hb := HR2.out k h1; omega) (by omega) (Parse.whole hfit)) (fun E => args1 (E.d 0 0)) ?_
    rintro e u12_1 ⟨y, rfl, qlg, hm⟩
    refine ⟨_, rfl, ?_⟩
    have Hx30 := hid (qlg.widen (R' := (fun k => (R2 k) ∨ (New u9_3 u12_1 k))) (fun _ h => h) (Nat.le_refl _))
    have zu12_1 := hm.size
    have Cx31 := hid (show Mod (fun k => (R2 k)) u9_3 u12_1 from hm)
    clear hm
    clear qlg
    clear HDK
    refine QSeq.pure rfl _ (fun E => ex_move rfl (E.d 1 0)) ?_
    refine QSeq.pure rfl (.pointer (some ⟨y, 0, none⟩)) (fun E => ex_extract rfl (E.d 2 0) rfl) ?_
    refine QSeq.pure rfl (.int .i64 0) (fun E => ex_extract rfl (E.d 2 1) rfl) ?_
    refine QSeq.pure rfl _ (fun E => ex_assign rfl (E.d 3 1)) ?_
    refine QSeq.pure rfl _ (fun E => ex_assign rfl (E.d 4 1)) ?_
    refine QSeq.nil (t' := [_, _, _, _, _, _, _]) rfl ?_
    obtain rfl := HA0.out
    clear HA0 oe5
    simp only [pz, Act.put, List.setIfInBounds_toArray, List.set_cons_zero, List.set_cons_succ]
    go_upto_region 13 with (fail)
    refine wp_region_U 115 [13] [0] (fun a0 HA0 => ?_)
    refine QSeq.pure rfl (.int .i64 2) (fun E => ex_assign rfl rfl) ?_
    refine QSeq.nil (t' := [_]) rfl ?_
    obtain rfl := HA0.out
    clear HA0
    simp only [pz, Act.put, List.setIfInBounds_toArray, List.set_cons_zero, List.set_cons_succ]
    go_upto_region 14 with (fail)
    refine wp_region_U 115 [70, 71] [0, 1] (fun a0 HA0 => ?_)
    have oe9 := ev HA0 9 rfl
    refine QSeq.pure rfl _ (fun E => ex_move rfl (E.v oe9)) ?_
    refine QSeq.pure rfl (.bool false) (fun E => ex_binE rfl (E.d 0 0) rfl (guard_ints _ _ _ _ _ _) (run_eql_i _ _ _ Try.underlying26) (congrArg Value.bool (show _ = false from rfl))) ?_
    refine QSeq.nil (t' := [_, _]) rfl ?_
    obtain rfl := HA0.out
    clear HA0 oe9
    simp only [pz, Act.put, List.setIfInBounds_toArray, List.set_cons_zero, List.set_cons_succ]
    go_upto_region 16 with (fail)
    refine wp_region_U 115 [72, 73, 74, 75, 76, 77, 78, 79, 80, 81, 82, 83, 84, 85, 86, 87, 88, 89] [0, 1, 2, 3, 4, 5, 6, 7, 8, 9, 10, 11, 12, 13, 14, 15, 16, 17] (fun a0 HA0 => ?_)
    have oe6 := ev HA0 6 rfl
    have oe11 := ev HA0 11 rfl
    have oe12 := ev HA0 12 rfl
    have oe13 := ev HA0 13 rfl
    refine QSeq.pure rfl _ (fun E => ex_move rfl (E.v oe12)) ?_
    refine QSeq.pure rfl (.bool false) (fun E => ex_binE rfl (E.d 0 0) rfl (guard_ints _ _ _ _ _ _) (run_neq_i _ _ _ Try.underlying26) (congrArg Value.bool (show _ = false from rfl))) ?_
    refine QSeq.pure rfl _ (fun E => ex_move rfl (E.d 1 0)) ?_
    refine QSeq.pureG rfl (.pointer (some ⟨y, 0, none⟩)) (fun E => ((wanted_of rfl rfl (E.sz 74 (by decide)) (E.d 2 0)).trans rfl)) (fun E => ex_move rfl (E.v oe11)) ?_
    refine QSeq.pureG rfl (.bool false) (fun E => ((wanted_of rfl rfl (E.sz 74 (by decide)) (E.d 2 1)).trans rfl)) (fun E => ex_bin rfl (E.d 3 0) rfl (guard_ptr _ _ _ _ _ _ _) (run_eql_nil _ Try.underlying25 (by kernel_rfl) _)) ?_
    refine QSeq.pure rfl (.bool false) (fun E => ex_pick rfl (E.d 2 2) rfl (E.d 4 0)) ?_
    refine QSeq.pure rfl _ (fun E => ex_move rfl (E.d 5 0)) ?_
    refine QSeq.pureG rfl (.pointer (some ⟨y, 0, none⟩)) (fun E => ((wanted_of rfl rfl (E.sz 78 (by decide)) (E.d 6 0)).trans rfl)) (fun E => ex_move rfl (E.v oe11)) ?_
    refine QSeq.go fun act E => ?_
    refine qc_callF (args := #[.pointer (some ⟨y, 0, none⟩)]) rfl ((wanted_of rfl rfl (E.sz 78 (by decide)) (E.d 6 1)).trans rfl) rfl Try.func13 (args1 (E.d 7 0)) (WLen_L Hx30.out) ?_
    rintro e w2 ⟨rfl, hw2⟩
    obtain rfl : u12_1 = w2 := by first | exact hw2 | exact hw2.symm
    refine ⟨_, rfl, ?_⟩
    clear act E
    refine QSeq.pureG rfl (.int .i64 2) (fun E => ((wanted_of rfl rfl (E.sz 78 (by decide)) (E.d 6 2)).trans rfl)) (fun E => ex_move rfl (E.v oe13)) ?_
    refine QSeq.pureG rfl (.bool false) (fun E => ((wanted_of rfl rfl (E.sz 78 (by decide)) (E.d 6 3)).trans rfl)) (fun E => ex_binE rfl (E.d 8 1) (E.d 9 0) (guard_ints _ _ _ _ _ _) (run_neq_i _ _ _ Try.underlying3) (congrArg Value.bool (show _ = false from rfl))) ?_
    refine QSeq.pure rfl (.bool false) (fun E => ex_pick rfl (E.d 6 4) rfl (E.d 10 0)) ?_
    refine QSeq.pure rfl _ (fun E => ex_move rfl (E.d 11 0)) ?_
    refine QSeq.pureG rfl (.pointer (some ⟨x, 0, none⟩)) (fun E => ((wanted_of rfl rfl (E.sz 84 (by decide)) (E.d 12 0)).trans rfl)) (fun E => ex_move rfl (E.v oe6)) ?_
    refine QSeq.go fun act E => ?_
    refine qc_callF (args := #[.pointer (some ⟨x, 0, none⟩)]) rfl ((wanted_of rfl rfl (E.sz 84 (by decide)) (E.d 12 1)).trans rfl) rfl Try.func13 (args1 (E.d 13 0)) (WLen_Q (HWL.out.mod Cx31.out (by intro k h1 h2; first | omega | (have hb := HR1.out k h1; omega) | (have hb := HR2.out k h2; omega) | exact HR12.out k h1 h2 | exact HR12.out k h2 h1 | (have hb := HR1.out k h1; have hb2 := HR2.out k h2; omega)))) ?_
    rintro e w2 ⟨rfl, hw2⟩
    obtain rfl : u12_1 = w2 := by first | exact hw2 | exact hw2.symm
    refine ⟨_, rfl, ?_⟩
    clear act E
    refine QSeq.pureG rfl (.int .i64 2) (fun E => ((wanted_of rfl rfl (E.sz 84 (by decide)) (E.d 12 2)).trans rfl)) (fun E => ex_move rfl (E.v oe13)) ?_
    refine QSeq.pureG rfl (.bool false) (fun E => ((wanted_of rfl rfl (E.sz 84 (by decide)) (E.d 12 3)).trans rfl)) (fun E => ex_binE rfl (E.d 14 1) (E.d 15 0) (guard_ints _ _ _ _ _ _) (run_neq_i _ _ _ Try.underlying3) (congrArg Value.bool (show _ = false from rfl))) ?_
    refine QSeq.pure rfl (.bool false) (fun E => ex_pick rfl (E.d 12 4) rfl (E.d 16 0)) ?_
    refine QSeq.nil (t' := [_, _, _, _, _, _, _, _, _, _, _, _, _, _, _, _, _, _]) rfl ?_
    obtain rfl := HA0.out
    clear HA0 oe6 oe11 oe12 oe13
    simp only [pz, Act.put, List.setIfInBounds_toArray, List.set_cons_zero, List.set_cons_succ]
    go_upto_region 18 with (fail)
    refine wp_region_U 115 [90, 91, 14] [0, 1, 2] (fun a0 HA0 => ?_)
    have oe11 := ev HA0 11 rfl
    refine QSeq.pure rfl _ (fun E => ex_move rfl (E.v oe11)) ?_
    refine QSeq.call rfl rfl Try.func14 (Records_L Hx30.out (by intro k h1; rcases h1 with h1 | h1 <;> first | omega | (have hb := HR2.out k h1; omega)) (by simp)) (fun E => args1 (E.d 0 0)) ?_
    rintro e u18_1 ⟨vr, rfl, qrec, hm⟩
    obtain ⟨ao_r, cap_r, rfl⟩ := qrec.shape
    refine ⟨_, rfl, ?_⟩
    have Hx32 := hid (qrec.widen (R' := (fun k => (New u12_1 u18_1 k))) (E' := (fun k => (New u12_1 u18_1 k))) (fun _ h => h) (fun _ h => h))
    have zu18_1 := hm.size
    have Cx33 := hid (show Mod (fun _ => False) u12_1 u18_1 from hm)
    clear hm
    clear qrec
    refine QSeq.pure rfl _ (fun E => ex_assign rfl (E.d 1 0)) ?_
    refine QSeq.nil (t' := [_, _, _]) rfl ?_
    obtain rfl := HA0.out
    clear HA0 oe11
    simp only [pz, Act.put, List.setIfInBounds_toArray, List.set_cons_zero, List.set_cons_succ]
    clear HWL
    clear Hx30
    have hq := (Hx32.out.widen (R' := (fun k => (New u12_1 u18_1 k))) (E' := (fun k => (New u12_1 u18_1 k))) (by intro k h1; first | omega | exact h1.elim | exact h1) (by intro k h1; first | omega | exact h1.elim | exact h1)).rd.widen (R' := (fun k => (New u12_1 u18_1 k))) (fun k h => h.elim id id)
    obtain ⟨g1, o1, cs, ea1, hrg, hrd, hcs⟩ := hq.at (i := 0) (by simp)
    obtain ⟨v1, rfl, hv1⟩ := hrd
    have hv1 : RdR _ 100000 _ v1 cb := hv1
    obtain ⟨a1, k1, rfl⟩ := hv1.shape
    subst ea1
    have HAT1 := hid (show CellsAt (fun k => (New u12_1 u18_1 k)) u18_1 g1 (o1 + 0 * 1) [.slice a1 cb.length k1] from ⟨hrg, hcs⟩)
    have HEL1 := Lib.hid hv1
    clear hrg hcs hv1
    obtain ⟨g2, o2, cs, ea2, hrg, hrd, hcs⟩ := hq.at (i := 1) (by simp)
    obtain ⟨v2, rfl, hv2⟩ := hrd
    have hv2 : RdR _ 100000 _ v2 cb := hv2
    obtain ⟨a2, k2, rfl⟩ := hv2.shape
    cases ea2
    have HAT2 := hid (show CellsAt (fun k => (New u12_1 u18_1 k)) u18_1 g1 (o1 + 1 * 1) [.slice a2 cb.length k2] from ⟨hrg, hcs⟩)
    have HEL2 := Lib.hid hv2
    clear hrg hcs hv2
    clear hq
    clear Hx32
    go_upto_region 19 with (fail)
    refine wp_region_U 115 [92, 93, 94, 95, 96, 97, 98, 99, 100, 101, 102, 103, 104, 105, 106, 107, 108, 109, 110, 111, 112, 113, 114, 4] [0, 1, 2, 3, 4, 5, 6, 7, 8, 9, 10, 11, 12, 13, 14, 15, 16, 17, 18, 19, 20, 21, 22, 23] (fun a0 HA0 => ?_)
    have oe1 := ev HA0 1 rfl
    have oe13 := ev HA0 13 rfl
    have oe14 := ev HA0 14 rfl
    refine QSeq.pure rfl _ (fun E => ex_move rfl (E.v oe14)) ?_
    refine QSeq.pure rfl (.int .i64 2) (fun E => ex_lenS rfl (E.d 0 0) Try.underlying33) ?_
    refine QSeq.pure rfl _ (fun E => ex_move rfl (E.v oe13)) ?_
    refine QSeq.pure rfl (.bool true) (fun E => ex_binE rfl (E.d 1 1) (E.d 2 0) (guard_ints _ _ _ _ _ _) (run_eql_i _ _ _ Try.underlying3) (congrArg Value.bool (show _ = true from rfl))) ?_
    refine QSeq.pure rfl _ (fun E => ex_move rfl (E.d 3 0)) ?_
    refine QSeq.pureG rfl (.slice (some ⟨g1, o1, none⟩) 2 cap_r) (fun E => ((wanted_of rfl rfl (E.sz 96 (by decide)) (E.d 4 0)).trans rfl)) (fun E => ex_move rfl (E.v oe14)) ?_
    refine QSeq.pureG rfl (.pointer (some ⟨g1, o1 + 0 * 1, none⟩)) (fun E => ((wanted_of rfl rfl (E.sz 96 (by decide)) (E.d 4 1)).trans rfl)) (fun E => ex_idxS (i := 0) (s := 1) rfl Try.underlying33 (by kernel_rfl) (E.d 5 0) rfl (by decide)) ?_
    refine QSeq.pureG rfl (.slice a1 cb.length k1) (fun E => ((wanted_of rfl rfl (E.sz 96 (by decide)) (E.d 4 2)).trans rfl)) (fun E => ex_load1 rfl Try.underlying22 rfl (E.d 6 0) ((HAT1.out).2 0 _ rfl)) ?_
    refine QSeq.pureG rfl (.slice ao_bb cb.length cap_bb) (fun E => ((wanted_of rfl rfl (E.sz 96 (by decide)) (E.d 4 3)).trans rfl)) (fun E => ex_move rfl (E.v oe1)) ?_
    refine QSeq.go fun act E => ?_
    refine qc_callF (args := #[.slice a1 cb.length k1, .slice ao_bb cb.length cap_bb]) rfl ((wanted_of rfl rfl (E.sz 96 (by decide)) (E.d 4 4)).trans rfl) rfl Try.func15 (args2 (E.d 7 1) (E.d 8 0)) (Same_T HEL1.out (((Hx5.out.mod Cx29.out (by intro k h1 h2; omega)).mod Cx31.out (by intro k h1 h2; have hb := HR2.out k h2; omega)).mod Cx33.out (fun _ _ h => h)).rd) ?_
    rintro e u19_9 ⟨rfl, hm⟩
    refine ⟨_, rfl, ?_⟩
    have zu19_9 := hm.size
    have Cx34 := hid (show Mod (fun _ => False) u18_1 u19_9 from hm)
    clear hm
    clear act E
    refine QSeq.pure rfl (.bool true) (fun E => ex_pick rfl (E.d 4 5) (E.d 9 0) rfl) ?_
    refine QSeq.pure rfl _ (fun E => ex_move rfl (E.d 10 0)) ?_
    refine QSeq.pureG rfl (.slice (some ⟨g1, o1, none⟩) 2 cap_r) (fun E => ((wanted_of rfl rfl (E.sz 103 (by decide)) (E.d 11 0)).trans rfl)) (fun E => ex_move rfl (E.v oe14)) ?_
    refine QSeq.pureG rfl (.int .i64 2) (fun E => ((wanted_of rfl rfl (E.sz 103 (by decide)) (E.d 11 1)).trans rfl)) (fun E => ex_move rfl (E.v oe13)) ?_
    refine QSeq.pureG rfl (.int .i64 1) (fun E => ((wanted_of rfl rfl (E.sz 103 (by decide)) (E.d 11 2)).trans rfl)) (fun E => ex_binE rfl (E.d 13 0) rfl (guard_ints _ _ _ _ _ _) (run_sub_i _ _ Try.underlying3) (congrArg (Value.int .i64) (show IntKind.i64.wrap (2 - 1) = 1 from by decide))) ?_
    refine QSeq.pureG rfl (.pointer (some ⟨g1, o1 + 1 * 1, none⟩)) (fun E => ((wanted_of rfl rfl (E.sz 103 (by decide)) (E.d 11 3)).trans rfl)) (fun E => ex_idxS (i := 1) (s := 1) rfl Try.underlying33 (by kernel_rfl) (E.d 12 2) (E.d 14 0) (by decide)) ?_
    refine QSeq.pureG rfl (.slice a2 cb.length k2) (fun E => ((wanted_of rfl rfl (E.sz 103 (by decide)) (E.d 11 4)).trans rfl)) (fun E => ex_load1 rfl Try.underlying22 rfl (E.d 15 0) (((HAT2.out.mod Cx34.out (fun _ _ h => h))).2 0 _ rfl)) ?_
    refine QSeq.pureG rfl (.slice ao_bb cb.length cap_bb) (fun E => ((wanted_of rfl rfl (E.sz 103 (by decide)) (E.d 11 5)).trans rfl)) (fun E => ex_move rfl (E.v oe1)) ?_
    refine QSeq.go fun act E => ?_
    refine qc_callF (args := #[.slice a2 cb.length k2, .slice ao_bb cb.length cap_bb]) rfl ((wanted_of rfl rfl (E.sz 103 (by decide)) (E.d 11 6)).trans rfl) rfl Try.func15 (args2 (E.d 16 1) (E.d 17 0)) (Same_T (HEL2.out.mod Cx34.out (fun _ _ h => h)) ((((Hx5.out.mod Cx29.out (by intro k h1 h2; omega)).mod Cx31.out (by intro k h1 h2; have hb := HR2.out k h2; omega)).mod Cx33.out (fun _ _ h => h)).mod Cx34.out (fun _ _ h => h)).rd) ?_
    rintro e u19_18 ⟨rfl, hm⟩
    refine ⟨_, rfl, ?_⟩
    have zu19_18 := hm.size
    have HMu19_18 := hid hm
    have Cx35 := hid (Cx34.out.goE hm)
    clear hm Cx34
    clear act E
    refine QSeq.pure rfl (.bool true) (fun E => ex_pick rfl (E.d 11 7) (E.d 18 0) rfl) ?_
    refine QSeq.pure rfl _ (fun E => ex_move rfl (E.d 19 0)) ?_
    refine QSeq.go fun act E => ?_
    refine qc_callF (args := #[]) rfl ((wanted_of rfl rfl (E.sz 112 (by decide)) (E.d 20 0)).trans rfl) rfl Try.func16 args0 (wakes08 _) ?_
    rintro e u19_21 ⟨rfl, hm⟩
    refine ⟨_, rfl, ?_⟩
    have zu19_21 := hm.size
    have HMu19_21 := hid hm
    have Cx36 := hid (Cx35.out.goE hm)
    clear hm Cx35
    clear act E
    refine QSeq.pure rfl (.bool true) (fun E => ex_pick rfl (E.d 20 1) (E.d 21 0) rfl) ?_
    refine QSeq.pure rfl _ (fun E => ex_assign rfl (E.d 22 0)) ?_
    clear HMu19_18 HMu19_21
    refine QSeq.nil (t' := [_, _, _, _, _, _, _, _, _, _, _, _, _, _, _, _, _, _, _, _, _, _, _, _]) rfl ?_
    obtain rfl := HA0.out
    clear HA0 oe1 oe13 oe14
    simp only [pz, Act.put, List.setIfInBounds_toArray, List.set_cons_zero, List.set_cons_succ]
    go_wp2
    go_ret
    exact ⟨rfl, (((((((HM0.out.trans Cx2.out (fun _ _ h => h.elim)).trans Cx4.out (by intro k h1 h2; omega)).trans Cx6.out (fun _ _ h => h.elim)).trans Cx29.out (by intro k h1 h2; omega)).trans Cx31.out (by intro k h1 h2; first | exact h2 | omega | (have hb := HR2.out k h2; omega))).trans Cx33.out (fun _ _ h => h.elim)).trans Cx36.out (fun _ _ h => h.elim))⟩
end Go.Proofs.Ythojipjleajajaa

namespace Go.Proofs.Ythojipjleajajaa.walLong
open Go Go.RowKit Go.Gv Go.ChangeShapes Go.WideShapes Go.ChangeAt
open Go.ChangeMaps (open_string shut_string)

theorem own : ownKnob Try.prog.godebug = none := by kernel_rfl
theorem laidOut : laidOutB Try.prog = true := by kernel_rfl

theorem lifted (os : Os) (started : os.Started) (H : Type) (enc : TypeId × Value → H) :
    ReturnsInHanded {} Try.checked os 3 .any (Rows.walLongSpec.pre6 enc Try.prog Try.f3 Rows.walLongRow.domain false) (Rows.walLongSpec.post enc Try.prog Try.f3 false true false false) := by
  refine returnsInHanded_of_change (C := Try.checked) own started (by kernel_rfl) Try.func3
    (ChangeSpec.witness6 (enc := enc) (C := Try.checked) false ⟨#[], #[.int .i64 0, .slice none 0 0], []⟩ 8 (by kernel_rfl) (by kernel_rfl) (by kernel_rfl) (by kernel_rfl)) ?_
  intro W base args ds gs before hval0 hW hcnd _
  have hval : ∀ (j : Nat) t v, Try.f3.params[j]? = some t → args[j]? = some v → Value.okWide Try.prog W .any base t v := hval0
  have hW' := hW
  obtain ⟨p, q, hA0, hV, rfl, hfz, hnd⟩ := hW
  have hA : DataW.TrodAll enc Try.prog W 0 (fun _ => true) true Try.f3.params.toList args.toList ds p := hA0
  rw [Try.params3] at hA hval
  obtain ⟨v0, vs0, d0, ds0, p0, q0, hargs, rfl, rfl, h0, r0⟩ := trodAll_cons hA
  obtain ⟨v1, vs1, d1, ds1, p1, q1, rfl, rfl, rfl, h1, r1⟩ := trodAll_cons r0
  obtain ⟨rfl, rfl, rfl⟩ := trodAll_nil r1
  obtain rfl : args = #[v0, v1] := by cases args; simp_all
  obtain ⟨rfl, rfl⟩ := trodVars_none hV
  have k0 := h0
  have lt0 : ∀ x ∈ p0, x.block < W.heap.size := by obtain ⟨m, hm⟩ := k0; exact DataW.trod_lt m _ _ _ hm
  have k1 := h1
  have lt1 : ∀ x ∈ p1, x.block < W.heap.size := by obtain ⟨m, hm⟩ := k1; exact DataW.trod_lt m _ _ _ hm
  obtain ⟨a0, rfl, rfl, rfl, w0⟩ := open_int Try.underlying3 (hval 0 3 v0 rfl rfl) h0
  obtain ⟨b1, w1, o1⟩ := bytes_of_trod (hval 1 22 v1 rfl rfl) h1
  clear hA0 hval0
  have q1 : RdR (fun k => k < W.heap.size) b1.length W v1 b1 := ⟨w1, fun h0 g hg => Nat.lt_of_not_le (o1 h0 g hg), Nat.le_refl _⟩
  refine (WalLong_walk a0 b1 v1 W (i64_bd w0) q1).mono fun e W' ⟨he, hmod⟩ => ?_
  subst he
  have bel : Below W.heap.size W W' := hmod.below (Nat.le_refl _) (fun _ _ => id)
  exact ⟨_, rfl, _, _, _, [], _, [], hW', trodAll_mk1 (shut_bool Try.underlying4 _), (trodAll_cons_mk (Below.trod laidOut (by kernel_rfl) (of_decide_eq_true (by kernel_rfl)) k0 bel lt0) (trodAll_cons_mk (Below.trod laidOut (by kernel_rfl) (of_decide_eq_true (by kernel_rfl)) k1 bel lt1) trodAll_mk0)), rfl, bel.frame _, fun h => by cases h⟩

theorem over : Rows.walLongRow.holds Try.pinned (OpenSpec.ofChange Rows.walLongSpec) :=
  OpenClaim.holds_of_wide 3 Try.f3 rfl rfl rfl rfl rfl rfl rfl ⟨rfl, rfl, rfl, rfl, rfl⟩ rfl rfl rfl rfl rfl (by kernel_rfl) Try.func3 (by kernel_rfl)
    (of_decide_eq_true (by kernel_rfl)) (by unfold Func.isWrapper; first | (rw [if_pos (by decide +kernel)]; kernel_rfl) | (rw [if_neg (by decide +kernel)]; exact ⟨rfl, rfl⟩))
    (fun os started H enc _ => lifted os started H enc)

theorem proved : Rows.WalLongSaid := over
end Go.Proofs.Ythojipjleajajaa.walLong
