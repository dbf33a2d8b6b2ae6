/- Texts that are built one behind the other: XRf1, XRf2, XRf3, XSha6, XSha7, XVal5. No condition. -/
import Derived.Test.YtknpapcfhnhheaaMh5
import Derived.Lib.BytesEntry
import Derived.Laws.Externs
import Derived.Deep.Cut
set_option maxRecDepth 100000
set_option linter.unusedVariables false
/- The reference's bytes of small things. -/
namespace Go.Proofs.Ytknpapcfhnhheaa
open Go Go.RowKit Go.Gv


theorem RefInt_Q (n : Int) (hn : I64 n) (w : World) : Calls Try.prog 70 #[.int .i64 n] w fun e w' => ∃ v', e = .returned v' ∧ OwR (New w w') 900000 w' v' (encI n) ∧ Mod (fun _ => False) w w' :=
 (RefInt_R n hn w).mono fun e w' ⟨v', he, ho, hm⟩ => ⟨v', he, ho.widen (fun _ h => h) (by omega), hm⟩
theorem RefNum_Q (n : Nat) (hn : n < U64) (w : World) : Calls Try.prog 75 #[.int .u64 n] w fun e w' => ∃ v', e = .returned v' ∧ OwR (New w w') 900000 w' v' (encN n) ∧ Mod (fun _ => False) w w' :=
 (RefNum_R n hn w).mono fun e w' ⟨v', he, ho, hm⟩ => ⟨v', he, ho.widen (fun _ h => h) (by omega), hm⟩
theorem RefRow_Q {R : Nat → Prop} {N : Nat} {v : Value} {bs : List Int} {w : World} (hr : RdR R N w v bs) (hl : (encN bs.length ++ bs).length ≤ 900000) : Calls Try.prog 102 #[v] w fun e w' => ∃ v', e = .returned v' ∧ OwR (New w w') 900000 w' v' (encN bs.length ++ bs) ∧ Mod (fun _ => False) w w' := by
 have h1 : bs.length ≤ 900000 := by simp only [List.length_append] at hl; omega
 exact (RefRow_R (N := bs.length) ⟨hr.1, hr.2.1, Nat.le_refl _⟩ h1).mono fun e w' ⟨v', he, ho, hm⟩ => ⟨v', he, ⟨ho.1, ho.2.1, hl⟩, hm⟩
theorem RdB_arr3 {w : World} {g off : Nat} {h : List Int} (hc : ∀ j u, (h.map bv)[j]? = some u → w.cell? ⟨g, off + j, none⟩ = some u) (hk : HK h) : RdB w (.slice (some ⟨g, off, none⟩) 32 32) h := by
 refine ⟨hk.2, ?_⟩
 rw [hk.1]
 exact Rd.mk (Nat.le_refl _) (by rw [maxLen_val]; omega) (by simp [hk.1]) fun j y hy => hc j y hy
def bareT (x : St) : List Int := encI x.rp ++ (nameB x.cl x.sq ++ (x.h ++ encN x.tm))
def bareP (x : Pm) : List Int := encI x.rp ++ (encI x.ep ++ (encN x.fl ++ listB ceB x.l))
theorem acc_len {α : Type} (f : α → List Int) (bs : List Int) (l : List α) (k : Nat) {n : Nat} (h : (bs ++ (l.map f).flatten).length ≤ n) : (bs ++ ((l.take k).map f).flatten).length ≤ n := by
 have e : (l.map f).flatten = ((l.take k).map f).flatten ++ ((l.drop k).map f).flatten := by rw [← List.flatten_append, ← List.map_append, List.take_append_drop]
 rw [e] at h
 simp only [List.length_append] at h ⊢
 omega
theorem encI_len0 (n : Int) (h : I64 n) : (encI n).length ≤ 10 := (encI_len n h.2).2
set_option maxHeartbeats 2000000 in
theorem RefSig_Q {a b : Int} (ha : I64 a) (hb : I64 b) (w : World) : Calls Try.prog 74 #[.agg #[.int .i64 a, .int .i64 b]] w fun e w' => ∃ v', e = .returned v' ∧ OwR (New w w') 900000 w' v' (sigB a b) ∧ Mod (fun _ => False) w w' := by
 have HA := Lib.hid ha
 have HB := Lib.hid hb
 have HL := hid (show (encI a ++ encI b).length ≤ 900000 by have := encI_len a ha.2; have := encI_len b hb.2; simp only [List.length_append]; omega)
 clear ha hb
 change Calls _ _ #[.agg #[.int .i64 a, .int .i64 b]] _ _
 go_enter Try.func74, Try.ntmps74
 go_upto_region 1 with (fail)
 obtain ⟨w1, hw1⟩ : ∃ zz, zz = (w.alloc (.cells #[.int .i64 a, .int .i64 b] 28)) := ⟨_, rfl⟩
 change Code.wp _ _ _ _ (w.alloc (.cells #[.int .i64 a, .int .i64 b] 28))
 rw [← hw1]
 have HB1 := hid (show Cs w1 (w.heap.size) #[.int .i64 a, .int .i64 b] 28 by rw [hw1]; exact Cs.new _ _ _)
 have hm : Mod (fun _ => False) w w1 := by rw [hw1]; exact (Mod.refl _ _).alloc _
 have HM0 := hid (show Mod (fun _ => False) w w1 from hm.mono (fun _ _ h => h.elim))
 have hs1 : w1.heap.size = w.heap.size + 1 := by rw [hw1]; simp
 clear hw1 hm
 go_upto_region 1 with (fail)
 generalize ha0 : Act.mk _ _ = a0
 have oe1 : a0.eval (.tmp 1) = .pointer (some ⟨w.heap.size, 0, none⟩) := by rw [← ha0]; rfl
 have hsz0 : a0.tmps.size = 11 := by rw [← ha0]; rfl
 have HA0 := hid ha0
 clear ha0
 refine wp_region_Q0 11 hsz0 [3, 4, 5, 6, 7, 8, 9, 10, 2] [qi (.pointer (some ⟨w.heap.size, 0, none⟩)), qi (.int .i64 a), qv 0, qi (.pointer (some ⟨w.heap.size, 1, none⟩)), qi (.int .i64 b), qv 1, qv 2, qv 3, qv 3] ⟨qi_stable, qi_stable, qv_stable, qi_stable, qi_stable, qv_stable, qv_stable, qv_stable, qv_stable, trivial⟩ [2, 5, 6, 7] ⟨?_, ?_, ?_, ?_, ?_, ?_, ?_, ?_, ?_, trivial⟩ ?_
 ·exact stq (fun E => ex_field rfl Try.underlying28 rfl (by kernel_rfl) (E.v oe1))
 ·exact stq (fun E => ex_load1 rfl Try.underlying3 rfl (E.d 0) (Cs.lit1 (HB1.out.mod E.m.old (by intro h2; omega)) rfl))
 ·exact stepq_chain rfl
 ·exact stq (fun E => ex_field rfl Try.underlying28 rfl (by kernel_rfl) (E.v oe1))
 ·exact stq (fun E => ex_load1 rfl Try.underlying3 rfl (E.d 3) (Cs.lit1 (HB1.out.mod E.m.old (by intro h2; omega)) rfl))
 ·exact stepq_chain rfl
 ·exact stepq_chain rfl
 ·exact stepq_chain rfl
 ·refine stepq_env rfl rfl rfl fun _ _ _ _ _ _ _ _ _ hd _ _ => ?_
  have h7 := hd ⟨7, .data⟩ (by simp) rfl _ rfl
  exact qe_run rfl (wanted_none rfl) (ex_assign rfl rfl) QE.refl h7
 intro u1_0 hr
 have zu1_0 := hr.size
 have Cx1 := hid (hr.new (S := (fun _ => False)))
 clear hr
 refine QChain.go fun Z act E => ?_
 refine qc_callF (args := #[.int .i64 a]) rfl (wanted_none rfl) rfl Try.func70 (args1 (E.d 1)) (RefInt_Q _ HA.out _) ?_
 rintro e u1_1a ⟨v_a1, rfl, qa1, hm⟩
 obtain ⟨ao_a1, cap_a1, rfl⟩ := qa1.shape
 have zu1_1a := hm.size
 refine ⟨_, rfl, hm.mono (fun _ _ h => h.elim), (fun _ => rfl), ?_⟩
 intro u1_1 hr
 have zu1_1 := hr.size
 have Hx2 := hid ((qa1.widen (R' := (fun k => (New u1_0 u1_1a k))) (fun _ h => h) (Nat.le_refl _)).mod hr (by intro k h1 h2; omega))
 have Cx3 := hid (Cx1.out.go hm hr)
 clear Cx1 hm hr Z act E qa1
 refine QChain.go fun Z act E => ?_
 refine qc_callF (args := #[.int .i64 b]) rfl (wanted_none rfl) rfl Try.func70 (args1 (E.d 4)) (RefInt_Q _ HB.out _) ?_
 rintro e u1_2a ⟨v_a2, rfl, qa2, hm⟩
 obtain ⟨ao_a2, cap_a2, rfl⟩ := qa2.shape
 have zu1_2a := hm.size
 refine ⟨_, rfl, hm.mono (fun _ _ h => h.elim), (fun _ => rfl), ?_⟩
 intro u1_2 hr
 have zu1_2 := hr.size
 have Hx4 := hid ((qa2.widen (R' := (fun k => (New u1_1 u1_2a k))) (fun _ h => h) (Nat.le_refl _)).mod hr (by intro k h1 h2; omega))
 have hmr := Mod.after hm hr
 have Hx5 := hid (Hx2.out.mod hmr (by intro k h1 h2; omega))
 clear Hx2
 clear hmr
 have Cx6 := hid (Cx3.out.go hm hr)
 clear Cx3 hm hr Z act E qa2
 refine QChain.go fun Z act E => ?_
 have ea5 : act.eval (.tmp 5) = .slice ao_a1 ((encI a).length) cap_a1 := (chv (v := .slice ao_a1 ((encI a).length) cap_a1) (E.d 2))
 have ea8 : act.eval (.tmp 8) = .slice ao_a2 ((encI b).length) cap_a2 := (chv (v := .slice ao_a2 ((encI b).length) cap_a2) (E.d 5))
 refine qc_rows rfl (wanted_none rfl) rfl Try.underlying144 (by decide) (C := #[.slice ao_a1 ((encI a).length) cap_a1, .slice ao_a2 ((encI b).length) cap_a2]) (by simp only [List.map_toArray, List.map_cons, List.map_nil, ea5, ea8]; kernel_rfl) ?_
 intro u1_3a qrow6 hm
 have zl1_6 := qrow6.lt
 have zu1_3a := hm.size
 refine ⟨hm.mono (fun _ _ h => h.elim), (fun _ => rfl), ?_⟩
 intro u1_3 hr
 have zu1_3 := hr.size
 have Hx7 := hid (qrow6.mod hr (by intro h2; omega))
 have hmr := Mod.after hm hr
 have Hx8 := hid (Hx5.out.mod hmr (by intro k h1 h2; omega))
 have Hx9 := hid (Hx4.out.mod hmr (by intro k h1 h2; omega))
 clear Hx5 Hx4
 clear hmr
 have Cx10 := hid (Cx6.out.go hm hr)
 clear Cx6 hm hr Z act E qrow6 ea5 ea8
 refine QChain.go fun Z act E => ?_
 refine qc_callF (args := #[.slice (some ⟨u1_2.heap.size, 0, none⟩) 2 2]) rfl (wanted_none rfl) rfl Try.func68 (args1 (chv (v := .slice (some ⟨u1_2.heap.size, 0, none⟩) 2 2) (E.d 6))) (Join_Q (n := 2)  Hx7.out [(.slice ao_a1 ((encI a).length) cap_a1, encI a), (.slice ao_a2 ((encI b).length) cap_a2, encI b)] rfl rfl (by intro p hp; simp only [List.mem_cons, List.not_mem_nil, or_false] at hp; rcases hp with rfl | rfl <;> first | exact Hx8.out.rd.1 | exact Hx9.out.rd.1) (by simp) (show flat _ = encI a ++ encI b from by simp only [flat, List.map_cons, List.map_nil, List.flatten_cons, List.flatten_nil, List.append_nil]) (by have := HL.out; simp only [List.length_append] at this ⊢; omega)) ?_
 rintro e u1_4a ⟨v_join1, rfl, qjoin1, hm⟩
 have zu1_4a := hm.size
 refine ⟨_, rfl, hm.mono (fun _ _ h => h.elim), (fun _ => rfl), ?_⟩
 intro u1_4 hr
 have zu1_4 := hr.size
 have Hx11 := hid ((qjoin1.widen (R' := (fun k => (New u1_3 u1_4a k))) (fun _ h => h) (Nat.le_refl _)).mod hr (by intro k h1 h2; omega))
 have hmr := Mod.after hm hr
 have Hx12 := hid (Hx8.out.mod hmr (by intro k h1 h2; omega))
 have Hx13 := hid (Hx9.out.mod hmr (by intro k h1 h2; omega))
 have Hx14 := hid (Hx7.out.mod hmr (by intro h2; omega))
 clear Hx8 Hx9 Hx7
 clear hmr
 have Cx15 := hid (Cx10.out.go hm hr)
 clear Cx10 hm hr Z act E qjoin1
 refine QChain.nil fun vs hl hzz hrows hne => ?_
 obtain ⟨Z, hYZ, hZb, hV⟩ := hzz
 have f2 := fvc hV hl 2
 have f5 := fvc hV hl 5
 have f6 := fvc hV hl 6
 have f7 := fvc hV hl 7
 have f8 := fvc hV hl 8
 rw [show vs = [gw vs 0, gw vs 1, gw vs 2, gw vs 3, gw vs 4, gw vs 5, gw vs 6, gw vs 7, gw vs 8] from (gw_eta hl).trans rfl]
 have ha0 := HA0.out
 subst ha0
 clear HA0 hV hYZ hZb hsz0 hrows hne oe1
 simp only [putAll, Act.put, List.setIfInBounds_toArray, List.set_cons_zero, List.set_cons_succ, f2, f5, f6, f7, f8]
 clear hl f2 f5 f6 f7 f8
 go_wp2
 go_ret
 exact ⟨v_join1, rfl, (Hx11.out.widen (R' := (fun k => New w u1_4 k)) (by intro k h1; omega) (Nat.le_refl _)), (HM0.out.trans Cx15.out (fun _ _ h => h.elim))⟩
set_option maxHeartbeats 2000000 in
theorem RefName_Q {a b : Int} (ha : I64 a) (hb : I64 b) (w : World) : Calls Try.prog 108 #[.agg #[.int .i64 a, .int .i64 b]] w fun e w' => ∃ v', e = .returned v' ∧ OwR (New w w') 900000 w' v' (nameB a b) ∧ Mod (fun _ => False) w w' := by
 have HA := Lib.hid ha
 have HB := Lib.hid hb
 have HL := hid (show (encI a ++ encI b).length ≤ 900000 by have := encI_len a ha.2; have := encI_len b hb.2; simp only [List.length_append]; omega)
 clear ha hb
 change Calls _ _ #[.agg #[.int .i64 a, .int .i64 b]] _ _
 go_enter Try.func108, Try.ntmps108
 go_upto_region 1 with (fail)
 obtain ⟨w1, hw1⟩ : ∃ zz, zz = (w.alloc (.cells #[.int .i64 a, .int .i64 b] 23)) := ⟨_, rfl⟩
 change Code.wp _ _ _ _ (w.alloc (.cells #[.int .i64 a, .int .i64 b] 23))
 rw [← hw1]
 have HB1 := hid (show Cs w1 (w.heap.size) #[.int .i64 a, .int .i64 b] 23 by rw [hw1]; exact Cs.new _ _ _)
 have hm : Mod (fun _ => False) w w1 := by rw [hw1]; exact (Mod.refl _ _).alloc _
 have HM0 := hid (show Mod (fun _ => False) w w1 from hm.mono (fun _ _ h => h.elim))
 have hs1 : w1.heap.size = w.heap.size + 1 := by rw [hw1]; simp
 clear hw1 hm
 go_upto_region 1 with (fail)
 generalize ha0 : Act.mk _ _ = a0
 have oe1 : a0.eval (.tmp 1) = .pointer (some ⟨w.heap.size, 0, none⟩) := by rw [← ha0]; rfl
 have hsz0 : a0.tmps.size = 11 := by rw [← ha0]; rfl
 have HA0 := hid ha0
 clear ha0
 refine wp_region_Q0 11 hsz0 [3, 4, 5, 6, 7, 8, 9, 10, 2] [qi (.pointer (some ⟨w.heap.size, 0, none⟩)), qi (.int .i64 a), qv 0, qi (.pointer (some ⟨w.heap.size, 1, none⟩)), qi (.int .i64 b), qv 1, qv 2, qv 3, qv 3] ⟨qi_stable, qi_stable, qv_stable, qi_stable, qi_stable, qv_stable, qv_stable, qv_stable, qv_stable, trivial⟩ [2, 5, 6, 7] ⟨?_, ?_, ?_, ?_, ?_, ?_, ?_, ?_, ?_, trivial⟩ ?_
 ·exact stq (fun E => ex_field rfl Try.underlying23 rfl (by kernel_rfl) (E.v oe1))
 ·exact stq (fun E => ex_load1 rfl Try.underlying3 rfl (E.d 0) (Cs.lit1 (HB1.out.mod E.m.old (by intro h2; omega)) rfl))
 ·exact stepq_chain rfl
 ·exact stq (fun E => ex_field rfl Try.underlying23 rfl (by kernel_rfl) (E.v oe1))
 ·exact stq (fun E => ex_load1 rfl Try.underlying3 rfl (E.d 3) (Cs.lit1 (HB1.out.mod E.m.old (by intro h2; omega)) rfl))
 ·exact stepq_chain rfl
 ·exact stepq_chain rfl
 ·exact stepq_chain rfl
 ·refine stepq_env rfl rfl rfl fun _ _ _ _ _ _ _ _ _ hd _ _ => ?_
  have h7 := hd ⟨7, .data⟩ (by simp) rfl _ rfl
  exact qe_run rfl (wanted_none rfl) (ex_assign rfl rfl) QE.refl h7
 intro u1_0 hr
 have zu1_0 := hr.size
 have Cx1 := hid (hr.new (S := (fun _ => False)))
 clear hr
 refine QChain.go fun Z act E => ?_
 refine qc_callF (args := #[.int .i64 a]) rfl (wanted_none rfl) rfl Try.func70 (args1 (E.d 1)) (RefInt_Q _ HA.out _) ?_
 rintro e u1_1a ⟨v_a1, rfl, qa1, hm⟩
 obtain ⟨ao_a1, cap_a1, rfl⟩ := qa1.shape
 have zu1_1a := hm.size
 refine ⟨_, rfl, hm.mono (fun _ _ h => h.elim), (fun _ => rfl), ?_⟩
 intro u1_1 hr
 have zu1_1 := hr.size
 have Hx2 := hid ((qa1.widen (R' := (fun k => (New u1_0 u1_1a k))) (fun _ h => h) (Nat.le_refl _)).mod hr (by intro k h1 h2; omega))
 have Cx3 := hid (Cx1.out.go hm hr)
 clear Cx1 hm hr Z act E qa1
 refine QChain.go fun Z act E => ?_
 refine qc_callF (args := #[.int .i64 b]) rfl (wanted_none rfl) rfl Try.func70 (args1 (E.d 4)) (RefInt_Q _ HB.out _) ?_
 rintro e u1_2a ⟨v_a2, rfl, qa2, hm⟩
 obtain ⟨ao_a2, cap_a2, rfl⟩ := qa2.shape
 have zu1_2a := hm.size
 refine ⟨_, rfl, hm.mono (fun _ _ h => h.elim), (fun _ => rfl), ?_⟩
 intro u1_2 hr
 have zu1_2 := hr.size
 have Hx4 := hid ((qa2.widen (R' := (fun k => (New u1_1 u1_2a k))) (fun _ h => h) (Nat.le_refl _)).mod hr (by intro k h1 h2; omega))
 have hmr := Mod.after hm hr
 have Hx5 := hid (Hx2.out.mod hmr (by intro k h1 h2; omega))
 clear Hx2
 clear hmr
 have Cx6 := hid (Cx3.out.go hm hr)
 clear Cx3 hm hr Z act E qa2
 refine QChain.go fun Z act E => ?_
 have ea5 : act.eval (.tmp 5) = .slice ao_a1 ((encI a).length) cap_a1 := (chv (v := .slice ao_a1 ((encI a).length) cap_a1) (E.d 2))
 have ea8 : act.eval (.tmp 8) = .slice ao_a2 ((encI b).length) cap_a2 := (chv (v := .slice ao_a2 ((encI b).length) cap_a2) (E.d 5))
 refine qc_rows rfl (wanted_none rfl) rfl Try.underlying144 (by decide) (C := #[.slice ao_a1 ((encI a).length) cap_a1, .slice ao_a2 ((encI b).length) cap_a2]) (by simp only [List.map_toArray, List.map_cons, List.map_nil, ea5, ea8]; kernel_rfl) ?_
 intro u1_3a qrow6 hm
 have zl1_6 := qrow6.lt
 have zu1_3a := hm.size
 refine ⟨hm.mono (fun _ _ h => h.elim), (fun _ => rfl), ?_⟩
 intro u1_3 hr
 have zu1_3 := hr.size
 have Hx7 := hid (qrow6.mod hr (by intro h2; omega))
 have hmr := Mod.after hm hr
 have Hx8 := hid (Hx5.out.mod hmr (by intro k h1 h2; omega))
 have Hx9 := hid (Hx4.out.mod hmr (by intro k h1 h2; omega))
 clear Hx5 Hx4
 clear hmr
 have Cx10 := hid (Cx6.out.go hm hr)
 clear Cx6 hm hr Z act E qrow6 ea5 ea8
 refine QChain.go fun Z act E => ?_
 refine qc_callF (args := #[.slice (some ⟨u1_2.heap.size, 0, none⟩) 2 2]) rfl (wanted_none rfl) rfl Try.func68 (args1 (chv (v := .slice (some ⟨u1_2.heap.size, 0, none⟩) 2 2) (E.d 6))) (Join_Q (n := 2)  Hx7.out [(.slice ao_a1 ((encI a).length) cap_a1, encI a), (.slice ao_a2 ((encI b).length) cap_a2, encI b)] rfl rfl (by intro p hp; simp only [List.mem_cons, List.not_mem_nil, or_false] at hp; rcases hp with rfl | rfl <;> first | exact Hx8.out.rd.1 | exact Hx9.out.rd.1) (by simp) (show flat _ = encI a ++ encI b from by simp only [flat, List.map_cons, List.map_nil, List.flatten_cons, List.flatten_nil, List.append_nil]) (by have := HL.out; simp only [List.length_append] at this ⊢; omega)) ?_
 rintro e u1_4a ⟨v_join1, rfl, qjoin1, hm⟩
 have zu1_4a := hm.size
 refine ⟨_, rfl, hm.mono (fun _ _ h => h.elim), (fun _ => rfl), ?_⟩
 intro u1_4 hr
 have zu1_4 := hr.size
 have Hx11 := hid ((qjoin1.widen (R' := (fun k => (New u1_3 u1_4a k))) (fun _ h => h) (Nat.le_refl _)).mod hr (by intro k h1 h2; omega))
 have hmr := Mod.after hm hr
 have Hx12 := hid (Hx8.out.mod hmr (by intro k h1 h2; omega))
 have Hx13 := hid (Hx9.out.mod hmr (by intro k h1 h2; omega))
 have Hx14 := hid (Hx7.out.mod hmr (by intro h2; omega))
 clear Hx8 Hx9 Hx7
 clear hmr
 have Cx15 := hid (Cx10.out.go hm hr)
 clear Cx10 hm hr Z act E qjoin1
 refine QChain.nil fun vs hl hzz hrows hne => ?_
 obtain ⟨Z, hYZ, hZb, hV⟩ := hzz
 have f2 := fvc hV hl 2
 have f5 := fvc hV hl 5
 have f6 := fvc hV hl 6
 have f7 := fvc hV hl 7
 have f8 := fvc hV hl 8
 rw [show vs = [gw vs 0, gw vs 1, gw vs 2, gw vs 3, gw vs 4, gw vs 5, gw vs 6, gw vs 7, gw vs 8] from (gw_eta hl).trans rfl]
 have ha0 := HA0.out
 subst ha0
 clear HA0 hV hYZ hZb hsz0 hrows hne oe1
 simp only [putAll, Act.put, List.setIfInBounds_toArray, List.set_cons_zero, List.set_cons_succ, f2, f5, f6, f7, f8]
 clear hl f2 f5 f6 f7 f8
 go_wp2
 go_ret
 exact ⟨v_join1, rfl, (Hx11.out.widen (R' := (fun k => New w u1_4 k)) (by intro k h1; omega) (Nat.le_refl _)), (HM0.out.trans Cx15.out (fun _ _ h => h.elim))⟩
set_option maxHeartbeats 4000000 in
theorem RefCm_Q : Makes CmR 69 cmB := by
 intro R2 cs x w hx hB2 hl
 obtain ⟨rfl, hok⟩ := hx
 have HBT := Lib.hid hB2
 have HOK := Lib.hid hok
 have HL := Lib.hid hl
 clear hB2 hl hok
 unfold cmB at HL
 go_enter Try.func69, Try.ntmps69
 go_upto_region 1 with (fail)
 obtain ⟨w1, hw1⟩ : ∃ zz, zz = (w.alloc (.cells (x.cells : List Value).toArray 49)) := ⟨_, rfl⟩
 change Code.wp _ _ _ _ (w.alloc (.cells (x.cells : List Value).toArray 49))
 rw [← hw1]
 have HB1 := hid (show Cs w1 (w.heap.size) (x.cells : List Value).toArray 49 by rw [hw1]; exact Cs.new _ _ _)
 have hm : Mod (fun _ => False) w w1 := by rw [hw1]; exact (Mod.refl _ _).alloc _
 have HM0 := hid (show Mod (fun _ => False) w w1 from hm.mono (fun _ _ h => h.elim))
 have hs1 : w1.heap.size = w.heap.size + 1 := by rw [hw1]; simp
 clear hw1 hm
 go_upto_region 1 with (fail)
 generalize ha0 : Act.mk _ _ = a0
 have oe1 : a0.eval (.tmp 1) = .pointer (some ⟨w.heap.size, 0, none⟩) := by rw [← ha0]; rfl
 have hsz0 : a0.tmps.size = 16 := by rw [← ha0]; rfl
 have HA0 := hid ha0
 clear ha0
 refine wp_region_Q0 16 hsz0 [3, 4, 5, 6, 7, 8, 9, 10, 11, 12, 13, 14, 15, 2] [qi (.pointer (some ⟨w.heap.size, 0, none⟩)), qi (.agg #[.int .i64 x.cl, .int .i64 x.sq]), qv 0, qi (.pointer (some ⟨w.heap.size, 2, none⟩)), qi (.slice (some ⟨w.heap.size, 2, none⟩) 32 32), qi (.pointer (some ⟨w.heap.size, 34, none⟩)), qi (.int .i64 x.ln), qv 1, qi (.pointer (some ⟨w.heap.size, 35, none⟩)), qi (.agg #[.int .i64 x.sb, .int .i64 x.mr]), qv 2, qv 3, qv 4, qv 4] ⟨qi_stable, qi_stable, qv_stable, qi_stable, qi_stable, qi_stable, qi_stable, qv_stable, qi_stable, qi_stable, qv_stable, qv_stable, qv_stable, qv_stable, trivial⟩ [2, 7, 10, 11, 12] ⟨?_, ?_, ?_, ?_, ?_, ?_, ?_, ?_, ?_, ?_, ?_, ?_, ?_, ?_, trivial⟩ ?_
 ·exact stq (fun E => ex_field rfl Try.underlying49 rfl (by kernel_rfl) (E.v oe1))
 ·exact stq (fun E => ex_loadA rfl Try.underlying23 rfl (off := 0) (cs := [.int .i64 x.cl, .int .i64 x.sq]) (by kernel_rfl) (E.d 0) (Cs.preA (pre := [.int .i64 x.cl, .int .i64 x.sq]) (mid := x.h.map bv) (post := [.int .i64 x.ln, .int .i64 x.sb, .int .i64 x.mr]) (HB1.out.mod E.m.old (by intro h2; omega)) rfl))
 ·exact stepq_chain rfl
 ·exact stq (fun E => ex_field rfl Try.underlying49 rfl (by kernel_rfl) (E.v oe1))
 ·exact stq (fun E => ex_sliceArr rfl Try.underlying25 (by kernel_rfl) (E.d 3) (by decide))
 ·exact stq (fun E => ex_field rfl Try.underlying49 rfl (by kernel_rfl) (E.v oe1))
 ·exact stq (fun E => ex_load1 rfl Try.underlying3 rfl (E.d 5) ((HB1.out.mod E.m.old (by intro h2; omega)).c34 HOK.out.2.1))
 ·exact stepq_chain rfl
 ·exact stq (fun E => ex_field rfl Try.underlying49 rfl (by kernel_rfl) (E.v oe1))
 ·exact stq (fun E => ex_loadA rfl Try.underlying28 rfl (off := 35) (cs := [.int .i64 x.sb, .int .i64 x.mr]) (by kernel_rfl) (E.d 8) ((HB1.out.mod E.m.old (by intro h2; omega)).sig HOK.out.2.1))
 ·exact stepq_chain rfl
 ·exact stepq_chain rfl
 ·exact stepq_chain rfl
 ·refine stepq_env rfl rfl rfl fun _ _ _ _ _ _ _ _ _ hd _ _ => ?_
  have h12 := hd ⟨12, .data⟩ (by simp) rfl _ rfl
  exact qe_run rfl (wanted_none rfl) (ex_assign rfl rfl) QE.refl h12
 intro u1_0 hr
 have zu1_0 := hr.size
 have Cx1 := hid (hr.new (S := (fun _ => False)))
 clear hr
 refine QChain.go fun Z act E => ?_
 refine qc_callF (args := #[.agg #[.int .i64 x.cl, .int .i64 x.sq]]) rfl (wanted_none rfl) rfl Try.func108 (args1 (E.d 1)) (RefName_Q HOK.out.1.1 HOK.out.1.2.1 _) ?_
 rintro e u1_1a ⟨v_a1, rfl, qa1, hm⟩
 obtain ⟨ao_a1, cap_a1, rfl⟩ := qa1.shape
 have zu1_1a := hm.size
 refine ⟨_, rfl, hm.mono (fun _ _ h => h.elim), (fun _ => rfl), ?_⟩
 intro u1_1 hr
 have zu1_1 := hr.size
 have Hx2 := hid ((qa1.widen (R' := (fun k => (New u1_0 u1_1a k))) (fun _ h => h) (Nat.le_refl _)).mod hr (by intro k h1 h2; omega))
 have Cx3 := hid (Cx1.out.go hm hr)
 clear Cx1 hm hr Z act E qa1
 refine QChain.go fun Z act E => ?_
 refine qc_callF (args := #[.int .i64 x.ln]) rfl (wanted_none rfl) rfl Try.func70 (args1 (E.d 6)) (RefInt_Q _ HOK.out.1.2.2.1 _) ?_
 rintro e u1_2a ⟨v_a2, rfl, qa2, hm⟩
 obtain ⟨ao_a2, cap_a2, rfl⟩ := qa2.shape
 have zu1_2a := hm.size
 refine ⟨_, rfl, hm.mono (fun _ _ h => h.elim), (fun _ => rfl), ?_⟩
 intro u1_2 hr
 have zu1_2 := hr.size
 have Hx4 := hid ((qa2.widen (R' := (fun k => (New u1_1 u1_2a k))) (fun _ h => h) (Nat.le_refl _)).mod hr (by intro k h1 h2; omega))
 have hmr := Mod.after hm hr
 have Hx5 := hid (Hx2.out.mod hmr (by intro k h1 h2; omega))
 clear Hx2
 clear hmr
 have Cx6 := hid (Cx3.out.go hm hr)
 clear Cx3 hm hr Z act E qa2
 refine QChain.go fun Z act E => ?_
 refine qc_callF (args := #[.agg #[.int .i64 x.sb, .int .i64 x.mr]]) rfl (wanted_none rfl) rfl Try.func74 (args1 (E.d 9)) (RefSig_Q HOK.out.1.2.2.2.1 HOK.out.1.2.2.2.2 _) ?_
 rintro e u1_3a ⟨v_a3, rfl, qa3, hm⟩
 obtain ⟨ao_a3, cap_a3, rfl⟩ := qa3.shape
 have zu1_3a := hm.size
 refine ⟨_, rfl, hm.mono (fun _ _ h => h.elim), (fun _ => rfl), ?_⟩
 intro u1_3 hr
 have zu1_3 := hr.size
 have Hx7 := hid ((qa3.widen (R' := (fun k => (New u1_2 u1_3a k))) (fun _ h => h) (Nat.le_refl _)).mod hr (by intro k h1 h2; omega))
 have hmr := Mod.after hm hr
 have Hx8 := hid (Hx5.out.mod hmr (by intro k h1 h2; omega))
 have Hx9 := hid (Hx4.out.mod hmr (by intro k h1 h2; omega))
 clear Hx5 Hx4
 clear hmr
 have Cx10 := hid (Cx6.out.go hm hr)
 clear Cx6 hm hr Z act E qa3
 refine QChain.go fun Z act E => ?_
 have ea5 : act.eval (.tmp 5) = .slice ao_a1 ((nameB x.cl x.sq).length) cap_a1 := (chv (v := .slice ao_a1 ((nameB x.cl x.sq).length) cap_a1) (E.d 2))
 have ea7 : act.eval (.tmp 7) = .slice (some ⟨w.heap.size, 2, none⟩) 32 32 := (E.d 4)
 have ea10 : act.eval (.tmp 10) = .slice ao_a2 ((encI x.ln).length) cap_a2 := (chv (v := .slice ao_a2 ((encI x.ln).length) cap_a2) (E.d 7))
 have ea13 : act.eval (.tmp 13) = .slice ao_a3 ((sigB x.sb x.mr).length) cap_a3 := (chv (v := .slice ao_a3 ((sigB x.sb x.mr).length) cap_a3) (E.d 10))
 refine qc_rows rfl (wanted_none rfl) rfl Try.underlying144 (by decide) (C := #[.slice ao_a1 ((nameB x.cl x.sq).length) cap_a1, .slice (some ⟨w.heap.size, 2, none⟩) 32 32, .slice ao_a2 ((encI x.ln).length) cap_a2, .slice ao_a3 ((sigB x.sb x.mr).length) cap_a3]) (by simp only [List.map_toArray, List.map_cons, List.map_nil, ea5, ea7, ea10, ea13]; kernel_rfl) ?_
 intro u1_4a qrow11 hm
 have zl1_11 := qrow11.lt
 have zu1_4a := hm.size
 refine ⟨hm.mono (fun _ _ h => h.elim), (fun _ => rfl), ?_⟩
 intro u1_4 hr
 have zu1_4 := hr.size
 have Hx11 := hid (qrow11.mod hr (by intro h2; omega))
 have hmr := Mod.after hm hr
 have Hx12 := hid (Hx8.out.mod hmr (by intro k h1 h2; omega))
 have Hx13 := hid (Hx9.out.mod hmr (by intro k h1 h2; omega))
 have Hx14 := hid (Hx7.out.mod hmr (by intro k h1 h2; omega))
 clear Hx8 Hx9 Hx7
 clear hmr
 have Cx15 := hid (Cx10.out.go hm hr)
 clear Cx10 hm hr Z act E qrow11 ea5 ea7 ea10 ea13
 refine QChain.go fun Z act E => ?_
 refine qc_callF (args := #[.slice (some ⟨u1_3.heap.size, 0, none⟩) 4 4]) rfl (wanted_none rfl) rfl Try.func68 (args1 (chv (v := .slice (some ⟨u1_3.heap.size, 0, none⟩) 4 4) (E.d 11))) (Join_Q (n := 4)  Hx11.out [(.slice ao_a1 ((nameB x.cl x.sq).length) cap_a1, nameB x.cl x.sq), (.slice (some ⟨w.heap.size, 2, none⟩) 32 32, x.h), (.slice ao_a2 ((encI x.ln).length) cap_a2, encI x.ln), (.slice ao_a3 ((sigB x.sb x.mr).length) cap_a3, sigB x.sb x.mr)] rfl rfl (by intro p hp; simp only [List.mem_cons, List.not_mem_nil, or_false] at hp; rcases hp with rfl | rfl | rfl | rfl <;> first | exact Hx12.out.rd.1 | exact RdB_arr3 ((HB1.out.mod Cx15.out (fun h => h)).hash) HOK.out.2 | exact Hx13.out.rd.1 | exact Hx14.out.rd.1) (by simp) (show flat _ = nameB x.cl x.sq ++ (x.h ++ (encI x.ln ++ sigB x.sb x.mr)) from by simp only [flat, List.map_cons, List.map_nil, List.flatten_cons, List.flatten_nil, List.append_nil]) (by have := HL.out; simp only [List.length_append] at this ⊢; omega)) ?_
 rintro e u1_5a ⟨v_join1, rfl, qjoin1, hm⟩
 have zu1_5a := hm.size
 refine ⟨_, rfl, hm.mono (fun _ _ h => h.elim), (fun _ => rfl), ?_⟩
 intro u1_5 hr
 have zu1_5 := hr.size
 have Hx16 := hid ((qjoin1.widen (R' := (fun k => (New u1_4 u1_5a k))) (fun _ h => h) (Nat.le_refl _)).mod hr (by intro k h1 h2; omega))
 have hmr := Mod.after hm hr
 have Hx17 := hid (Hx12.out.mod hmr (by intro k h1 h2; omega))
 have Hx18 := hid (Hx13.out.mod hmr (by intro k h1 h2; omega))
 have Hx19 := hid (Hx14.out.mod hmr (by intro k h1 h2; omega))
 have Hx20 := hid (Hx11.out.mod hmr (by intro h2; omega))
 clear Hx12 Hx13 Hx14 Hx11
 clear hmr
 have Cx21 := hid (Cx15.out.go hm hr)
 clear Cx15 hm hr Z act E qjoin1
 refine QChain.nil fun vs hl hzz hrows hne => ?_
 obtain ⟨Z, hYZ, hZb, hV⟩ := hzz
 have f2 := fvc hV hl 2
 have f7 := fvc hV hl 7
 have f10 := fvc hV hl 10
 have f11 := fvc hV hl 11
 have f12 := fvc hV hl 12
 have f13 := fvc hV hl 13
 rw [show vs = [gw vs 0, gw vs 1, gw vs 2, gw vs 3, gw vs 4, gw vs 5, gw vs 6, gw vs 7, gw vs 8, gw vs 9, gw vs 10, gw vs 11, gw vs 12, gw vs 13] from (gw_eta hl).trans rfl]
 have ha0 := HA0.out
 subst ha0
 clear HA0 hV hYZ hZb hsz0 hrows hne oe1
 simp only [putAll, Act.put, List.setIfInBounds_toArray, List.set_cons_zero, List.set_cons_succ, f2, f7, f10, f11, f12, f13]
 clear hl f2 f7 f10 f11 f12 f13
 go_wp2
 go_ret
 have hq := (Hx16.out.widen (R' := (fun k => New w u1_5 k)) (by intro k h1; omega) (Nat.le_refl _))
 (try simp only [List.append_assoc] at hq)
 exact ⟨v_join1, rfl, by simpa only [cmB, List.append_assoc] using hq, (HM0.out.trans Cx21.out (fun _ _ h => h.elim))⟩
set_option maxHeartbeats 4000000 in
theorem RefBare_Q : Makes StR 103 bareT := by
 intro R2 cs x w hx hB2 hl
 obtain ⟨rfl, hok⟩ := hx
 have HBT := Lib.hid hB2
 have HOK := Lib.hid hok
 have HL := Lib.hid hl
 clear hB2 hl hok
 unfold bareT at HL
 go_enter Try.func103, Try.ntmps103
 go_upto_region 1 with (fail)
 obtain ⟨w1, hw1⟩ : ∃ zz, zz = (w.alloc (.cells (x.cells : List Value).toArray 30)) := ⟨_, rfl⟩
 change Code.wp _ _ _ _ (w.alloc (.cells (x.cells : List Value).toArray 30))
 rw [← hw1]
 have HB1 := hid (show Cs w1 (w.heap.size) (x.cells : List Value).toArray 30 by rw [hw1]; exact Cs.new _ _ _)
 have hm : Mod (fun _ => False) w w1 := by rw [hw1]; exact (Mod.refl _ _).alloc _
 have HM0 := hid (show Mod (fun _ => False) w w1 from hm.mono (fun _ _ h => h.elim))
 have hs1 : w1.heap.size = w.heap.size + 1 := by rw [hw1]; simp
 clear hw1 hm
 go_upto_region 1 with (fail)
 generalize ha0 : Act.mk _ _ = a0
 have oe1 : a0.eval (.tmp 1) = .pointer (some ⟨w.heap.size, 0, none⟩) := by rw [← ha0]; rfl
 have hsz0 : a0.tmps.size = 16 := by rw [← ha0]; rfl
 have HA0 := hid ha0
 clear ha0
 refine wp_region_Q0 16 hsz0 [3, 4, 5, 6, 7, 8, 9, 10, 11, 12, 13, 14, 15, 2] [qi (.pointer (some ⟨w.heap.size, 0, none⟩)), qi (.int .i64 x.rp), qv 0, qi (.pointer (some ⟨w.heap.size, 1, none⟩)), qi (.agg #[.int .i64 x.cl, .int .i64 x.sq]), qv 1, qi (.pointer (some ⟨w.heap.size, 3, none⟩)), qi (.slice (some ⟨w.heap.size, 3, none⟩) 32 32), qi (.pointer (some ⟨w.heap.size, 35, none⟩)), qi (.int .u64 (x.tm : Nat)), qv 2, qv 3, qv 4, qv 4] ⟨qi_stable, qi_stable, qv_stable, qi_stable, qi_stable, qv_stable, qi_stable, qi_stable, qi_stable, qi_stable, qv_stable, qv_stable, qv_stable, qv_stable, trivial⟩ [2, 5, 10, 11, 12] ⟨?_, ?_, ?_, ?_, ?_, ?_, ?_, ?_, ?_, ?_, ?_, ?_, ?_, ?_, trivial⟩ ?_
 ·exact stq (fun E => ex_field rfl Try.underlying30 rfl (by kernel_rfl) (E.v oe1))
 ·exact stq (fun E => ex_load1 rfl Try.underlying3 rfl (E.d 0) (Cs.pre1 (HB1.out.mod E.m.old (by intro h2; omega)) rfl))
 ·exact stepq_chain rfl
 ·exact stq (fun E => ex_field rfl Try.underlying30 rfl (by kernel_rfl) (E.v oe1))
 ·exact stq (fun E => ex_loadA rfl Try.underlying23 rfl (off := 1) (cs := [.int .i64 x.cl, .int .i64 x.sq]) (by kernel_rfl) (E.d 3) (Cs.preA (HB1.out.mod E.m.old (by intro h2; omega)) rfl))
 ·exact stepq_chain rfl
 ·exact stq (fun E => ex_field rfl Try.underlying30 rfl (by kernel_rfl) (E.v oe1))
 ·exact stq (fun E => ex_sliceArr rfl Try.underlying25 (by kernel_rfl) (E.d 6) (by decide))
 ·exact stq (fun E => ex_field rfl Try.underlying30 rfl (by kernel_rfl) (E.v oe1))
 ·exact stq (fun E => ex_load1 rfl Try.underlying26 rfl (E.d 8) (Cs.post1 (m := 32) (k := 0) (HB1.out.mod E.m.old (by intro h2; omega)) (by rw [List.length_map]; exact HOK.out.h.1) rfl rfl))
 ·exact stepq_chain rfl
 ·exact stepq_chain rfl
 ·exact stepq_chain rfl
 ·refine stepq_env rfl rfl rfl fun _ _ _ _ _ _ _ _ _ hd _ _ => ?_
  have h12 := hd ⟨12, .data⟩ (by simp) rfl _ rfl
  exact qe_run rfl (wanted_none rfl) (ex_assign rfl rfl) QE.refl h12
 intro u1_0 hr
 have zu1_0 := hr.size
 have Cx1 := hid (hr.new (S := (fun _ => False)))
 clear hr
 refine QChain.go fun Z act E => ?_
 refine qc_callF (args := #[.int .i64 x.rp]) rfl (wanted_none rfl) rfl Try.func70 (args1 (E.d 1)) (RefInt_Q _ HOK.out.rp _) ?_
 rintro e u1_1a ⟨v_a1, rfl, qa1, hm⟩
 obtain ⟨ao_a1, cap_a1, rfl⟩ := qa1.shape
 have zu1_1a := hm.size
 refine ⟨_, rfl, hm.mono (fun _ _ h => h.elim), (fun _ => rfl), ?_⟩
 intro u1_1 hr
 have zu1_1 := hr.size
 have Hx2 := hid ((qa1.widen (R' := (fun k => (New u1_0 u1_1a k))) (fun _ h => h) (Nat.le_refl _)).mod hr (by intro k h1 h2; omega))
 have Cx3 := hid (Cx1.out.go hm hr)
 clear Cx1 hm hr Z act E qa1
 refine QChain.go fun Z act E => ?_
 refine qc_callF (args := #[.agg #[.int .i64 x.cl, .int .i64 x.sq]]) rfl (wanted_none rfl) rfl Try.func108 (args1 (E.d 4)) (RefName_Q HOK.out.cl HOK.out.sq _) ?_
 rintro e u1_2a ⟨v_a2, rfl, qa2, hm⟩
 obtain ⟨ao_a2, cap_a2, rfl⟩ := qa2.shape
 have zu1_2a := hm.size
 refine ⟨_, rfl, hm.mono (fun _ _ h => h.elim), (fun _ => rfl), ?_⟩
 intro u1_2 hr
 have zu1_2 := hr.size
 have Hx4 := hid ((qa2.widen (R' := (fun k => (New u1_1 u1_2a k))) (fun _ h => h) (Nat.le_refl _)).mod hr (by intro k h1 h2; omega))
 have hmr := Mod.after hm hr
 have Hx5 := hid (Hx2.out.mod hmr (by intro k h1 h2; omega))
 clear Hx2
 clear hmr
 have Cx6 := hid (Cx3.out.go hm hr)
 clear Cx3 hm hr Z act E qa2
 refine QChain.go fun Z act E => ?_
 refine qc_callF (args := #[.int .u64 (x.tm : Nat)]) rfl (wanted_none rfl) rfl Try.func75 (args1 (E.d 9)) (RefNum_Q _ HOK.out.tm _) ?_
 rintro e u1_3a ⟨v_a3, rfl, qa3, hm⟩
 obtain ⟨ao_a3, cap_a3, rfl⟩ := qa3.shape
 have zu1_3a := hm.size
 refine ⟨_, rfl, hm.mono (fun _ _ h => h.elim), (fun _ => rfl), ?_⟩
 intro u1_3 hr
 have zu1_3 := hr.size
 have Hx7 := hid ((qa3.widen (R' := (fun k => (New u1_2 u1_3a k))) (fun _ h => h) (Nat.le_refl _)).mod hr (by intro k h1 h2; omega))
 have hmr := Mod.after hm hr
 have Hx8 := hid (Hx5.out.mod hmr (by intro k h1 h2; omega))
 have Hx9 := hid (Hx4.out.mod hmr (by intro k h1 h2; omega))
 clear Hx5 Hx4
 clear hmr
 have Cx10 := hid (Cx6.out.go hm hr)
 clear Cx6 hm hr Z act E qa3
 refine QChain.go fun Z act E => ?_
 have ea5 : act.eval (.tmp 5) = .slice ao_a1 ((encI x.rp).length) cap_a1 := (chv (v := .slice ao_a1 ((encI x.rp).length) cap_a1) (E.d 2))
 have ea8 : act.eval (.tmp 8) = .slice ao_a2 ((nameB x.cl x.sq).length) cap_a2 := (chv (v := .slice ao_a2 ((nameB x.cl x.sq).length) cap_a2) (E.d 5))
 have ea10 : act.eval (.tmp 10) = .slice (some ⟨w.heap.size, 3, none⟩) 32 32 := (E.d 7)
 have ea13 : act.eval (.tmp 13) = .slice ao_a3 ((encN x.tm).length) cap_a3 := (chv (v := .slice ao_a3 ((encN x.tm).length) cap_a3) (E.d 10))
 refine qc_rows rfl (wanted_none rfl) rfl Try.underlying144 (by decide) (C := #[.slice ao_a1 ((encI x.rp).length) cap_a1, .slice ao_a2 ((nameB x.cl x.sq).length) cap_a2, .slice (some ⟨w.heap.size, 3, none⟩) 32 32, .slice ao_a3 ((encN x.tm).length) cap_a3]) (by simp only [List.map_toArray, List.map_cons, List.map_nil, ea5, ea8, ea10, ea13]; kernel_rfl) ?_
 intro u1_4a qrow11 hm
 have zl1_11 := qrow11.lt
 have zu1_4a := hm.size
 refine ⟨hm.mono (fun _ _ h => h.elim), (fun _ => rfl), ?_⟩
 intro u1_4 hr
 have zu1_4 := hr.size
 have Hx11 := hid (qrow11.mod hr (by intro h2; omega))
 have hmr := Mod.after hm hr
 have Hx12 := hid (Hx8.out.mod hmr (by intro k h1 h2; omega))
 have Hx13 := hid (Hx9.out.mod hmr (by intro k h1 h2; omega))
 have Hx14 := hid (Hx7.out.mod hmr (by intro k h1 h2; omega))
 clear Hx8 Hx9 Hx7
 clear hmr
 have Cx15 := hid (Cx10.out.go hm hr)
 clear Cx10 hm hr Z act E qrow11 ea5 ea8 ea10 ea13
 refine QChain.go fun Z act E => ?_
 refine qc_callF (args := #[.slice (some ⟨u1_3.heap.size, 0, none⟩) 4 4]) rfl (wanted_none rfl) rfl Try.func68 (args1 (chv (v := .slice (some ⟨u1_3.heap.size, 0, none⟩) 4 4) (E.d 11))) (Join_Q (n := 4)  Hx11.out [(.slice ao_a1 ((encI x.rp).length) cap_a1, encI x.rp), (.slice ao_a2 ((nameB x.cl x.sq).length) cap_a2, nameB x.cl x.sq), (.slice (some ⟨w.heap.size, 3, none⟩) 32 32, x.h), (.slice ao_a3 ((encN x.tm).length) cap_a3, encN x.tm)] rfl rfl (by intro p hp; simp only [List.mem_cons, List.not_mem_nil, or_false] at hp; rcases hp with rfl | rfl | rfl | rfl <;> first | exact Hx12.out.rd.1 | exact Hx13.out.rd.1 | exact RdB_arr3 (Cs.midA (HB1.out.mod Cx15.out (fun h => h)) rfl) HOK.out.h | exact Hx14.out.rd.1) (by simp) (show flat _ = encI x.rp ++ (nameB x.cl x.sq ++ (x.h ++ encN x.tm)) from by simp only [flat, List.map_cons, List.map_nil, List.flatten_cons, List.flatten_nil, List.append_nil]) (by have := HL.out; simp only [List.length_append] at this ⊢; omega)) ?_
 rintro e u1_5a ⟨v_join1, rfl, qjoin1, hm⟩
 have zu1_5a := hm.size
 refine ⟨_, rfl, hm.mono (fun _ _ h => h.elim), (fun _ => rfl), ?_⟩
 intro u1_5 hr
 have zu1_5 := hr.size
 have Hx16 := hid ((qjoin1.widen (R' := (fun k => (New u1_4 u1_5a k))) (fun _ h => h) (Nat.le_refl _)).mod hr (by intro k h1 h2; omega))
 have hmr := Mod.after hm hr
 have Hx17 := hid (Hx12.out.mod hmr (by intro k h1 h2; omega))
 have Hx18 := hid (Hx13.out.mod hmr (by intro k h1 h2; omega))
 have Hx19 := hid (Hx14.out.mod hmr (by intro k h1 h2; omega))
 have Hx20 := hid (Hx11.out.mod hmr (by intro h2; omega))
 clear Hx12 Hx13 Hx14 Hx11
 clear hmr
 have Cx21 := hid (Cx15.out.go hm hr)
 clear Cx15 hm hr Z act E qjoin1
 refine QChain.nil fun vs hl hzz hrows hne => ?_
 obtain ⟨Z, hYZ, hZb, hV⟩ := hzz
 have f2 := fvc hV hl 2
 have f5 := fvc hV hl 5
 have f10 := fvc hV hl 10
 have f11 := fvc hV hl 11
 have f12 := fvc hV hl 12
 have f13 := fvc hV hl 13
 rw [show vs = [gw vs 0, gw vs 1, gw vs 2, gw vs 3, gw vs 4, gw vs 5, gw vs 6, gw vs 7, gw vs 8, gw vs 9, gw vs 10, gw vs 11, gw vs 12, gw vs 13] from (gw_eta hl).trans rfl]
 have ha0 := HA0.out
 subst ha0
 clear HA0 hV hYZ hZb hsz0 hrows hne oe1
 simp only [putAll, Act.put, List.setIfInBounds_toArray, List.set_cons_zero, List.set_cons_succ, f2, f5, f10, f11, f12, f13]
 clear hl f2 f5 f10 f11 f12 f13
 go_wp2
 go_ret
 have hq := (Hx16.out.widen (R' := (fun k => New w u1_5 k)) (by intro k h1; omega) (Nat.le_refl _))
 (try simp only [List.append_assoc] at hq)
 exact ⟨v_join1, rfl, by simpa only [bareT, List.append_assoc] using hq, (HM0.out.trans Cx21.out (fun _ _ h => h.elim))⟩
set_option maxHeartbeats 4000000 in
theorem RefDn_Q : Makes DnR 77 dnB := by
 intro R2 cs x w hx hB2 hl
 obtain ⟨rfl, hok⟩ := hx
 have HBT := Lib.hid hB2
 have HOK := Lib.hid hok
 have HL := Lib.hid hl
 clear hB2 hl hok
 unfold dnB at HL
 go_enter Try.func77, Try.ntmps77
 go_upto_region 1 with (fail)
 obtain ⟨w1, hw1⟩ : ∃ zz, zz = (w.alloc (.cells (x.cells : List Value).toArray 34)) := ⟨_, rfl⟩
 change Code.wp _ _ _ _ (w.alloc (.cells (x.cells : List Value).toArray 34))
 rw [← hw1]
 have HB1 := hid (show Cs w1 (w.heap.size) (x.cells : List Value).toArray 34 by rw [hw1]; exact Cs.new _ _ _)
 have hm : Mod (fun _ => False) w w1 := by rw [hw1]; exact (Mod.refl _ _).alloc _
 have HM0 := hid (show Mod (fun _ => False) w w1 from hm.mono (fun _ _ h => h.elim))
 have hs1 : w1.heap.size = w.heap.size + 1 := by rw [hw1]; simp
 clear hw1 hm
 go_upto_region 1 with (fail)
 generalize ha0 : Act.mk _ _ = a0
 have oe1 : a0.eval (.tmp 1) = .pointer (some ⟨w.heap.size, 0, none⟩) := by rw [← ha0]; rfl
 have hsz0 : a0.tmps.size = 14 := by rw [← ha0]; rfl
 have HA0 := hid ha0
 clear ha0
 refine wp_region_Q0 14 hsz0 [3, 4, 5, 6, 7, 8, 9, 10, 11, 12, 13, 2] [qi (.pointer (some ⟨w.heap.size, 0, none⟩)), qi (.int .i64 x.rp), qv 0, qi (.pointer (some ⟨w.heap.size, 1, none⟩)), qi (.int .i64 x.ix), qv 1, qi (.pointer (some ⟨w.heap.size, 2, none⟩)), qi (.agg #[.int .i64 x.sb, .int .i64 x.mr]), qv 2, qv 3, qv 4, qv 4] ⟨qi_stable, qi_stable, qv_stable, qi_stable, qi_stable, qv_stable, qi_stable, qi_stable, qv_stable, qv_stable, qv_stable, qv_stable, trivial⟩ [2, 5, 8, 9, 10] ⟨?_, ?_, ?_, ?_, ?_, ?_, ?_, ?_, ?_, ?_, ?_, ?_, trivial⟩ ?_
 ·exact stq (fun E => ex_field rfl Try.underlying34 rfl (by kernel_rfl) (E.v oe1))
 ·exact stq (fun E => ex_load1 rfl Try.underlying3 rfl (E.d 0) (Cs.lit1 (HB1.out.mod E.m.old (by intro h2; omega)) rfl))
 ·exact stepq_chain rfl
 ·exact stq (fun E => ex_field rfl Try.underlying34 rfl (by kernel_rfl) (E.v oe1))
 ·exact stq (fun E => ex_load1 rfl Try.underlying3 rfl (E.d 3) (Cs.lit1 (HB1.out.mod E.m.old (by intro h2; omega)) rfl))
 ·exact stepq_chain rfl
 ·exact stq (fun E => ex_field rfl Try.underlying34 rfl (by kernel_rfl) (E.v oe1))
 ·exact stq (fun E => ex_loadA rfl Try.underlying28 rfl (off := 2) (cs := [.int .i64 x.sb, .int .i64 x.mr]) (by kernel_rfl) (E.d 6) (Cs.litA (HB1.out.mod E.m.old (by intro h2; omega)) rfl))
 ·exact stepq_chain rfl
 ·exact stepq_chain rfl
 ·exact stepq_chain rfl
 ·refine stepq_env rfl rfl rfl fun _ _ _ _ _ _ _ _ _ hd _ _ => ?_
  have h10 := hd ⟨10, .data⟩ (by simp) rfl _ rfl
  exact qe_run rfl (wanted_none rfl) (ex_assign rfl rfl) QE.refl h10
 intro u1_0 hr
 have zu1_0 := hr.size
 have Cx1 := hid (hr.new (S := (fun _ => False)))
 clear hr
 refine QChain.go fun Z act E => ?_
 refine qc_callF (args := #[.int .i64 x.rp]) rfl (wanted_none rfl) rfl Try.func70 (args1 (E.d 1)) (RefInt_Q _ HOK.out.rp _) ?_
 rintro e u1_1a ⟨v_a1, rfl, qa1, hm⟩
 obtain ⟨ao_a1, cap_a1, rfl⟩ := qa1.shape
 have zu1_1a := hm.size
 refine ⟨_, rfl, hm.mono (fun _ _ h => h.elim), (fun _ => rfl), ?_⟩
 intro u1_1 hr
 have zu1_1 := hr.size
 have Hx2 := hid ((qa1.widen (R' := (fun k => (New u1_0 u1_1a k))) (fun _ h => h) (Nat.le_refl _)).mod hr (by intro k h1 h2; omega))
 have Cx3 := hid (Cx1.out.go hm hr)
 clear Cx1 hm hr Z act E qa1
 refine QChain.go fun Z act E => ?_
 refine qc_callF (args := #[.int .i64 x.ix]) rfl (wanted_none rfl) rfl Try.func70 (args1 (E.d 4)) (RefInt_Q _ HOK.out.ix _) ?_
 rintro e u1_2a ⟨v_a2, rfl, qa2, hm⟩
 obtain ⟨ao_a2, cap_a2, rfl⟩ := qa2.shape
 have zu1_2a := hm.size
 refine ⟨_, rfl, hm.mono (fun _ _ h => h.elim), (fun _ => rfl), ?_⟩
 intro u1_2 hr
 have zu1_2 := hr.size
 have Hx4 := hid ((qa2.widen (R' := (fun k => (New u1_1 u1_2a k))) (fun _ h => h) (Nat.le_refl _)).mod hr (by intro k h1 h2; omega))
 have hmr := Mod.after hm hr
 have Hx5 := hid (Hx2.out.mod hmr (by intro k h1 h2; omega))
 clear Hx2
 clear hmr
 have Cx6 := hid (Cx3.out.go hm hr)
 clear Cx3 hm hr Z act E qa2
 refine QChain.go fun Z act E => ?_
 refine qc_callF (args := #[.agg #[.int .i64 x.sb, .int .i64 x.mr]]) rfl (wanted_none rfl) rfl Try.func74 (args1 (E.d 7)) (RefSig_Q HOK.out.sb HOK.out.mr _) ?_
 rintro e u1_3a ⟨v_a3, rfl, qa3, hm⟩
 obtain ⟨ao_a3, cap_a3, rfl⟩ := qa3.shape
 have zu1_3a := hm.size
 refine ⟨_, rfl, hm.mono (fun _ _ h => h.elim), (fun _ => rfl), ?_⟩
 intro u1_3 hr
 have zu1_3 := hr.size
 have Hx7 := hid ((qa3.widen (R' := (fun k => (New u1_2 u1_3a k))) (fun _ h => h) (Nat.le_refl _)).mod hr (by intro k h1 h2; omega))
 have hmr := Mod.after hm hr
 have Hx8 := hid (Hx5.out.mod hmr (by intro k h1 h2; omega))
 have Hx9 := hid (Hx4.out.mod hmr (by intro k h1 h2; omega))
 clear Hx5 Hx4
 clear hmr
 have Cx10 := hid (Cx6.out.go hm hr)
 clear Cx6 hm hr Z act E qa3
 refine QChain.go fun Z act E => ?_
 have ea5 : act.eval (.tmp 5) = .slice ao_a1 ((encI x.rp).length) cap_a1 := (chv (v := .slice ao_a1 ((encI x.rp).length) cap_a1) (E.d 2))
 have ea8 : act.eval (.tmp 8) = .slice ao_a2 ((encI x.ix).length) cap_a2 := (chv (v := .slice ao_a2 ((encI x.ix).length) cap_a2) (E.d 5))
 have ea11 : act.eval (.tmp 11) = .slice ao_a3 ((sigB x.sb x.mr).length) cap_a3 := (chv (v := .slice ao_a3 ((sigB x.sb x.mr).length) cap_a3) (E.d 8))
 refine qc_rows rfl (wanted_none rfl) rfl Try.underlying144 (by decide) (C := #[.slice ao_a1 ((encI x.rp).length) cap_a1, .slice ao_a2 ((encI x.ix).length) cap_a2, .slice ao_a3 ((sigB x.sb x.mr).length) cap_a3]) (by simp only [List.map_toArray, List.map_cons, List.map_nil, ea5, ea8, ea11]; kernel_rfl) ?_
 intro u1_4a qrow9 hm
 have zl1_9 := qrow9.lt
 have zu1_4a := hm.size
 refine ⟨hm.mono (fun _ _ h => h.elim), (fun _ => rfl), ?_⟩
 intro u1_4 hr
 have zu1_4 := hr.size
 have Hx11 := hid (qrow9.mod hr (by intro h2; omega))
 have hmr := Mod.after hm hr
 have Hx12 := hid (Hx8.out.mod hmr (by intro k h1 h2; omega))
 have Hx13 := hid (Hx9.out.mod hmr (by intro k h1 h2; omega))
 have Hx14 := hid (Hx7.out.mod hmr (by intro k h1 h2; omega))
 clear Hx8 Hx9 Hx7
 clear hmr
 have Cx15 := hid (Cx10.out.go hm hr)
 clear Cx10 hm hr Z act E qrow9 ea5 ea8 ea11
 refine QChain.go fun Z act E => ?_
 refine qc_callF (args := #[.slice (some ⟨u1_3.heap.size, 0, none⟩) 3 3]) rfl (wanted_none rfl) rfl Try.func68 (args1 (chv (v := .slice (some ⟨u1_3.heap.size, 0, none⟩) 3 3) (E.d 9))) (Join_Q (n := 3)  Hx11.out [(.slice ao_a1 ((encI x.rp).length) cap_a1, encI x.rp), (.slice ao_a2 ((encI x.ix).length) cap_a2, encI x.ix), (.slice ao_a3 ((sigB x.sb x.mr).length) cap_a3, sigB x.sb x.mr)] rfl rfl (by intro p hp; simp only [List.mem_cons, List.not_mem_nil, or_false] at hp; rcases hp with rfl | rfl | rfl <;> first | exact Hx12.out.rd.1 | exact Hx13.out.rd.1 | exact Hx14.out.rd.1) (by simp) (show flat _ = encI x.rp ++ (encI x.ix ++ sigB x.sb x.mr) from by simp only [flat, List.map_cons, List.map_nil, List.flatten_cons, List.flatten_nil, List.append_nil]) (by have := HL.out; simp only [List.length_append] at this ⊢; omega)) ?_
 rintro e u1_5a ⟨v_join1, rfl, qjoin1, hm⟩
 have zu1_5a := hm.size
 refine ⟨_, rfl, hm.mono (fun _ _ h => h.elim), (fun _ => rfl), ?_⟩
 intro u1_5 hr
 have zu1_5 := hr.size
 have Hx16 := hid ((qjoin1.widen (R' := (fun k => (New u1_4 u1_5a k))) (fun _ h => h) (Nat.le_refl _)).mod hr (by intro k h1 h2; omega))
 have hmr := Mod.after hm hr
 have Hx17 := hid (Hx12.out.mod hmr (by intro k h1 h2; omega))
 have Hx18 := hid (Hx13.out.mod hmr (by intro k h1 h2; omega))
 have Hx19 := hid (Hx14.out.mod hmr (by intro k h1 h2; omega))
 have Hx20 := hid (Hx11.out.mod hmr (by intro h2; omega))
 clear Hx12 Hx13 Hx14 Hx11
 clear hmr
 have Cx21 := hid (Cx15.out.go hm hr)
 clear Cx15 hm hr Z act E qjoin1
 refine QChain.nil fun vs hl hzz hrows hne => ?_
 obtain ⟨Z, hYZ, hZb, hV⟩ := hzz
 have f2 := fvc hV hl 2
 have f5 := fvc hV hl 5
 have f8 := fvc hV hl 8
 have f9 := fvc hV hl 9
 have f10 := fvc hV hl 10
 have f11 := fvc hV hl 11
 rw [show vs = [gw vs 0, gw vs 1, gw vs 2, gw vs 3, gw vs 4, gw vs 5, gw vs 6, gw vs 7, gw vs 8, gw vs 9, gw vs 10, gw vs 11] from (gw_eta hl).trans rfl]
 have ha0 := HA0.out
 subst ha0
 clear HA0 hV hYZ hZb hsz0 hrows hne oe1
 simp only [putAll, Act.put, List.setIfInBounds_toArray, List.set_cons_zero, List.set_cons_succ, f2, f5, f8, f9, f10, f11]
 clear hl f2 f5 f8 f9 f10 f11
 go_wp2
 go_ret
 have hq := (Hx16.out.widen (R' := (fun k => New w u1_5 k)) (by intro k h1; omega) (Nat.le_refl _))
 (try simp only [List.append_assoc] at hq)
 exact ⟨v_join1, rfl, by simpa only [dnB, List.append_assoc] using hq, (HM0.out.trans Cx21.out (fun _ _ h => h.elim))⟩
set_option maxHeartbeats 4000000 in
theorem RefOp_Q : Makes OpR 76 opB := by
 intro R2 cs x w hx hB2 hl
 obtain ⟨v_pl, rfl, hok, hs0⟩ := hx
 have HS0 := Lib.hid hs0
 clear hs0
 have HBT := Lib.hid hB2
 have HOK := Lib.hid hok
 have HL := Lib.hid hl
 clear hB2 hl hok
 unfold opB at HL
 go_enter Try.func76, Try.ntmps76
 go_upto_region 1 with (fail)
 obtain ⟨w1, hw1⟩ : ∃ zz, zz = (w.alloc (.cells (x.cells v_pl : List Value).toArray 87)) := ⟨_, rfl⟩
 change Code.wp _ _ _ _ (w.alloc (.cells (x.cells v_pl : List Value).toArray 87))
 rw [← hw1]
 have HB1 := hid (show Cs w1 (w.heap.size) (x.cells v_pl : List Value).toArray 87 by rw [hw1]; exact Cs.new _ _ _)
 have hm : Mod (fun _ => False) w w1 := by rw [hw1]; exact (Mod.refl _ _).alloc _
 have HM0 := hid (show Mod (fun _ => False) w w1 from hm.mono (fun _ _ h => h.elim))
 have hs1 : w1.heap.size = w.heap.size + 1 := by rw [hw1]; simp
 have Hx1 := hid (HS0.out.mod hm (fun _ _ h => h))
 clear HS0
 clear hw1 hm
 go_upto_region 1 with (fail)
 generalize ha0 : Act.mk _ _ = a0
 have oe1 : a0.eval (.tmp 1) = .pointer (some ⟨w.heap.size, 0, none⟩) := by rw [← ha0]; rfl
 have hsz0 : a0.tmps.size = 13 := by rw [← ha0]; rfl
 have HA0 := hid ha0
 clear ha0
 refine wp_region_Q0 13 hsz0 [3, 4, 5, 6, 7, 8, 9, 10, 11, 12, 2] [qi (.pointer (some ⟨w.heap.size, 0, none⟩)), qi (.int .i64 x.ix), qv 0, qi (.pointer (some ⟨w.heap.size, 1, none⟩)), qi (v_pl), qv 1, qi (.pointer (some ⟨w.heap.size, 2, none⟩)), qi (.slice (some ⟨w.heap.size, 2, none⟩) 32 32), qv 2, qv 3, qv 3] ⟨qi_stable, qi_stable, qv_stable, qi_stable, qi_stable, qv_stable, qi_stable, qi_stable, qv_stable, qv_stable, qv_stable, trivial⟩ [2, 5, 8, 9] ⟨?_, ?_, ?_, ?_, ?_, ?_, ?_, ?_, ?_, ?_, ?_, trivial⟩ ?_
 ·exact stq (fun E => ex_field rfl Try.underlying87 rfl (by kernel_rfl) (E.v oe1))
 ·exact stq (fun E => ex_load1 rfl Try.underlying3 rfl (E.d 0) (Cs.hd1 (HB1.out.mod E.m.old (by intro h2; omega)) rfl))
 ·exact stepq_chain rfl
 ·exact stq (fun E => ex_field rfl Try.underlying87 rfl (by kernel_rfl) (E.v oe1))
 ·exact stq (fun E => ex_load1 rfl Try.underlying38 rfl (E.d 3) (Cs.hd1 (HB1.out.mod E.m.old (by intro h2; omega)) rfl))
 ·exact stepq_chain rfl
 ·exact stq (fun E => ex_field rfl Try.underlying87 rfl (by kernel_rfl) (E.v oe1))
 ·exact stq (fun E => ex_sliceArr rfl Try.underlying25 (by kernel_rfl) (E.d 6) (by decide))
 ·exact stepq_chain rfl
 ·exact stepq_chain rfl
 ·refine stepq_env rfl rfl rfl fun _ _ _ _ _ _ _ _ _ hd _ _ => ?_
  have h9 := hd ⟨9, .data⟩ (by simp) rfl _ rfl
  exact qe_run rfl (wanted_none rfl) (ex_assign rfl rfl) QE.refl h9
 intro u1_0 hr
 have zu1_0 := hr.size
 have Cx2 := hid (hr.new (S := (fun _ => False)))
 clear hr
 refine QChain.go fun Z act E => ?_
 refine qc_callF (args := #[.int .i64 x.ix]) rfl (wanted_none rfl) rfl Try.func70 (args1 (E.d 1)) (RefInt_Q _ HOK.out.1 _) ?_
 rintro e u1_1a ⟨v_a1, rfl, qa1, hm⟩
 obtain ⟨ao_a1, cap_a1, rfl⟩ := qa1.shape
 have zu1_1a := hm.size
 refine ⟨_, rfl, hm.mono (fun _ _ h => h.elim), (fun _ => rfl), ?_⟩
 intro u1_1 hr
 have zu1_1 := hr.size
 have Hx3 := hid ((qa1.widen (R' := (fun k => (New u1_0 u1_1a k))) (fun _ h => h) (Nat.le_refl _)).mod hr (by intro k h1 h2; omega))
 have Cx4 := hid (Cx2.out.go hm hr)
 clear Cx2 hm hr Z act E qa1
 refine QChain.go fun Z act E => ?_
 refine qc_callF (args := #[v_pl]) rfl (wanted_none rfl) rfl Try.func102 (args1 (E.d 4)) (RefRow_Q (Hx1.out.mod Cx4.out (fun _ _ h => h)) (by have := HL.out; simp only [List.length_append] at this ⊢; omega)) ?_
 rintro e u1_2a ⟨v_a2, rfl, qa2, hm⟩
 obtain ⟨ao_a2, cap_a2, rfl⟩ := qa2.shape
 have zu1_2a := hm.size
 refine ⟨_, rfl, hm.mono (fun _ _ h => h.elim), (fun _ => rfl), ?_⟩
 intro u1_2 hr
 have zu1_2 := hr.size
 have Hx5 := hid ((qa2.widen (R' := (fun k => (New u1_1 u1_2a k))) (fun _ h => h) (Nat.le_refl _)).mod hr (by intro k h1 h2; omega))
 have hmr := Mod.after hm hr
 have Hx6 := hid (Hx3.out.mod hmr (by intro k h1 h2; omega))
 clear Hx3
 clear hmr
 have Cx7 := hid (Cx4.out.go hm hr)
 clear Cx4 hm hr Z act E qa2
 refine QChain.go fun Z act E => ?_
 have ea5 : act.eval (.tmp 5) = .slice ao_a1 ((encI x.ix).length) cap_a1 := (chv (v := .slice ao_a1 ((encI x.ix).length) cap_a1) (E.d 2))
 have ea8 : act.eval (.tmp 8) = .slice ao_a2 (((encN x.pl.length ++ x.pl)).length) cap_a2 := (chv (v := .slice ao_a2 (((encN x.pl.length ++ x.pl)).length) cap_a2) (E.d 5))
 have ea10 : act.eval (.tmp 10) = .slice (some ⟨w.heap.size, 2, none⟩) 32 32 := (E.d 7)
 refine qc_rows rfl (wanted_none rfl) rfl Try.underlying144 (by decide) (C := #[.slice ao_a1 ((encI x.ix).length) cap_a1, .slice ao_a2 (((encN x.pl.length ++ x.pl)).length) cap_a2, .slice (some ⟨w.heap.size, 2, none⟩) 32 32]) (by simp only [List.map_toArray, List.map_cons, List.map_nil, ea5, ea8, ea10]; kernel_rfl) ?_
 intro u1_3a qrow8 hm
 have zl1_8 := qrow8.lt
 have zu1_3a := hm.size
 refine ⟨hm.mono (fun _ _ h => h.elim), (fun _ => rfl), ?_⟩
 intro u1_3 hr
 have zu1_3 := hr.size
 have Hx8 := hid (qrow8.mod hr (by intro h2; omega))
 have hmr := Mod.after hm hr
 have Hx9 := hid (Hx6.out.mod hmr (by intro k h1 h2; omega))
 have Hx10 := hid (Hx5.out.mod hmr (by intro k h1 h2; omega))
 clear Hx6 Hx5
 clear hmr
 have Cx11 := hid (Cx7.out.go hm hr)
 clear Cx7 hm hr Z act E qrow8 ea5 ea8 ea10
 refine QChain.go fun Z act E => ?_
 refine qc_callF (args := #[.slice (some ⟨u1_2.heap.size, 0, none⟩) 3 3]) rfl (wanted_none rfl) rfl Try.func68 (args1 (chv (v := .slice (some ⟨u1_2.heap.size, 0, none⟩) 3 3) (E.d 8))) (Join_Q (n := 3)  Hx8.out [(.slice ao_a1 ((encI x.ix).length) cap_a1, encI x.ix), (.slice ao_a2 (((encN x.pl.length ++ x.pl)).length) cap_a2, (encN x.pl.length ++ x.pl)), (.slice (some ⟨w.heap.size, 2, none⟩) 32 32, x.nc)] rfl rfl (by intro p hp; simp only [List.mem_cons, List.not_mem_nil, or_false] at hp; rcases hp with rfl | rfl | rfl <;> first | exact Hx9.out.rd.1 | exact Hx10.out.rd.1 | exact RdB_arr3 (Cs.tlA (HB1.out.mod Cx11.out (fun h => h)) rfl) HOK.out.2) (by simp) (show flat _ = encI x.ix ++ (((encN x.pl.length ++ x.pl)) ++ x.nc) from by simp only [flat, List.map_cons, List.map_nil, List.flatten_cons, List.flatten_nil, List.append_nil]) (by have := HL.out; simp only [List.length_append] at this ⊢; omega)) ?_
 rintro e u1_4a ⟨v_join1, rfl, qjoin1, hm⟩
 have zu1_4a := hm.size
 refine ⟨_, rfl, hm.mono (fun _ _ h => h.elim), (fun _ => rfl), ?_⟩
 intro u1_4 hr
 have zu1_4 := hr.size
 have Hx12 := hid ((qjoin1.widen (R' := (fun k => (New u1_3 u1_4a k))) (fun _ h => h) (Nat.le_refl _)).mod hr (by intro k h1 h2; omega))
 have hmr := Mod.after hm hr
 have Hx13 := hid (Hx9.out.mod hmr (by intro k h1 h2; omega))
 have Hx14 := hid (Hx10.out.mod hmr (by intro k h1 h2; omega))
 have Hx15 := hid (Hx8.out.mod hmr (by intro h2; omega))
 clear Hx9 Hx10 Hx8
 clear hmr
 have Cx16 := hid (Cx11.out.go hm hr)
 clear Cx11 hm hr Z act E qjoin1
 refine QChain.nil fun vs hl hzz hrows hne => ?_
 obtain ⟨Z, hYZ, hZb, hV⟩ := hzz
 have f2 := fvc hV hl 2
 have f5 := fvc hV hl 5
 have f8 := fvc hV hl 8
 have f9 := fvc hV hl 9
 have f10 := fvc hV hl 10
 rw [show vs = [gw vs 0, gw vs 1, gw vs 2, gw vs 3, gw vs 4, gw vs 5, gw vs 6, gw vs 7, gw vs 8, gw vs 9, gw vs 10] from (gw_eta hl).trans rfl]
 have ha0 := HA0.out
 subst ha0
 clear HA0 hV hYZ hZb hsz0 hrows hne oe1
 simp only [putAll, Act.put, List.setIfInBounds_toArray, List.set_cons_zero, List.set_cons_succ, f2, f5, f8, f9, f10]
 clear hl f2 f5 f8 f9 f10
 go_wp2
 go_ret
 have hq := (Hx12.out.widen (R' := (fun k => New w u1_4 k)) (by intro k h1; omega) (Nat.le_refl _))
 (try simp only [List.append_assoc] at hq)
 exact ⟨v_join1, rfl, by simpa only [opB, List.append_assoc] using hq, (HM0.out.trans Cx16.out (fun _ _ h => h.elim))⟩
set_option maxHeartbeats 4000000 in
theorem RefSt_Q : Makes StR 71 stB := by
 intro R2 cs x w hx hB2 hl
 obtain ⟨rfl, hok⟩ := hx
 have HBT := Lib.hid hB2
 have HOK := Lib.hid hok
 have HL := Lib.hid hl
 clear hB2 hl hok
 unfold stB at HL
 go_enter Try.func71, Try.ntmps71
 go_upto_region 1 with (fail)
 obtain ⟨w1, hw1⟩ : ∃ zz, zz = (w.alloc (.cells (x.cells : List Value).toArray 30)) := ⟨_, rfl⟩
 change Code.wp _ _ _ _ (w.alloc (.cells (x.cells : List Value).toArray 30))
 rw [← hw1]
 have HB1 := hid (show Cs w1 (w.heap.size) (x.cells : List Value).toArray 30 by rw [hw1]; exact Cs.new _ _ _)
 have hm : Mod (fun _ => False) w w1 := by rw [hw1]; exact (Mod.refl _ _).alloc _
 have HM0 := hid (show Mod (fun _ => False) w w1 from hm.mono (fun _ _ h => h.elim))
 have hs1 : w1.heap.size = w.heap.size + 1 := by rw [hw1]; simp
 clear hw1 hm
 go_upto_region 1 with (fail)
 generalize ha0 : Act.mk _ _ = a0
 have oe1 : a0.eval (.tmp 1) = .pointer (some ⟨w.heap.size, 0, none⟩) := by rw [← ha0]; rfl
 have hsz0 : a0.tmps.size = 10 := by rw [← ha0]; rfl
 have HA0 := hid ha0
 clear ha0
 refine wp_region_Q0 10 hsz0 [3, 4, 5, 6, 7, 8, 9, 2] [qi (.agg (x.cells).toArray), qv 0, qi (.pointer (some ⟨w.heap.size, 36, none⟩)), qi (.agg #[.int .i64 x.sb, .int .i64 x.mr]), qv 1, qv 2, qv 3, qv 3] ⟨qi_stable, qv_stable, qi_stable, qi_stable, qv_stable, qv_stable, qv_stable, qv_stable, trivial⟩ [1, 4, 5, 6] ⟨?_, ?_, ?_, ?_, ?_, ?_, ?_, ?_, trivial⟩ ?_
 ·exact stq (fun E => ex_loadA rfl Try.underlying30 rfl (off := 0) (cs := x.cells) (by rw [St.len HOK.out]; kernel_rfl) (E.v oe1) (Cs.whole (HB1.out.mod E.m.old (by intro h2; omega))))
 ·exact stepq_chain rfl
 ·exact stq (fun E => ex_field rfl Try.underlying30 rfl (by kernel_rfl) (E.v oe1))
 ·exact stq (fun E => ex_loadA rfl Try.underlying28 rfl (off := 36) (cs := [.int .i64 x.sb, .int .i64 x.mr]) (by kernel_rfl) (E.d 2) (Cs.postA (m := 32) (k := 1) (HB1.out.mod E.m.old (by intro h2; omega)) (by rw [List.length_map]; exact HOK.out.h.1) rfl rfl))
 ·exact stepq_chain rfl
 ·exact stepq_chain rfl
 ·exact stepq_chain rfl
 ·refine stepq_env rfl rfl rfl fun _ _ _ _ _ _ _ _ _ hd _ _ => ?_
  have h6 := hd ⟨6, .data⟩ (by simp) rfl _ rfl
  exact qe_run rfl (wanted_none rfl) (ex_assign rfl rfl) QE.refl h6
 intro u1_0 hr
 have zu1_0 := hr.size
 have Cx1 := hid (hr.new (S := (fun _ => False)))
 clear hr
 refine QChain.go fun Z act E => ?_
 refine qc_callF (args := #[.agg (x.cells).toArray]) rfl (wanted_none rfl) rfl Try.func103 (args1 (E.d 0)) (RefBare_Q (fun _ => False) _ x _ ⟨rfl, HOK.out⟩ (fun _ h => h.elim) (by have := HL.out; unfold bareT; simp only [List.length_append] at this ⊢; omega)) ?_
 rintro e u1_1a ⟨v_a1, rfl, qa1, hm⟩
 obtain ⟨ao_a1, cap_a1, rfl⟩ := qa1.shape
 have zu1_1a := hm.size
 refine ⟨_, rfl, hm.mono (fun _ _ h => h.elim), (fun _ => rfl), ?_⟩
 intro u1_1 hr
 have zu1_1 := hr.size
 have Hx2 := hid ((qa1.widen (R' := (fun k => (New u1_0 u1_1a k))) (fun _ h => h) (Nat.le_refl _)).mod hr (by intro k h1 h2; omega))
 have Cx3 := hid (Cx1.out.go hm hr)
 clear Cx1 hm hr Z act E qa1
 refine QChain.go fun Z act E => ?_
 refine qc_callF (args := #[.agg #[.int .i64 x.sb, .int .i64 x.mr]]) rfl (wanted_none rfl) rfl Try.func74 (args1 (E.d 3)) (RefSig_Q HOK.out.sb HOK.out.mr _) ?_
 rintro e u1_2a ⟨v_a2, rfl, qa2, hm⟩
 obtain ⟨ao_a2, cap_a2, rfl⟩ := qa2.shape
 have zu1_2a := hm.size
 refine ⟨_, rfl, hm.mono (fun _ _ h => h.elim), (fun _ => rfl), ?_⟩
 intro u1_2 hr
 have zu1_2 := hr.size
 have Hx4 := hid ((qa2.widen (R' := (fun k => (New u1_1 u1_2a k))) (fun _ h => h) (Nat.le_refl _)).mod hr (by intro k h1 h2; omega))
 have hmr := Mod.after hm hr
 have Hx5 := hid (Hx2.out.mod hmr (by intro k h1 h2; omega))
 clear Hx2
 clear hmr
 have Cx6 := hid (Cx3.out.go hm hr)
 clear Cx3 hm hr Z act E qa2
 refine QChain.go fun Z act E => ?_
 have ea4 : act.eval (.tmp 4) = .slice ao_a1 ((bareT x).length) cap_a1 := (chv (v := .slice ao_a1 ((bareT x).length) cap_a1) (E.d 1))
 have ea7 : act.eval (.tmp 7) = .slice ao_a2 ((sigB x.sb x.mr).length) cap_a2 := (chv (v := .slice ao_a2 ((sigB x.sb x.mr).length) cap_a2) (E.d 4))
 refine qc_rows rfl (wanted_none rfl) rfl Try.underlying144 (by decide) (C := #[.slice ao_a1 ((bareT x).length) cap_a1, .slice ao_a2 ((sigB x.sb x.mr).length) cap_a2]) (by simp only [List.map_toArray, List.map_cons, List.map_nil, ea4, ea7]; kernel_rfl) ?_
 intro u1_3a qrow5 hm
 have zl1_5 := qrow5.lt
 have zu1_3a := hm.size
 refine ⟨hm.mono (fun _ _ h => h.elim), (fun _ => rfl), ?_⟩
 intro u1_3 hr
 have zu1_3 := hr.size
 have Hx7 := hid (qrow5.mod hr (by intro h2; omega))
 have hmr := Mod.after hm hr
 have Hx8 := hid (Hx5.out.mod hmr (by intro k h1 h2; omega))
 have Hx9 := hid (Hx4.out.mod hmr (by intro k h1 h2; omega))
 clear Hx5 Hx4
 clear hmr
 have Cx10 := hid (Cx6.out.go hm hr)
 clear Cx6 hm hr Z act E qrow5 ea4 ea7
 refine QChain.go fun Z act E => ?_
 refine qc_callF (args := #[.slice (some ⟨u1_2.heap.size, 0, none⟩) 2 2]) rfl (wanted_none rfl) rfl Try.func68 (args1 (chv (v := .slice (some ⟨u1_2.heap.size, 0, none⟩) 2 2) (E.d 5))) (Join_Q (n := 2)  Hx7.out [(.slice ao_a1 ((bareT x).length) cap_a1, bareT x), (.slice ao_a2 ((sigB x.sb x.mr).length) cap_a2, sigB x.sb x.mr)] rfl rfl (by intro p hp; simp only [List.mem_cons, List.not_mem_nil, or_false] at hp; rcases hp with rfl | rfl <;> first | exact Hx8.out.rd.1 | exact Hx9.out.rd.1) (by simp) (show flat _ = bareT x ++ sigB x.sb x.mr from by simp only [flat, List.map_cons, List.map_nil, List.flatten_cons, List.flatten_nil, List.append_nil]) (by have := HL.out; simp only [bareT, List.length_append] at this ⊢; omega)) ?_
 rintro e u1_4a ⟨v_join1, rfl, qjoin1, hm⟩
 have zu1_4a := hm.size
 refine ⟨_, rfl, hm.mono (fun _ _ h => h.elim), (fun _ => rfl), ?_⟩
 intro u1_4 hr
 have zu1_4 := hr.size
 have Hx11 := hid ((qjoin1.widen (R' := (fun k => (New u1_3 u1_4a k))) (fun _ h => h) (Nat.le_refl _)).mod hr (by intro k h1 h2; omega))
 have hmr := Mod.after hm hr
 have Hx12 := hid (Hx8.out.mod hmr (by intro k h1 h2; omega))
 have Hx13 := hid (Hx9.out.mod hmr (by intro k h1 h2; omega))
 have Hx14 := hid (Hx7.out.mod hmr (by intro h2; omega))
 clear Hx8 Hx9 Hx7
 clear hmr
 have Cx15 := hid (Cx10.out.go hm hr)
 clear Cx10 hm hr Z act E qjoin1
 refine QChain.nil fun vs hl hzz hrows hne => ?_
 obtain ⟨Z, hYZ, hZb, hV⟩ := hzz
 have f1 := fvc hV hl 1
 have f4 := fvc hV hl 4
 have f5 := fvc hV hl 5
 have f6 := fvc hV hl 6
 have f7 := fvc hV hl 7
 rw [show vs = [gw vs 0, gw vs 1, gw vs 2, gw vs 3, gw vs 4, gw vs 5, gw vs 6, gw vs 7] from (gw_eta hl).trans rfl]
 have ha0 := HA0.out
 subst ha0
 clear HA0 hV hYZ hZb hsz0 hrows hne oe1
 simp only [putAll, Act.put, List.setIfInBounds_toArray, List.set_cons_zero, List.set_cons_succ, f1, f4, f5, f6, f7]
 clear hl f1 f4 f5 f6 f7
 go_wp2
 go_ret
 have hq := (Hx11.out.widen (R' := (fun k => New w u1_4 k)) (by intro k h1; omega) (Nat.le_refl _))
 (try simp only [List.append_assoc] at hq)
 exact ⟨v_join1, rfl, by simpa only [stB, bareT, List.append_assoc] using hq, (HM0.out.trans Cx15.out (fun _ _ h => h.elim))⟩
end Go.Proofs.Ytknpapcfhnhheaa

/- The reference's bytes of certificates, promises, batches; its texts. -/
namespace Go.Proofs.Ytknpapcfhnhheaa
open Go Go.RowKit Go.Gv

set_option maxHeartbeats 4000000 in
theorem RefCe_Q : Makes CeR 20 ceB := by
 intro R2 cs x w hx hB2 hl
 obtain ⟨v_l, rfl, hok, hs0⟩ := hx
 obtain ⟨ao_sl_l, cap_sl_l, rfl⟩ := hs0.shape
 have hb0 : x.l.length ≤ maxLen := hs0.bd
 rw [maxLen_val] at hb0
 have HI0 := hid (show I64 (x.l.length : Int) by unfold I64; omega)
 have HS0 := Lib.hid hs0
 clear hs0
 have HBT := Lib.hid hB2
 have HOK := Lib.hid hok
 have HL := Lib.hid hl
 clear hB2 hl hok
 unfold ceB at HL
 go_enter Try.func20, Try.ntmps20
 go_upto_region 1 with (fail)
 obtain ⟨w1, hw1⟩ : ∃ zz, zz = (w.alloc (.cells (x.cells (.slice ao_sl_l x.l.length cap_sl_l) : List Value).toArray 52)) := ⟨_, rfl⟩
 change Code.wp _ _ _ _ (w.alloc (.cells (x.cells (.slice ao_sl_l x.l.length cap_sl_l) : List Value).toArray 52))
 rw [← hw1]
 have HB1 := hid (show Cs w1 (w.heap.size) (x.cells (.slice ao_sl_l x.l.length cap_sl_l) : List Value).toArray 52 by rw [hw1]; exact Cs.new _ _ _)
 have hm : Mod (fun _ => False) w w1 := by rw [hw1]; exact (Mod.refl _ _).alloc _
 have HM0 := hid (show Mod (fun _ => False) w w1 from hm.mono (fun _ _ h => h.elim))
 have hs1 : w1.heap.size = w.heap.size + 1 := by rw [hw1]; simp
 have Hx1 := hid (HS0.out.mod hm (fun _ _ h => h))
 clear HS0
 clear hw1 hm
 go_upto_region 1 with (fail)
 generalize ha0 : Act.mk _ _ = a0
 have oe1 : a0.eval (.tmp 1) = .pointer (some ⟨w.heap.size, 0, none⟩) := by rw [← ha0]; rfl
 have hsz0 : a0.tmps.size = 30 := by rw [← ha0]; rfl
 have HA0 := hid ha0
 clear ha0
 refine wp_region_Q0 30 hsz0 [5, 6, 7, 8, 9, 10, 11, 12, 13, 3] [qi (.pointer (some ⟨w.heap.size, 0, none⟩)), qi (x.c.val), qv 0, qi (.pointer (some ⟨w.heap.size, 37, none⟩)), qi (.slice ao_sl_l x.l.length cap_sl_l), qi (.int .i64 x.l.length), qv 1, qv 2, qv 3, qv 3] ⟨qi_stable, qi_stable, qv_stable, qi_stable, qi_stable, qi_stable, qv_stable, qv_stable, qv_stable, qv_stable, trivial⟩ [2, 6, 7, 8] ⟨?_, ?_, ?_, ?_, ?_, ?_, ?_, ?_, ?_, ?_, trivial⟩ ?_
 ·exact stq (fun E => ex_field rfl Try.underlying52 rfl (by kernel_rfl) (E.v oe1))
 ·exact stq (fun E => ex_loadA rfl Try.underlying49 rfl (off := 0) (cs := x.c.cells) (by rw [Cm.len HOK.out.2.1]; exact size_commit) (E.d 0) (Cs.midA (pre := []) (mid := x.c.cells) (post := [.slice ao_sl_l x.l.length cap_sl_l]) (HB1.out.mod E.m.old (by intro h2; omega)) rfl))
 ·exact stepq_chain rfl
 ·exact stq (fun E => ex_field rfl Try.underlying52 rfl (by kernel_rfl) (E.v oe1))
 ·exact stq (fun E => ex_load1 rfl Try.underlying50 rfl (E.d 3) (Cs.post1 (pre := []) (mid := x.c.cells) (post := [.slice ao_sl_l x.l.length cap_sl_l]) (m := 37) (k := 0) (HB1.out.mod E.m.old (by intro h2; omega)) (Cm.len HOK.out.2.1) rfl rfl))
 ·exact stq (fun E => ex_lenS rfl (E.d 4) Try.underlying50)
 ·exact stepq_chain rfl
 ·exact stepq_chain rfl
 ·exact stepq_chain rfl
 ·refine stepq_env rfl rfl rfl fun _ _ _ _ _ _ _ _ _ hd _ _ => ?_
  have h8 := hd ⟨8, .data⟩ (by simp) rfl _ rfl
  exact qe_run rfl (wanted_none rfl) (ex_assign rfl rfl) QE.refl h8
 intro u1_0 hr
 have zu1_0 := hr.size
 have Cx2 := hid (hr.new (S := (fun _ => False)))
 clear hr
 refine QChain.go fun Z act E => ?_
 refine qc_callF (args := #[x.c.val]) rfl (wanted_none rfl) rfl Try.func69 (args1 (E.d 1)) (RefCm_Q (fun _ => False) _ x.c _ ⟨rfl, HOK.out⟩ (fun _ h => h.elim) (by have := HL.out; simp only [List.length_append] at this ⊢; omega)) ?_
 rintro e u1_1a ⟨v_a1, rfl, qa1, hm⟩
 obtain ⟨ao_a1, cap_a1, rfl⟩ := qa1.shape
 have zu1_1a := hm.size
 refine ⟨_, rfl, hm.mono (fun _ _ h => h.elim), (fun _ => rfl), ?_⟩
 intro u1_1 hr
 have zu1_1 := hr.size
 have Hx3 := hid ((qa1.widen (R' := (fun k => (New u1_0 u1_1a k))) (fun _ h => h) (Nat.le_refl _)).mod hr (by intro k h1 h2; omega))
 have Cx4 := hid (Cx2.out.go hm hr)
 clear Cx2 hm hr Z act E qa1
 refine QChain.go fun Z act E => ?_
 refine qc_callF (args := #[.int .i64 x.l.length]) rfl (wanted_none rfl) rfl Try.func70 (args1 (E.d 5)) (RefInt_Q _ HI0.out _) ?_
 rintro e u1_2a ⟨v_a2, rfl, qa2, hm⟩
 obtain ⟨ao_a2, cap_a2, rfl⟩ := qa2.shape
 have zu1_2a := hm.size
 refine ⟨_, rfl, hm.mono (fun _ _ h => h.elim), (fun _ => rfl), ?_⟩
 intro u1_2 hr
 have zu1_2 := hr.size
 have Hx5 := hid ((qa2.widen (R' := (fun k => (New u1_1 u1_2a k))) (fun _ h => h) (Nat.le_refl _)).mod hr (by intro k h1 h2; omega))
 have hmr := Mod.after hm hr
 have Hx6 := hid (Hx3.out.mod hmr (by intro k h1 h2; omega))
 clear Hx3
 clear hmr
 have Cx7 := hid (Cx4.out.go hm hr)
 clear Cx4 hm hr Z act E qa2
 refine QChain.go fun Z act E => ?_
 have ea7 : act.eval (.tmp 7) = .slice ao_a1 ((cmB x.c).length) cap_a1 := (chv (v := .slice ao_a1 ((cmB x.c).length) cap_a1) (E.d 2))
 have ea11 : act.eval (.tmp 11) = .slice ao_a2 ((encI x.l.length).length) cap_a2 := (chv (v := .slice ao_a2 ((encI x.l.length).length) cap_a2) (E.d 6))
 refine qc_rows rfl (wanted_none rfl) rfl Try.underlying144 (by decide) (C := #[.slice ao_a1 ((cmB x.c).length) cap_a1, .slice ao_a2 ((encI x.l.length).length) cap_a2]) (by simp only [List.map_toArray, List.map_cons, List.map_nil, ea7, ea11]; kernel_rfl) ?_
 intro u1_3a qrow7 hm
 have zl1_7 := qrow7.lt
 have zu1_3a := hm.size
 refine ⟨hm.mono (fun _ _ h => h.elim), (fun _ => rfl), ?_⟩
 intro u1_3 hr
 have zu1_3 := hr.size
 have Hx8 := hid (qrow7.mod hr (by intro h2; omega))
 have hmr := Mod.after hm hr
 have Hx9 := hid (Hx6.out.mod hmr (by intro k h1 h2; omega))
 have Hx10 := hid (Hx5.out.mod hmr (by intro k h1 h2; omega))
 clear Hx6 Hx5
 clear hmr
 have Cx11 := hid (Cx7.out.go hm hr)
 clear Cx7 hm hr Z act E qrow7 ea7 ea11
 refine QChain.go fun Z act E => ?_
 refine qc_callF (args := #[.slice (some ⟨u1_2.heap.size, 0, none⟩) 2 2]) rfl (wanted_none rfl) rfl Try.func68 (args1 (chv (v := .slice (some ⟨u1_2.heap.size, 0, none⟩) 2 2) (E.d 7))) (Join_Q (n := 2)  Hx8.out [(.slice ao_a1 ((cmB x.c).length) cap_a1, cmB x.c), (.slice ao_a2 ((encI x.l.length).length) cap_a2, encI x.l.length)] rfl rfl (by intro p hp; simp only [List.mem_cons, List.not_mem_nil, or_false] at hp; rcases hp with rfl | rfl <;> first | exact Hx9.out.rd.1 | exact Hx10.out.rd.1) (by simp) (show flat _ = cmB x.c ++ encI x.l.length from by simp only [flat, List.map_cons, List.map_nil, List.flatten_cons, List.flatten_nil, List.append_nil]) (by have := HL.out; simp only [listB, List.length_append] at this ⊢; omega)) ?_
 rintro e u1_4a ⟨v_join1, rfl, qjoin1, hm⟩
 have zu1_4a := hm.size
 refine ⟨_, rfl, hm.mono (fun _ _ h => h.elim), (fun _ => rfl), ?_⟩
 intro u1_4 hr
 have zu1_4 := hr.size
 have Hx12 := hid ((qjoin1.widen (R' := (fun k => (New u1_3 u1_4a k))) (fun _ h => h) (Nat.le_refl _)).mod hr (by intro k h1 h2; omega))
 have hmr := Mod.after hm hr
 have Hx13 := hid (Hx9.out.mod hmr (by intro k h1 h2; omega))
 have Hx14 := hid (Hx10.out.mod hmr (by intro k h1 h2; omega))
 have Hx15 := hid (Hx8.out.mod hmr (by intro h2; omega))
 clear Hx9 Hx10 Hx8
 clear hmr
 have Cx16 := hid (Cx11.out.go hm hr)
 clear Cx11 hm hr Z act E qjoin1
 refine QChain.nil fun vs hl hzz hrows hne => ?_
 obtain ⟨Z, hYZ, hZb, hV⟩ := hzz
 have f2 := fvc hV hl 2
 have f5 := fvi hV hl 5
 have f6 := fvc hV hl 6
 have f7 := fvc hV hl 7
 have f8 := fvc hV hl 8
 have f9 := fvc hV hl 9
 rw [show vs = [gw vs 0, gw vs 1, gw vs 2, gw vs 3, gw vs 4, gw vs 5, gw vs 6, gw vs 7, gw vs 8, gw vs 9] from (gw_eta hl).trans rfl]
 have ha0 := HA0.out
 subst ha0
 clear HA0 hV hYZ hZb hsz0 hrows hne oe1
 simp only [putAll, Act.put, List.setIfInBounds_toArray, List.set_cons_zero, List.set_cons_succ, f2, f5, f6, f7, f8, f9]
 clear hl f2 f5 f6 f7 f8 f9
 go_upto_region 2 with (fail)
 refine wp_region_U 30 [14, 15, 16, 17] [0, 1, 2, 3] (fun a0 HA0 => ?_)
 have oe1 := ev HA0 1 rfl
 refine QSeq.pure rfl (.pointer (some ⟨w.heap.size, 37, none⟩)) (fun E => ex_field rfl Try.underlying52 rfl (by kernel_rfl) (E.v oe1)) ?_
 refine QSeq.pure rfl _ (fun E => ex_load1 rfl Try.underlying50 rfl (E.d 0 0) (Cs.post1 (pre := []) (mid := x.c.cells) (post := [.slice ao_sl_l x.l.length cap_sl_l]) (m := 37) (k := 0) (HB1.out.mod Cx16.out (fun h => h)) (Cm.len HOK.out.2.1) rfl rfl)) ?_
 refine QSeq.pure rfl (.int .i64 x.l.length) (fun E => ex_lenS rfl (E.d 1 0) Try.underlying50) ?_
 refine QSeq.pure rfl (.int .i64 0) (fun E => ex_move rfl rfl) ?_
 refine QSeq.nil (t' := [_, _, _, _]) rfl ?_
 obtain rfl := HA0.out
 clear HA0 oe1
 simp only [pz, Act.put, List.setIfInBounds_toArray, List.set_cons_zero, List.set_cons_succ]
 go_wp2
 go_loopw [3, 17] (fun ta ti wr => ∃ k : Nat, ti = .int .i64 (k : Int) ∧ k ≤ x.l.length ∧ u1_4.heap.size ≤ wr.heap.size ∧ OwR (fun b => w1.heap.size ≤ b ∧ b < wr.heap.size) 900000 wr ta ((cmB x.c ++ encI x.l.length) ++ ((x.l.take k).map stB).flatten) ∧ RdS StR R2 wr (.slice ao_sl_l x.l.length cap_sl_l) x.l ∧ Cs wr (w.heap.size) (x.cells (.slice ao_sl_l x.l.length cap_sl_l) : List Value).toArray 52 ∧ Mod (fun _ => False) w wr) (fun _ ti _ => x.l.length - (intOf ti).toNat)
 case atStart => exact ⟨0, rfl, Nat.zero_le _, Nat.le_refl _, by have hq := (Hx12.out.widen (R' := (fun b => w1.heap.size ≤ b ∧ b < u1_4.heap.size)) (by intro k h1; omega) (Nat.le_refl _)); simpa only [List.take_zero, List.map_nil, List.flatten_nil, List.append_nil, List.append_assoc] using hq, (Hx1.out.mod Cx16.out (fun _ _ h => h)), (HB1.out.mod Cx16.out (fun h => h)), (HM0.out.trans Cx16.out (fun _ _ h => h.elim))⟩
 case round =>
  obtain ⟨k1, rfl, hk, hz, ha, hk_0, hk_1, hm⟩ := hrel
  obtain ⟨wl1, rfl⟩ : ∃ x, x = wr := ⟨_, rfl⟩
  obtain ⟨aol1, capl1, rfl⟩ := ha.shape
  have HAL1 := Lib.hid ha
  have HKL1_0 := Lib.hid hk_0
  have HKL1_1 := Lib.hid hk_1
  have HML1 := Lib.hid hm
  clear ha hm hk_0 hk_1 Hx1 HB1 HM0 Hx13 Hx14 Hx15 Hx12
  by_cases hlt1 : k1 < x.l.length
  ·skip
   have hat := HKL1_0.out.at hlt1
   obtain ⟨g1, o1, cs1, eao, hrg, hrd, hcs⟩ := hat
   subst eao
   have hcl : cs1.length = 38 := StR.len hrd
   have HCL1 := Lib.hid hcl
   have HAT1 := hid (show CellsAt R2 wl1 g1 (o1 + k1 * 38) cs1 from ⟨hrg, hcs⟩)
   have HRD1 := Lib.hid hrd
   clear hcl hcs hrd hrg
   have HE1 : Hid (((cmB x.c ++ encI x.l.length) ++ ((x.l.take k1).map stB).flatten) ++ stB x.l[k1] = (cmB x.c ++ encI x.l.length) ++ ((x.l.take (k1 + 1)).map stB).flatten) := hid (by rw [List.take_succ_eq_append_getElem hlt1, List.map_append, List.flatten_append]; simp [List.append_assoc])
   have HB1' := hid (show (((cmB x.c ++ encI x.l.length) ++ ((x.l.take k1).map stB).flatten) ++ stB x.l[k1]).length ≤ 900000 by rw [HE1.out]; exact acc_len _ _ _ _ (by have := HL.out; simp only [listB, List.length_append] at this ⊢; omega))
   have HBE1 := hid (show (stB x.l[k1]).length ≤ 900000 by have := HB1'.out; simp only [List.length_append] at this ⊢; omega)
   go_upto_region 4 with (fail)
   refine wp_region_U 30 [19, 4] [0, 1] (fun a0 HA0 => ?_)
   have oe17 := ev HA0 17 rfl
   refine QSeq.pure rfl _ (fun E => ex_move rfl (E.v oe17)) ?_
   refine QSeq.pure rfl _ (fun E => ex_assign rfl (E.d 0 0)) ?_
   refine QSeq.nil (t' := [_, _]) rfl ?_
   obtain rfl := HA0.out
   clear HA0 oe17
   simp only [pz, Act.put, List.setIfInBounds_toArray, List.set_cons_zero, List.set_cons_succ]
   go_upto_region 5 with (fail)
   refine wp_region_U 30 [20, 21, 22, 23, 24, 25, 26, 27, 3] [0, 1, 2, 3, 4, 5, 6, 7, 8] (fun a0 HA0 => ?_)
   have oe1 := ev HA0 1 rfl
   have oe3 := ev HA0 3 rfl
   have oe4 := ev HA0 4 rfl
   refine QSeq.pure rfl _ (fun E => ex_move rfl (E.y 8 oe3)) ?_
   refine QSeq.pure rfl (.pointer (some ⟨w.heap.size, 37, none⟩)) (fun E => ex_field rfl Try.underlying52 rfl (by kernel_rfl) (E.v oe1)) ?_
   refine QSeq.pure rfl _ (fun E => ex_load1 rfl Try.underlying50 rfl (E.d 1 0) (Cs.post1 (pre := []) (mid := x.c.cells) (post := [.slice (some ⟨g1, o1, none⟩) x.l.length cap_sl_l]) (m := 37) (k := 0) HKL1_1.out (Cm.len HOK.out.2.1) rfl rfl)) ?_
   refine QSeq.pure rfl _ (fun E => ex_move rfl (E.v oe4)) ?_
   refine QSeq.pure rfl (.pointer (some ⟨g1, o1 + k1 * 38, none⟩)) (fun E => ex_idxS (i := k1) (s := 38) rfl Try.underlying50 (by kernel_rfl) (E.d 2 1) (E.d 3 0) hlt1) ?_
   refine QSeq.pure rfl _ (fun E => ex_loadA rfl Try.underlying30 rfl (off := o1 + k1 * 38) (cs := cs1) (by rw [HCL1.out]; kernel_rfl) (E.d 4 0) (fun j u hu => (HAT1.out).2 j u hu)) ?_
   refine QSeq.call rfl rfl Try.func71 (RefSt_Q _ _ (x.l[k1]) _ HRD1.out (by intro k h1; have hb := HBT.out k h1; omega) HBE1.out) (fun E => args1 (E.d 5 0)) ?_
   rintro e u5_6 ⟨v_a3, rfl, qa3, hm⟩
   obtain ⟨ao_a3, cap_a3, rfl⟩ := qa3.shape
   refine ⟨_, rfl, ?_⟩
   have Hx17 := hid qa3
   have zu5_6 := hm.size
   have Cx18 := hid (show Mod (fun _ => False) wl1 u5_6 from hm)
   clear hm
   clear qa3
   refine QSeq.go fun act E => ?_
   refine qc_appR rfl (wanted_none rfl) rfl (E.d 0 6) (E.d 6 0) (HAL1.out.mod Cx18.out (fun _ _ h => h)) Hx17.out.rd HB1'.out ?_
   intro ao12 cap12 u5_7 qjoin1 hm
   have Hx19 := hid (qjoin1.widen (R' := (fun k => (New w1 wl1 k) ∨ (New u5_6 u5_7 k))) (fun _ h => h) (Nat.le_refl _))
   have zu5_7 := hm.size
   have HMu5_7 := hid hm
   have Cx20 := hid (Mod.goS (S' := (fun k => (New w1 wl1 k))) Cx18.out hm (fun _ h => h.elim) (by intro k h0 h2; exact h2))
   clear hm Cx18
   clear act E qjoin1 HAL1
   refine QSeq.pure rfl _ (fun E => ex_assign rfl (E.d 7 0)) ?_
   have Hx21 := hid (Hx17.out.mod HMu5_7.out (by intro k h1 h2; omega))
   clear Hx17 HMu5_7
   refine QSeq.nil (t' := [_, _, _, _, _, _, _, _, _]) rfl ?_
   obtain rfl := HA0.out
   clear HA0 oe1 oe3 oe4
   simp only [pz, Act.put, List.setIfInBounds_toArray, List.set_cons_zero, List.set_cons_succ]
   have hq := Hx19.out
   rw [HE1.out] at hq
   have HQ1 := Lib.hid hq
   clear hq
   go_wp2
   go_roundw
   case rel => exact ⟨k1 + 1, by go_num, by omega, by omega, (HQ1.out.widen (by intro b h1; omega) (Nat.le_refl _)), (HKL1_0.out.mod Cx20.out (sN HBT)), (HKL1_1.out.mod Cx20.out (by intro h2; omega)), (HML1.out.trans Cx20.out (by intro k h1 h2; omega))⟩
   case measure => simp [intOf]; omega
  ·obtain rfl : k1 = x.l.length := by omega
   have hq := HAL1.out
   rw [List.take_length] at hq
   have HAF1 := Lib.hid hq
   clear hq
   rw [List.take_length]
   go_wp2
   go_ret
   have hq := (HAF1.out.widen (R' := (fun k => New w wl1 k)) (by intro k h1; omega) (Nat.le_refl _))
   have hb : ((cmB x.c ++ encI x.l.length) ++ (x.l.map stB).flatten) = ceB x := by simp only [ceB, listB, List.append_assoc]
   rw [hb] at hq
   try rw [hb]
   exact ⟨_, rfl, hq, HML1.out⟩
end Go.Proofs.Ytknpapcfhnhheaa

/- The reference's bytes of promises and batches. -/
namespace Go.Proofs.Ytknpapcfhnhheaa
open Go Go.RowKit Go.Gv

set_option maxHeartbeats 4000000 in
theorem RefBareP_Q : Makes PmR 73 bareP := by
 intro R2 cs x w hx hB2 hl
 obtain ⟨v_l, rfl, hok, hs0⟩ := hx
 obtain ⟨ao_sl_l, cap_sl_l, rfl⟩ := hs0.shape
 have hb0 : x.l.length ≤ maxLen := hs0.bd
 rw [maxLen_val] at hb0
 have HI0 := hid (show I64 (x.l.length : Int) by unfold I64; omega)
 have HS0 := Lib.hid hs0
 clear hs0
 have HBT := Lib.hid hB2
 have HOK := Lib.hid hok
 have HL := Lib.hid hl
 clear hB2 hl hok
 unfold bareP at HL
 go_enter Try.func73, Try.ntmps73
 go_upto_region 1 with (fail)
 obtain ⟨w1, hw1⟩ : ∃ zz, zz = (w.alloc (.cells (x.cells (.slice ao_sl_l x.l.length cap_sl_l) : List Value).toArray 55)) := ⟨_, rfl⟩
 change Code.wp _ _ _ _ (w.alloc (.cells (x.cells (.slice ao_sl_l x.l.length cap_sl_l) : List Value).toArray 55))
 rw [← hw1]
 have HB1 := hid (show Cs w1 (w.heap.size) (x.cells (.slice ao_sl_l x.l.length cap_sl_l) : List Value).toArray 55 by rw [hw1]; exact Cs.new _ _ _)
 have hm : Mod (fun _ => False) w w1 := by rw [hw1]; exact (Mod.refl _ _).alloc _
 have HM0 := hid (show Mod (fun _ => False) w w1 from hm.mono (fun _ _ h => h.elim))
 have hs1 : w1.heap.size = w.heap.size + 1 := by rw [hw1]; simp
 have Hx1 := hid (HS0.out.mod hm (fun _ _ h => h))
 clear HS0
 clear hw1 hm
 go_upto_region 1 with (fail)
 generalize ha0 : Act.mk _ _ = a0
 have oe1 : a0.eval (.tmp 1) = .pointer (some ⟨w.heap.size, 0, none⟩) := by rw [← ha0]; rfl
 have hsz0 : a0.tmps.size = 36 := by rw [← ha0]; rfl
 have HA0 := hid ha0
 clear ha0
 refine wp_region_Q0 36 hsz0 [5, 6, 7, 8, 9, 10, 11, 12, 13, 14, 15, 16, 17, 18, 19, 3] [qi (.pointer (some ⟨w.heap.size, 0, none⟩)), qi (.int .i64 x.rp), qv 0, qi (.pointer (some ⟨w.heap.size, 1, none⟩)), qi (.int .i64 x.ep), qv 1, qi (.pointer (some ⟨w.heap.size, 2, none⟩)), qi (.int .u64 (x.fl : Nat)), qv 2, qi (.pointer (some ⟨w.heap.size, 3, none⟩)), qi (.slice ao_sl_l x.l.length cap_sl_l), qi (.int .i64 x.l.length), qv 3, qv 4, qv 5, qv 5] ⟨qi_stable, qi_stable, qv_stable, qi_stable, qi_stable, qv_stable, qi_stable, qi_stable, qv_stable, qi_stable, qi_stable, qi_stable, qv_stable, qv_stable, qv_stable, qv_stable, trivial⟩ [2, 5, 8, 12, 13, 14] ⟨?_, ?_, ?_, ?_, ?_, ?_, ?_, ?_, ?_, ?_, ?_, ?_, ?_, ?_, ?_, ?_, trivial⟩ ?_
 ·exact stq (fun E => ex_field rfl Try.underlying55 rfl (by kernel_rfl) (E.v oe1))
 ·exact stq (fun E => ex_load1 rfl Try.underlying3 rfl (E.d 0) (Cs.lit1 (HB1.out.mod E.m.old (by intro h2; omega)) rfl))
 ·exact stepq_chain rfl
 ·exact stq (fun E => ex_field rfl Try.underlying55 rfl (by kernel_rfl) (E.v oe1))
 ·exact stq (fun E => ex_load1 rfl Try.underlying3 rfl (E.d 3) (Cs.lit1 (HB1.out.mod E.m.old (by intro h2; omega)) rfl))
 ·exact stepq_chain rfl
 ·exact stq (fun E => ex_field rfl Try.underlying55 rfl (by kernel_rfl) (E.v oe1))
 ·exact stq (fun E => ex_load1 rfl Try.underlying26 rfl (E.d 6) (Cs.lit1 (HB1.out.mod E.m.old (by intro h2; omega)) rfl))
 ·exact stepq_chain rfl
 ·exact stq (fun E => ex_field rfl Try.underlying55 rfl (by kernel_rfl) (E.v oe1))
 ·exact stq (fun E => ex_load1 rfl Try.underlying53 rfl (E.d 9) (Cs.lit1 (HB1.out.mod E.m.old (by intro h2; omega)) rfl))
 ·exact stq (fun E => ex_lenS rfl (E.d 10) Try.underlying53)
 ·exact stepq_chain rfl
 ·exact stepq_chain rfl
 ·exact stepq_chain rfl
 ·refine stepq_env rfl rfl rfl fun _ _ _ _ _ _ _ _ _ hd _ _ => ?_
  have h14 := hd ⟨14, .data⟩ (by simp) rfl _ rfl
  exact qe_run rfl (wanted_none rfl) (ex_assign rfl rfl) QE.refl h14
 intro u1_0 hr
 have zu1_0 := hr.size
 have Cx2 := hid (hr.new (S := (fun _ => False)))
 clear hr
 refine QChain.go fun Z act E => ?_
 refine qc_callF (args := #[.int .i64 x.rp]) rfl (wanted_none rfl) rfl Try.func70 (args1 (E.d 1)) (RefInt_Q _ HOK.out.1 _) ?_
 rintro e u1_1a ⟨v_a1, rfl, qa1, hm⟩
 obtain ⟨ao_a1, cap_a1, rfl⟩ := qa1.shape
 have zu1_1a := hm.size
 refine ⟨_, rfl, hm.mono (fun _ _ h => h.elim), (fun _ => rfl), ?_⟩
 intro u1_1 hr
 have zu1_1 := hr.size
 have Hx3 := hid ((qa1.widen (R' := (fun k => (New u1_0 u1_1a k))) (fun _ h => h) (Nat.le_refl _)).mod hr (by intro k h1 h2; omega))
 have Cx4 := hid (Cx2.out.go hm hr)
 clear Cx2 hm hr Z act E qa1
 refine QChain.go fun Z act E => ?_
 refine qc_callF (args := #[.int .i64 x.ep]) rfl (wanted_none rfl) rfl Try.func70 (args1 (E.d 4)) (RefInt_Q _ HOK.out.2.1 _) ?_
 rintro e u1_2a ⟨v_a2, rfl, qa2, hm⟩
 obtain ⟨ao_a2, cap_a2, rfl⟩ := qa2.shape
 have zu1_2a := hm.size
 refine ⟨_, rfl, hm.mono (fun _ _ h => h.elim), (fun _ => rfl), ?_⟩
 intro u1_2 hr
 have zu1_2 := hr.size
 have Hx5 := hid ((qa2.widen (R' := (fun k => (New u1_1 u1_2a k))) (fun _ h => h) (Nat.le_refl _)).mod hr (by intro k h1 h2; omega))
 have hmr := Mod.after hm hr
 have Hx6 := hid (Hx3.out.mod hmr (by intro k h1 h2; omega))
 clear Hx3
 clear hmr
 have Cx7 := hid (Cx4.out.go hm hr)
 clear Cx4 hm hr Z act E qa2
 refine QChain.go fun Z act E => ?_
 refine qc_callF (args := #[.int .u64 (x.fl : Nat)]) rfl (wanted_none rfl) rfl Try.func75 (args1 (E.d 7)) (RefNum_Q _ HOK.out.2.2.1 _) ?_
 rintro e u1_3a ⟨v_a3, rfl, qa3, hm⟩
 obtain ⟨ao_a3, cap_a3, rfl⟩ := qa3.shape
 have zu1_3a := hm.size
 refine ⟨_, rfl, hm.mono (fun _ _ h => h.elim), (fun _ => rfl), ?_⟩
 intro u1_3 hr
 have zu1_3 := hr.size
 have Hx8 := hid ((qa3.widen (R' := (fun k => (New u1_2 u1_3a k))) (fun _ h => h) (Nat.le_refl _)).mod hr (by intro k h1 h2; omega))
 have hmr := Mod.after hm hr
 have Hx9 := hid (Hx6.out.mod hmr (by intro k h1 h2; omega))
 have Hx10 := hid (Hx5.out.mod hmr (by intro k h1 h2; omega))
 clear Hx6 Hx5
 clear hmr
 have Cx11 := hid (Cx7.out.go hm hr)
 clear Cx7 hm hr Z act E qa3
 refine QChain.go fun Z act E => ?_
 refine qc_callF (args := #[.int .i64 x.l.length]) rfl (wanted_none rfl) rfl Try.func70 (args1 (E.d 11)) (RefInt_Q _ HI0.out _) ?_
 rintro e u1_4a ⟨v_a4, rfl, qa4, hm⟩
 obtain ⟨ao_a4, cap_a4, rfl⟩ := qa4.shape
 have zu1_4a := hm.size
 refine ⟨_, rfl, hm.mono (fun _ _ h => h.elim), (fun _ => rfl), ?_⟩
 intro u1_4 hr
 have zu1_4 := hr.size
 have Hx12 := hid ((qa4.widen (R' := (fun k => (New u1_3 u1_4a k))) (fun _ h => h) (Nat.le_refl _)).mod hr (by intro k h1 h2; omega))
 have hmr := Mod.after hm hr
 have Hx13 := hid (Hx9.out.mod hmr (by intro k h1 h2; omega))
 have Hx14 := hid (Hx10.out.mod hmr (by intro k h1 h2; omega))
 have Hx15 := hid (Hx8.out.mod hmr (by intro k h1 h2; omega))
 clear Hx9 Hx10 Hx8
 clear hmr
 have Cx16 := hid (Cx11.out.go hm hr)
 clear Cx11 hm hr Z act E qa4
 refine QChain.go fun Z act E => ?_
 have ea7 : act.eval (.tmp 7) = .slice ao_a1 ((encI x.rp).length) cap_a1 := (chv (v := .slice ao_a1 ((encI x.rp).length) cap_a1) (E.d 2))
 have ea10 : act.eval (.tmp 10) = .slice ao_a2 ((encI x.ep).length) cap_a2 := (chv (v := .slice ao_a2 ((encI x.ep).length) cap_a2) (E.d 5))
 have ea13 : act.eval (.tmp 13) = .slice ao_a3 ((encN x.fl).length) cap_a3 := (chv (v := .slice ao_a3 ((encN x.fl).length) cap_a3) (E.d 8))
 have ea17 : act.eval (.tmp 17) = .slice ao_a4 ((encI x.l.length).length) cap_a4 := (chv (v := .slice ao_a4 ((encI x.l.length).length) cap_a4) (E.d 12))
 refine qc_rows rfl (wanted_none rfl) rfl Try.underlying144 (by decide) (C := #[.slice ao_a1 ((encI x.rp).length) cap_a1, .slice ao_a2 ((encI x.ep).length) cap_a2, .slice ao_a3 ((encN x.fl).length) cap_a3, .slice ao_a4 ((encI x.l.length).length) cap_a4]) (by simp only [List.map_toArray, List.map_cons, List.map_nil, ea7, ea10, ea13, ea17]; kernel_rfl) ?_
 intro u1_5a qrow13 hm
 have zl1_13 := qrow13.lt
 have zu1_5a := hm.size
 refine ⟨hm.mono (fun _ _ h => h.elim), (fun _ => rfl), ?_⟩
 intro u1_5 hr
 have zu1_5 := hr.size
 have Hx17 := hid (qrow13.mod hr (by intro h2; omega))
 have hmr := Mod.after hm hr
 have Hx18 := hid (Hx13.out.mod hmr (by intro k h1 h2; omega))
 have Hx19 := hid (Hx14.out.mod hmr (by intro k h1 h2; omega))
 have Hx20 := hid (Hx15.out.mod hmr (by intro k h1 h2; omega))
 have Hx21 := hid (Hx12.out.mod hmr (by intro k h1 h2; omega))
 clear Hx13 Hx14 Hx15 Hx12
 clear hmr
 have Cx22 := hid (Cx16.out.go hm hr)
 clear Cx16 hm hr Z act E qrow13 ea7 ea10 ea13 ea17
 refine QChain.go fun Z act E => ?_
 refine qc_callF (args := #[.slice (some ⟨u1_4.heap.size, 0, none⟩) 4 4]) rfl (wanted_none rfl) rfl Try.func68 (args1 (chv (v := .slice (some ⟨u1_4.heap.size, 0, none⟩) 4 4) (E.d 13))) (Join_Q (n := 4)  Hx17.out [(.slice ao_a1 ((encI x.rp).length) cap_a1, encI x.rp), (.slice ao_a2 ((encI x.ep).length) cap_a2, encI x.ep), (.slice ao_a3 ((encN x.fl).length) cap_a3, encN x.fl), (.slice ao_a4 ((encI x.l.length).length) cap_a4, encI x.l.length)] rfl rfl (by intro p hp; simp only [List.mem_cons, List.not_mem_nil, or_false] at hp; rcases hp with rfl | rfl | rfl | rfl <;> first | exact Hx18.out.rd.1 | exact Hx19.out.rd.1 | exact Hx20.out.rd.1 | exact Hx21.out.rd.1) (by simp) (show flat _ = encI x.rp ++ (encI x.ep ++ (encN x.fl ++ encI x.l.length)) from by simp only [flat, List.map_cons, List.map_nil, List.flatten_cons, List.flatten_nil, List.append_nil]) (by have := HL.out; simp only [listB, List.length_append] at this ⊢; omega)) ?_
 rintro e u1_6a ⟨v_join1, rfl, qjoin1, hm⟩
 have zu1_6a := hm.size
 refine ⟨_, rfl, hm.mono (fun _ _ h => h.elim), (fun _ => rfl), ?_⟩
 intro u1_6 hr
 have zu1_6 := hr.size
 have Hx23 := hid ((qjoin1.widen (R' := (fun k => (New u1_5 u1_6a k))) (fun _ h => h) (Nat.le_refl _)).mod hr (by intro k h1 h2; omega))
 have hmr := Mod.after hm hr
 have Hx24 := hid (Hx18.out.mod hmr (by intro k h1 h2; omega))
 have Hx25 := hid (Hx19.out.mod hmr (by intro k h1 h2; omega))
 have Hx26 := hid (Hx20.out.mod hmr (by intro k h1 h2; omega))
 have Hx27 := hid (Hx21.out.mod hmr (by intro k h1 h2; omega))
 have Hx28 := hid (Hx17.out.mod hmr (by intro h2; omega))
 clear Hx18 Hx19 Hx20 Hx21 Hx17
 clear hmr
 have Cx29 := hid (Cx22.out.go hm hr)
 clear Cx22 hm hr Z act E qjoin1
 refine QChain.nil fun vs hl hzz hrows hne => ?_
 obtain ⟨Z, hYZ, hZb, hV⟩ := hzz
 have f2 := fvc hV hl 2
 have f5 := fvc hV hl 5
 have f8 := fvc hV hl 8
 have f11 := fvi hV hl 11
 have f12 := fvc hV hl 12
 have f13 := fvc hV hl 13
 have f14 := fvc hV hl 14
 have f15 := fvc hV hl 15
 rw [show vs = [gw vs 0, gw vs 1, gw vs 2, gw vs 3, gw vs 4, gw vs 5, gw vs 6, gw vs 7, gw vs 8, gw vs 9, gw vs 10, gw vs 11, gw vs 12, gw vs 13, gw vs 14, gw vs 15] from (gw_eta hl).trans rfl]
 have ha0 := HA0.out
 subst ha0
 clear HA0 hV hYZ hZb hsz0 hrows hne oe1
 simp only [putAll, Act.put, List.setIfInBounds_toArray, List.set_cons_zero, List.set_cons_succ, f2, f5, f8, f11, f12, f13, f14, f15]
 clear hl f2 f5 f8 f11 f12 f13 f14 f15
 go_upto_region 2 with (fail)
 refine wp_region_U 36 [20, 21, 22, 23] [0, 1, 2, 3] (fun a0 HA0 => ?_)
 have oe1 := ev HA0 1 rfl
 refine QSeq.pure rfl (.pointer (some ⟨w.heap.size, 3, none⟩)) (fun E => ex_field rfl Try.underlying55 rfl (by kernel_rfl) (E.v oe1)) ?_
 refine QSeq.pure rfl _ (fun E => ex_load1 rfl Try.underlying53 rfl (E.d 0 0) (Cs.lit1 (HB1.out.mod Cx29.out (fun h => h)) rfl)) ?_
 refine QSeq.pure rfl (.int .i64 x.l.length) (fun E => ex_lenS rfl (E.d 1 0) Try.underlying53) ?_
 refine QSeq.pure rfl (.int .i64 0) (fun E => ex_move rfl rfl) ?_
 refine QSeq.nil (t' := [_, _, _, _]) rfl ?_
 obtain rfl := HA0.out
 clear HA0 oe1
 simp only [pz, Act.put, List.setIfInBounds_toArray, List.set_cons_zero, List.set_cons_succ]
 go_wp2
 go_loopw [3, 23] (fun ta ti wr => ∃ k : Nat, ti = .int .i64 (k : Int) ∧ k ≤ x.l.length ∧ u1_6.heap.size ≤ wr.heap.size ∧ OwR (fun b => w1.heap.size ≤ b ∧ b < wr.heap.size) 900000 wr ta ((encI x.rp ++ (encI x.ep ++ (encN x.fl ++ encI x.l.length))) ++ ((x.l.take k).map ceB).flatten) ∧ RdS CeR R2 wr (.slice ao_sl_l x.l.length cap_sl_l) x.l ∧ Cs wr (w.heap.size) (x.cells (.slice ao_sl_l x.l.length cap_sl_l) : List Value).toArray 55 ∧ Mod (fun _ => False) w wr) (fun _ ti _ => x.l.length - (intOf ti).toNat)
 case atStart => exact ⟨0, rfl, Nat.zero_le _, Nat.le_refl _, by have hq := (Hx23.out.widen (R' := (fun b => w1.heap.size ≤ b ∧ b < u1_6.heap.size)) (by intro k h1; omega) (Nat.le_refl _)); simpa only [List.take_zero, List.map_nil, List.flatten_nil, List.append_nil, List.append_assoc] using hq, (Hx1.out.mod Cx29.out (fun _ _ h => h)), (HB1.out.mod Cx29.out (fun h => h)), (HM0.out.trans Cx29.out (fun _ _ h => h.elim))⟩
 case round =>
  obtain ⟨k1, rfl, hk, hz, ha, hk_0, hk_1, hm⟩ := hrel
  obtain ⟨wl1, rfl⟩ : ∃ x, x = wr := ⟨_, rfl⟩
  obtain ⟨aol1, capl1, rfl⟩ := ha.shape
  have HAL1 := Lib.hid ha
  have HKL1_0 := Lib.hid hk_0
  have HKL1_1 := Lib.hid hk_1
  have HML1 := Lib.hid hm
  clear ha hm hk_0 hk_1 Hx1 HB1 HM0 Hx24 Hx25 Hx26 Hx27 Hx28 Hx23
  by_cases hlt1 : k1 < x.l.length
  ·skip
   have hat := HKL1_0.out.at hlt1
   obtain ⟨g1, o1, cs1, eao, hrg, hrd, hcs⟩ := hat
   subst eao
   have hcl : cs1.length = 38 := CeR.len hrd
   have HCL1 := Lib.hid hcl
   have HAT1 := hid (show CellsAt R2 wl1 g1 (o1 + k1 * 38) cs1 from ⟨hrg, hcs⟩)
   have HRD1 := Lib.hid hrd
   clear hcl hcs hrd hrg
   have HE1 : Hid (((encI x.rp ++ (encI x.ep ++ (encN x.fl ++ encI x.l.length))) ++ ((x.l.take k1).map ceB).flatten) ++ ceB x.l[k1] = (encI x.rp ++ (encI x.ep ++ (encN x.fl ++ encI x.l.length))) ++ ((x.l.take (k1 + 1)).map ceB).flatten) := hid (by rw [List.take_succ_eq_append_getElem hlt1, List.map_append, List.flatten_append]; simp [List.append_assoc])
   have HB1' := hid (show (((encI x.rp ++ (encI x.ep ++ (encN x.fl ++ encI x.l.length))) ++ ((x.l.take k1).map ceB).flatten) ++ ceB x.l[k1]).length ≤ 900000 by rw [HE1.out]; exact acc_len _ _ _ _ (by have := HL.out; simp only [listB, List.length_append] at this ⊢; omega))
   have HBE1 := hid (show (ceB x.l[k1]).length ≤ 900000 by have := HB1'.out; simp only [List.length_append] at this ⊢; omega)
   go_upto_region 4 with (fail)
   refine wp_region_U 36 [25, 4] [0, 1] (fun a0 HA0 => ?_)
   have oe23 := ev HA0 23 rfl
   refine QSeq.pure rfl _ (fun E => ex_move rfl (E.v oe23)) ?_
   refine QSeq.pure rfl _ (fun E => ex_assign rfl (E.d 0 0)) ?_
   refine QSeq.nil (t' := [_, _]) rfl ?_
   obtain rfl := HA0.out
   clear HA0 oe23
   simp only [pz, Act.put, List.setIfInBounds_toArray, List.set_cons_zero, List.set_cons_succ]
   go_upto_region 5 with (fail)
   refine wp_region_U 36 [26, 27, 28, 29, 30, 31, 32, 33, 3] [0, 1, 2, 3, 4, 5, 6, 7, 8] (fun a0 HA0 => ?_)
   have oe1 := ev HA0 1 rfl
   have oe3 := ev HA0 3 rfl
   have oe4 := ev HA0 4 rfl
   refine QSeq.pure rfl _ (fun E => ex_move rfl (E.y 8 oe3)) ?_
   refine QSeq.pure rfl (.pointer (some ⟨w.heap.size, 3, none⟩)) (fun E => ex_field rfl Try.underlying55 rfl (by kernel_rfl) (E.v oe1)) ?_
   refine QSeq.pure rfl _ (fun E => ex_load1 rfl Try.underlying53 rfl (E.d 1 0) (Cs.lit1 HKL1_1.out rfl)) ?_
   refine QSeq.pure rfl _ (fun E => ex_move rfl (E.v oe4)) ?_
   refine QSeq.pure rfl (.pointer (some ⟨g1, o1 + k1 * 38, none⟩)) (fun E => ex_idxS (i := k1) (s := 38) rfl Try.underlying53 (by kernel_rfl) (E.d 2 1) (E.d 3 0) hlt1) ?_
   refine QSeq.pure rfl _ (fun E => ex_loadA rfl Try.underlying52 rfl (off := o1 + k1 * 38) (cs := cs1) (by rw [HCL1.out]; kernel_rfl) (E.d 4 0) (fun j u hu => (HAT1.out).2 j u hu)) ?_
   refine QSeq.call rfl rfl Try.func20 (RefCe_Q _ _ (x.l[k1]) _ HRD1.out (by intro k h1; have hb := HBT.out k h1; omega) HBE1.out) (fun E => args1 (E.d 5 0)) ?_
   rintro e u5_6 ⟨v_a5, rfl, qa5, hm⟩
   obtain ⟨ao_a5, cap_a5, rfl⟩ := qa5.shape
   refine ⟨_, rfl, ?_⟩
   have Hx30 := hid qa5
   have zu5_6 := hm.size
   have Cx31 := hid (show Mod (fun _ => False) wl1 u5_6 from hm)
   clear hm
   clear qa5
   refine QSeq.go fun act E => ?_
   refine qc_appR rfl (wanted_none rfl) rfl (E.d 0 6) (E.d 6 0) (HAL1.out.mod Cx31.out (fun _ _ h => h)) Hx30.out.rd HB1'.out ?_
   intro ao16 cap16 u5_7 qjoin1 hm
   have Hx32 := hid (qjoin1.widen (R' := (fun k => (New w1 wl1 k) ∨ (New u5_6 u5_7 k))) (fun _ h => h) (Nat.le_refl _))
   have zu5_7 := hm.size
   have HMu5_7 := hid hm
   have Cx33 := hid (Mod.goS (S' := (fun k => (New w1 wl1 k))) Cx31.out hm (fun _ h => h.elim) (by intro k h0 h2; exact h2))
   clear hm Cx31
   clear act E qjoin1 HAL1
   refine QSeq.pure rfl _ (fun E => ex_assign rfl (E.d 7 0)) ?_
   have Hx34 := hid (Hx30.out.mod HMu5_7.out (by intro k h1 h2; omega))
   clear Hx30 HMu5_7
   refine QSeq.nil (t' := [_, _, _, _, _, _, _, _, _]) rfl ?_
   obtain rfl := HA0.out
   clear HA0 oe1 oe3 oe4
   simp only [pz, Act.put, List.setIfInBounds_toArray, List.set_cons_zero, List.set_cons_succ]
   have hq := Hx32.out
   rw [HE1.out] at hq
   have HQ1 := Lib.hid hq
   clear hq
   go_wp2
   go_roundw
   case rel => exact ⟨k1 + 1, by go_num, by omega, by omega, (HQ1.out.widen (by intro b h1; omega) (Nat.le_refl _)), (HKL1_0.out.mod Cx33.out (sN HBT)), (HKL1_1.out.mod Cx33.out (by intro h2; omega)), (HML1.out.trans Cx33.out (by intro k h1 h2; omega))⟩
   case measure => simp [intOf]; omega
  ·obtain rfl : k1 = x.l.length := by omega
   have hq := HAL1.out
   rw [List.take_length] at hq
   have HAF1 := Lib.hid hq
   clear hq
   rw [List.take_length]
   go_wp2
   go_ret
   have hq := (HAF1.out.widen (R' := (fun k => New w wl1 k)) (by intro k h1; omega) (Nat.le_refl _))
   have hb : ((encI x.rp ++ (encI x.ep ++ (encN x.fl ++ encI x.l.length))) ++ (x.l.map ceB).flatten) = bareP x := by simp only [bareP, listB, List.append_assoc]
   rw [hb] at hq
   try rw [hb]
   exact ⟨_, rfl, hq, HML1.out⟩
set_option maxHeartbeats 4000000 in
theorem RefPm_Q : Makes PmR 22 pmB := by
 intro R2 cs x w hx hB2 hl
 obtain ⟨v_l, rfl, hok, hs0⟩ := hx
 have HS0 := Lib.hid hs0
 clear hs0
 have HBT := Lib.hid hB2
 have HOK := Lib.hid hok
 have HL := Lib.hid hl
 clear hB2 hl hok
 unfold pmB at HL
 go_enter Try.func22, Try.ntmps22
 go_upto_region 1 with (fail)
 obtain ⟨w1, hw1⟩ : ∃ zz, zz = (w.alloc (.cells (x.cells v_l : List Value).toArray 55)) := ⟨_, rfl⟩
 change Code.wp _ _ _ _ (w.alloc (.cells (x.cells v_l : List Value).toArray 55))
 rw [← hw1]
 have HB1 := hid (show Cs w1 (w.heap.size) (x.cells v_l : List Value).toArray 55 by rw [hw1]; exact Cs.new _ _ _)
 have hm : Mod (fun _ => False) w w1 := by rw [hw1]; exact (Mod.refl _ _).alloc _
 have HM0 := hid (show Mod (fun _ => False) w w1 from hm.mono (fun _ _ h => h.elim))
 have hs1 : w1.heap.size = w.heap.size + 1 := by rw [hw1]; simp
 have Hx1 := hid (HS0.out.mod hm (fun _ _ h => h))
 clear HS0
 clear hw1 hm
 go_upto_region 1 with (fail)
 generalize ha0 : Act.mk _ _ = a0
 have oe1 : a0.eval (.tmp 1) = .pointer (some ⟨w.heap.size, 0, none⟩) := by rw [← ha0]; rfl
 have hsz0 : a0.tmps.size = 10 := by rw [← ha0]; rfl
 have HA0 := hid ha0
 clear ha0
 refine wp_region_Q0 10 hsz0 [3, 4, 5, 6, 7, 8, 9, 2] [qi (.agg (x.cells v_l).toArray), qv 0, qi (.pointer (some ⟨w.heap.size, 4, none⟩)), qi (.agg #[.int .i64 x.sb, .int .i64 x.mr]), qv 1, qv 2, qv 3, qv 3] ⟨qi_stable, qv_stable, qi_stable, qi_stable, qv_stable, qv_stable, qv_stable, qv_stable, trivial⟩ [1, 4, 5, 6] ⟨?_, ?_, ?_, ?_, ?_, ?_, ?_, ?_, trivial⟩ ?_
 ·exact stq (fun E => ex_loadA rfl Try.underlying55 rfl (off := 0) (cs := x.cells v_l) (by kernel_rfl) (E.v oe1) (Cs.whole (HB1.out.mod E.m.old (by intro h2; omega))))
 ·exact stepq_chain rfl
 ·exact stq (fun E => ex_field rfl Try.underlying55 rfl (by kernel_rfl) (E.v oe1))
 ·exact stq (fun E => ex_loadA rfl Try.underlying28 rfl (off := 4) (cs := [.int .i64 x.sb, .int .i64 x.mr]) (by kernel_rfl) (E.d 2) (Cs.litA (HB1.out.mod E.m.old (by intro h2; omega)) rfl))
 ·exact stepq_chain rfl
 ·exact stepq_chain rfl
 ·exact stepq_chain rfl
 ·refine stepq_env rfl rfl rfl fun _ _ _ _ _ _ _ _ _ hd _ _ => ?_
  have h6 := hd ⟨6, .data⟩ (by simp) rfl _ rfl
  exact qe_run rfl (wanted_none rfl) (ex_assign rfl rfl) QE.refl h6
 intro u1_0 hr
 have zu1_0 := hr.size
 have Cx2 := hid (hr.new (S := (fun _ => False)))
 clear hr
 refine QChain.go fun Z act E => ?_
 refine qc_callF (args := #[.agg (x.cells v_l).toArray]) rfl (wanted_none rfl) rfl Try.func73 (args1 (E.d 0)) (RefBareP_Q _ _ x _ ⟨_, rfl, HOK.out, (Hx1.out.mod Cx2.out (fun _ _ h => h))⟩ (by intro k h1; have hb := HBT.out k h1; omega) (by have := HL.out; unfold bareP; simp only [List.length_append] at this ⊢; omega)) ?_
 rintro e u1_1a ⟨v_a1, rfl, qa1, hm⟩
 obtain ⟨ao_a1, cap_a1, rfl⟩ := qa1.shape
 have zu1_1a := hm.size
 refine ⟨_, rfl, hm.mono (fun _ _ h => h.elim), (fun _ => rfl), ?_⟩
 intro u1_1 hr
 have zu1_1 := hr.size
 have Hx3 := hid ((qa1.widen (R' := (fun k => (New u1_0 u1_1a k))) (fun _ h => h) (Nat.le_refl _)).mod hr (by intro k h1 h2; omega))
 have Cx4 := hid (Cx2.out.go hm hr)
 clear Cx2 hm hr Z act E qa1
 refine QChain.go fun Z act E => ?_
 refine qc_callF (args := #[.agg #[.int .i64 x.sb, .int .i64 x.mr]]) rfl (wanted_none rfl) rfl Try.func74 (args1 (E.d 3)) (RefSig_Q HOK.out.2.2.2.1 HOK.out.2.2.2.2 _) ?_
 rintro e u1_2a ⟨v_a2, rfl, qa2, hm⟩
 obtain ⟨ao_a2, cap_a2, rfl⟩ := qa2.shape
 have zu1_2a := hm.size
 refine ⟨_, rfl, hm.mono (fun _ _ h => h.elim), (fun _ => rfl), ?_⟩
 intro u1_2 hr
 have zu1_2 := hr.size
 have Hx5 := hid ((qa2.widen (R' := (fun k => (New u1_1 u1_2a k))) (fun _ h => h) (Nat.le_refl _)).mod hr (by intro k h1 h2; omega))
 have hmr := Mod.after hm hr
 have Hx6 := hid (Hx3.out.mod hmr (by intro k h1 h2; omega))
 clear Hx3
 clear hmr
 have Cx7 := hid (Cx4.out.go hm hr)
 clear Cx4 hm hr Z act E qa2
 refine QChain.go fun Z act E => ?_
 have ea4 : act.eval (.tmp 4) = .slice ao_a1 ((bareP x).length) cap_a1 := (chv (v := .slice ao_a1 ((bareP x).length) cap_a1) (E.d 1))
 have ea7 : act.eval (.tmp 7) = .slice ao_a2 ((sigB x.sb x.mr).length) cap_a2 := (chv (v := .slice ao_a2 ((sigB x.sb x.mr).length) cap_a2) (E.d 4))
 refine qc_rows rfl (wanted_none rfl) rfl Try.underlying144 (by decide) (C := #[.slice ao_a1 ((bareP x).length) cap_a1, .slice ao_a2 ((sigB x.sb x.mr).length) cap_a2]) (by simp only [List.map_toArray, List.map_cons, List.map_nil, ea4, ea7]; kernel_rfl) ?_
 intro u1_3a qrow5 hm
 have zl1_5 := qrow5.lt
 have zu1_3a := hm.size
 refine ⟨hm.mono (fun _ _ h => h.elim), (fun _ => rfl), ?_⟩
 intro u1_3 hr
 have zu1_3 := hr.size
 have Hx8 := hid (qrow5.mod hr (by intro h2; omega))
 have hmr := Mod.after hm hr
 have Hx9 := hid (Hx6.out.mod hmr (by intro k h1 h2; omega))
 have Hx10 := hid (Hx5.out.mod hmr (by intro k h1 h2; omega))
 clear Hx6 Hx5
 clear hmr
 have Cx11 := hid (Cx7.out.go hm hr)
 clear Cx7 hm hr Z act E qrow5 ea4 ea7
 refine QChain.go fun Z act E => ?_
 refine qc_callF (args := #[.slice (some ⟨u1_2.heap.size, 0, none⟩) 2 2]) rfl (wanted_none rfl) rfl Try.func68 (args1 (chv (v := .slice (some ⟨u1_2.heap.size, 0, none⟩) 2 2) (E.d 5))) (Join_Q (n := 2)  Hx8.out [(.slice ao_a1 ((bareP x).length) cap_a1, bareP x), (.slice ao_a2 ((sigB x.sb x.mr).length) cap_a2, sigB x.sb x.mr)] rfl rfl (by intro p hp; simp only [List.mem_cons, List.not_mem_nil, or_false] at hp; rcases hp with rfl | rfl <;> first | exact Hx9.out.rd.1 | exact Hx10.out.rd.1) (by simp) (show flat _ = bareP x ++ sigB x.sb x.mr from by simp only [flat, List.map_cons, List.map_nil, List.flatten_cons, List.flatten_nil, List.append_nil]) (by have := HL.out; simp only [bareP, List.length_append] at this ⊢; omega)) ?_
 rintro e u1_4a ⟨v_join1, rfl, qjoin1, hm⟩
 have zu1_4a := hm.size
 refine ⟨_, rfl, hm.mono (fun _ _ h => h.elim), (fun _ => rfl), ?_⟩
 intro u1_4 hr
 have zu1_4 := hr.size
 have Hx12 := hid ((qjoin1.widen (R' := (fun k => (New u1_3 u1_4a k))) (fun _ h => h) (Nat.le_refl _)).mod hr (by intro k h1 h2; omega))
 have hmr := Mod.after hm hr
 have Hx13 := hid (Hx9.out.mod hmr (by intro k h1 h2; omega))
 have Hx14 := hid (Hx10.out.mod hmr (by intro k h1 h2; omega))
 have Hx15 := hid (Hx8.out.mod hmr (by intro h2; omega))
 clear Hx9 Hx10 Hx8
 clear hmr
 have Cx16 := hid (Cx11.out.go hm hr)
 clear Cx11 hm hr Z act E qjoin1
 refine QChain.nil fun vs hl hzz hrows hne => ?_
 obtain ⟨Z, hYZ, hZb, hV⟩ := hzz
 have f1 := fvc hV hl 1
 have f4 := fvc hV hl 4
 have f5 := fvc hV hl 5
 have f6 := fvc hV hl 6
 have f7 := fvc hV hl 7
 rw [show vs = [gw vs 0, gw vs 1, gw vs 2, gw vs 3, gw vs 4, gw vs 5, gw vs 6, gw vs 7] from (gw_eta hl).trans rfl]
 have ha0 := HA0.out
 subst ha0
 clear HA0 hV hYZ hZb hsz0 hrows hne oe1
 simp only [putAll, Act.put, List.setIfInBounds_toArray, List.set_cons_zero, List.set_cons_succ, f1, f4, f5, f6, f7]
 clear hl f1 f4 f5 f6 f7
 go_wp2
 go_ret
 have hq := (Hx12.out.widen (R' := (fun k => New w u1_4 k)) (by intro k h1; omega) (Nat.le_refl _))
 (try simp only [List.append_assoc] at hq)
 exact ⟨v_join1, rfl, by simpa only [pmB, bareP, List.append_assoc] using hq, (HM0.out.trans Cx16.out (fun _ _ h => h.elim))⟩
set_option maxHeartbeats 8000000 in
theorem RefBa_Q : Makes BaR 24 baB := by
 intro R2 cs x w hx hB2 hl
 obtain ⟨v_ps, v_os, v_ts, rfl, hok, hs0, hs1, hs2⟩ := hx
 obtain ⟨ao_sl_ps, cap_sl_ps, rfl⟩ := hs0.shape
 have hb0 : x.ps.length ≤ maxLen := hs0.bd
 rw [maxLen_val] at hb0
 have HI0 := hid (show I64 (x.ps.length : Int) by unfold I64; omega)
 have HS0 := Lib.hid hs0
 clear hs0
 obtain ⟨ao_sl_os, cap_sl_os, rfl⟩ := hs1.shape
 have hb1 : x.os.length ≤ maxLen := hs1.bd
 rw [maxLen_val] at hb1
 have HI1 := hid (show I64 (x.os.length : Int) by unfold I64; omega)
 have HS1 := Lib.hid hs1
 clear hs1
 obtain ⟨ao_sl_ts, cap_sl_ts, rfl⟩ := hs2.shape
 have hb2 : x.ts.length ≤ maxLen := hs2.bd
 rw [maxLen_val] at hb2
 have HI2 := hid (show I64 (x.ts.length : Int) by unfold I64; omega)
 have HS2 := Lib.hid hs2
 clear hs2
 have HBT := Lib.hid hB2
 have HOK := Lib.hid hok
 have HL := Lib.hid hl
 clear hB2 hl hok
 unfold baB at HL
 go_enter Try.func24, Try.ntmps24
 go_upto_region 1 with (fail)
 obtain ⟨w1, hw1⟩ : ∃ zz, zz = (w.alloc (.cells (x.cells (.slice ao_sl_ps x.ps.length cap_sl_ps) (.slice ao_sl_os x.os.length cap_sl_os) (.slice ao_sl_ts x.ts.length cap_sl_ts) : List Value).toArray 60)) := ⟨_, rfl⟩
 change Code.wp _ _ _ _ (w.alloc (.cells (x.cells (.slice ao_sl_ps x.ps.length cap_sl_ps) (.slice ao_sl_os x.os.length cap_sl_os) (.slice ao_sl_ts x.ts.length cap_sl_ts) : List Value).toArray 60))
 rw [← hw1]
 have HB1 := hid (show Cs w1 (w.heap.size) (x.cells (.slice ao_sl_ps x.ps.length cap_sl_ps) (.slice ao_sl_os x.os.length cap_sl_os) (.slice ao_sl_ts x.ts.length cap_sl_ts) : List Value).toArray 60 by rw [hw1]; exact Cs.new _ _ _)
 have hm : Mod (fun _ => False) w w1 := by rw [hw1]; exact (Mod.refl _ _).alloc _
 have HM0 := hid (show Mod (fun _ => False) w w1 from hm.mono (fun _ _ h => h.elim))
 have hs1 : w1.heap.size = w.heap.size + 1 := by rw [hw1]; simp
 have Hx1 := hid (HS0.out.mod hm (fun _ _ h => h))
 clear HS0
 have Hx2 := hid (HS1.out.mod hm (fun _ _ h => h))
 clear HS1
 have Hx3 := hid (HS2.out.mod hm (fun _ _ h => h))
 clear HS2
 clear hw1 hm
 go_upto_region 1 with (fail)
 generalize ha0 : Act.mk _ _ = a0
 have oe1 : a0.eval (.tmp 1) = .pointer (some ⟨w.heap.size, 0, none⟩) := by rw [← ha0]; rfl
 have hsz0 : a0.tmps.size = 111 := by rw [← ha0]; rfl
 have HA0 := hid ha0
 clear ha0
 refine wp_region_Q0 111 hsz0 [8, 9, 10, 11, 12, 13, 14, 15, 16, 17, 18, 19, 3] [qi (.pointer (some ⟨w.heap.size, 0, none⟩)), qi (.int .i64 x.ep), qv 0, qi (.pointer (some ⟨w.heap.size, 1, none⟩)), qi (.int .u64 (x.tm : Nat)), qv 1, qi (.pointer (some ⟨w.heap.size, 2, none⟩)), qi (.slice ao_sl_ps x.ps.length cap_sl_ps), qi (.int .i64 x.ps.length), qv 2, qv 3, qv 4, qv 4] ⟨qi_stable, qi_stable, qv_stable, qi_stable, qi_stable, qv_stable, qi_stable, qi_stable, qi_stable, qv_stable, qv_stable, qv_stable, qv_stable, trivial⟩ [2, 5, 9, 10, 11] ⟨?_, ?_, ?_, ?_, ?_, ?_, ?_, ?_, ?_, ?_, ?_, ?_, ?_, trivial⟩ ?_
 ·exact stq (fun E => ex_field rfl Try.underlying60 rfl (by kernel_rfl) (E.v oe1))
 ·exact stq (fun E => ex_load1 rfl Try.underlying3 rfl (E.d 0) (Cs.lit1 (HB1.out.mod E.m.old (by intro h2; omega)) rfl))
 ·exact stepq_chain rfl
 ·exact stq (fun E => ex_field rfl Try.underlying60 rfl (by kernel_rfl) (E.v oe1))
 ·exact stq (fun E => ex_load1 rfl Try.underlying26 rfl (E.d 3) (Cs.lit1 (HB1.out.mod E.m.old (by intro h2; omega)) rfl))
 ·exact stepq_chain rfl
 ·exact stq (fun E => ex_field rfl Try.underlying60 rfl (by kernel_rfl) (E.v oe1))
 ·exact stq (fun E => ex_load1 rfl Try.underlying56 rfl (E.d 6) (Cs.lit1 (HB1.out.mod E.m.old (by intro h2; omega)) rfl))
 ·exact stq (fun E => ex_lenS rfl (E.d 7) Try.underlying56)
 ·exact stepq_chain rfl
 ·exact stepq_chain rfl
 ·exact stepq_chain rfl
 ·refine stepq_env rfl rfl rfl fun _ _ _ _ _ _ _ _ _ hd _ _ => ?_
  have h11 := hd ⟨11, .data⟩ (by simp) rfl _ rfl
  exact qe_run rfl (wanted_none rfl) (ex_assign rfl rfl) QE.refl h11
 intro u1_0 hr
 have zu1_0 := hr.size
 have Cx4 := hid (hr.new (S := (fun _ => False)))
 clear hr
 refine QChain.go fun Z act E => ?_
 refine qc_callF (args := #[.int .i64 x.ep]) rfl (wanted_none rfl) rfl Try.func70 (args1 (E.d 1)) (RefInt_Q _ HOK.out.1 _) ?_
 rintro e u1_1a ⟨v_a1, rfl, qa1, hm⟩
 obtain ⟨ao_a1, cap_a1, rfl⟩ := qa1.shape
 have zu1_1a := hm.size
 refine ⟨_, rfl, hm.mono (fun _ _ h => h.elim), (fun _ => rfl), ?_⟩
 intro u1_1 hr
 have zu1_1 := hr.size
 have Hx5 := hid ((qa1.widen (R' := (fun k => (New u1_0 u1_1a k))) (fun _ h => h) (Nat.le_refl _)).mod hr (by intro k h1 h2; omega))
 have Cx6 := hid (Cx4.out.go hm hr)
 clear Cx4 hm hr Z act E qa1
 refine QChain.go fun Z act E => ?_
 refine qc_callF (args := #[.int .u64 (x.tm : Nat)]) rfl (wanted_none rfl) rfl Try.func75 (args1 (E.d 4)) (RefNum_Q _ HOK.out.2 _) ?_
 rintro e u1_2a ⟨v_a2, rfl, qa2, hm⟩
 obtain ⟨ao_a2, cap_a2, rfl⟩ := qa2.shape
 have zu1_2a := hm.size
 refine ⟨_, rfl, hm.mono (fun _ _ h => h.elim), (fun _ => rfl), ?_⟩
 intro u1_2 hr
 have zu1_2 := hr.size
 have Hx7 := hid ((qa2.widen (R' := (fun k => (New u1_1 u1_2a k))) (fun _ h => h) (Nat.le_refl _)).mod hr (by intro k h1 h2; omega))
 have hmr := Mod.after hm hr
 have Hx8 := hid (Hx5.out.mod hmr (by intro k h1 h2; omega))
 clear Hx5
 clear hmr
 have Cx9 := hid (Cx6.out.go hm hr)
 clear Cx6 hm hr Z act E qa2
 refine QChain.go fun Z act E => ?_
 refine qc_callF (args := #[.int .i64 x.ps.length]) rfl (wanted_none rfl) rfl Try.func70 (args1 (E.d 8)) (RefInt_Q _ HI0.out _) ?_
 rintro e u1_3a ⟨v_a3, rfl, qa3, hm⟩
 obtain ⟨ao_a3, cap_a3, rfl⟩ := qa3.shape
 have zu1_3a := hm.size
 refine ⟨_, rfl, hm.mono (fun _ _ h => h.elim), (fun _ => rfl), ?_⟩
 intro u1_3 hr
 have zu1_3 := hr.size
 have Hx10 := hid ((qa3.widen (R' := (fun k => (New u1_2 u1_3a k))) (fun _ h => h) (Nat.le_refl _)).mod hr (by intro k h1 h2; omega))
 have hmr := Mod.after hm hr
 have Hx11 := hid (Hx8.out.mod hmr (by intro k h1 h2; omega))
 have Hx12 := hid (Hx7.out.mod hmr (by intro k h1 h2; omega))
 clear Hx8 Hx7
 clear hmr
 have Cx13 := hid (Cx9.out.go hm hr)
 clear Cx9 hm hr Z act E qa3
 refine QChain.go fun Z act E => ?_
 have ea10 : act.eval (.tmp 10) = .slice ao_a1 ((encI x.ep).length) cap_a1 := (chv (v := .slice ao_a1 ((encI x.ep).length) cap_a1) (E.d 2))
 have ea13 : act.eval (.tmp 13) = .slice ao_a2 ((encN x.tm).length) cap_a2 := (chv (v := .slice ao_a2 ((encN x.tm).length) cap_a2) (E.d 5))
 have ea17 : act.eval (.tmp 17) = .slice ao_a3 ((encI x.ps.length).length) cap_a3 := (chv (v := .slice ao_a3 ((encI x.ps.length).length) cap_a3) (E.d 9))
 refine qc_rows rfl (wanted_none rfl) rfl Try.underlying144 (by decide) (C := #[.slice ao_a1 ((encI x.ep).length) cap_a1, .slice ao_a2 ((encN x.tm).length) cap_a2, .slice ao_a3 ((encI x.ps.length).length) cap_a3]) (by simp only [List.map_toArray, List.map_cons, List.map_nil, ea10, ea13, ea17]; kernel_rfl) ?_
 intro u1_4a qrow10 hm
 have zl1_10 := qrow10.lt
 have zu1_4a := hm.size
 refine ⟨hm.mono (fun _ _ h => h.elim), (fun _ => rfl), ?_⟩
 intro u1_4 hr
 have zu1_4 := hr.size
 have Hx14 := hid (qrow10.mod hr (by intro h2; omega))
 have hmr := Mod.after hm hr
 have Hx15 := hid (Hx11.out.mod hmr (by intro k h1 h2; omega))
 have Hx16 := hid (Hx12.out.mod hmr (by intro k h1 h2; omega))
 have Hx17 := hid (Hx10.out.mod hmr (by intro k h1 h2; omega))
 clear Hx11 Hx12 Hx10
 clear hmr
 have Cx18 := hid (Cx13.out.go hm hr)
 clear Cx13 hm hr Z act E qrow10 ea10 ea13 ea17
 refine QChain.go fun Z act E => ?_
 refine qc_callF (args := #[.slice (some ⟨u1_3.heap.size, 0, none⟩) 3 3]) rfl (wanted_none rfl) rfl Try.func68 (args1 (chv (v := .slice (some ⟨u1_3.heap.size, 0, none⟩) 3 3) (E.d 10))) (Join_Q (n := 3)  Hx14.out [(.slice ao_a1 ((encI x.ep).length) cap_a1, encI x.ep), (.slice ao_a2 ((encN x.tm).length) cap_a2, encN x.tm), (.slice ao_a3 ((encI x.ps.length).length) cap_a3, encI x.ps.length)] rfl rfl (by intro p hp; simp only [List.mem_cons, List.not_mem_nil, or_false] at hp; rcases hp with rfl | rfl | rfl <;> first | exact Hx15.out.rd.1 | exact Hx16.out.rd.1 | exact Hx17.out.rd.1) (by simp) (show flat _ = encI x.ep ++ (encN x.tm ++ encI x.ps.length) from by simp only [flat, List.map_cons, List.map_nil, List.flatten_cons, List.flatten_nil, List.append_nil]) (by have := HL.out; simp only [listB, List.length_append] at this ⊢; omega)) ?_
 rintro e u1_5a ⟨v_join1, rfl, qjoin1, hm⟩
 have zu1_5a := hm.size
 refine ⟨_, rfl, hm.mono (fun _ _ h => h.elim), (fun _ => rfl), ?_⟩
 intro u1_5 hr
 have zu1_5 := hr.size
 have Hx19 := hid ((qjoin1.widen (R' := (fun k => (New u1_4 u1_5a k))) (fun _ h => h) (Nat.le_refl _)).mod hr (by intro k h1 h2; omega))
 have hmr := Mod.after hm hr
 have Hx20 := hid (Hx15.out.mod hmr (by intro k h1 h2; omega))
 have Hx21 := hid (Hx16.out.mod hmr (by intro k h1 h2; omega))
 have Hx22 := hid (Hx17.out.mod hmr (by intro k h1 h2; omega))
 have Hx23 := hid (Hx14.out.mod hmr (by intro h2; omega))
 clear Hx15 Hx16 Hx17 Hx14
 clear hmr
 have Cx24 := hid (Cx18.out.go hm hr)
 clear Cx18 hm hr Z act E qjoin1
 refine QChain.nil fun vs hl hzz hrows hne => ?_
 obtain ⟨Z, hYZ, hZb, hV⟩ := hzz
 have f2 := fvc hV hl 2
 have f5 := fvc hV hl 5
 have f8 := fvi hV hl 8
 have f9 := fvc hV hl 9
 have f10 := fvc hV hl 10
 have f11 := fvc hV hl 11
 have f12 := fvc hV hl 12
 rw [show vs = [gw vs 0, gw vs 1, gw vs 2, gw vs 3, gw vs 4, gw vs 5, gw vs 6, gw vs 7, gw vs 8, gw vs 9, gw vs 10, gw vs 11, gw vs 12] from (gw_eta hl).trans rfl]
 have ha0 := HA0.out
 subst ha0
 clear HA0 hV hYZ hZb hsz0 hrows hne oe1
 simp only [putAll, Act.put, List.setIfInBounds_toArray, List.set_cons_zero, List.set_cons_succ, f2, f5, f8, f9, f10, f11, f12]
 clear hl f2 f5 f8 f9 f10 f11 f12
 go_upto_region 2 with (fail)
 refine wp_region_U 111 [20, 21, 22, 23] [0, 1, 2, 3] (fun a0 HA0 => ?_)
 have oe1 := ev HA0 1 rfl
 refine QSeq.pure rfl (.pointer (some ⟨w.heap.size, 2, none⟩)) (fun E => ex_field rfl Try.underlying60 rfl (by kernel_rfl) (E.v oe1)) ?_
 refine QSeq.pure rfl _ (fun E => ex_load1 rfl Try.underlying56 rfl (E.d 0 0) (Cs.lit1 (HB1.out.mod Cx24.out (fun h => h)) rfl)) ?_
 refine QSeq.pure rfl (.int .i64 x.ps.length) (fun E => ex_lenS rfl (E.d 1 0) Try.underlying56) ?_
 refine QSeq.pure rfl (.int .i64 0) (fun E => ex_move rfl rfl) ?_
 refine QSeq.nil (t' := [_, _, _, _]) rfl ?_
 obtain rfl := HA0.out
 clear HA0 oe1
 simp only [pz, Act.put, List.setIfInBounds_toArray, List.set_cons_zero, List.set_cons_succ]
 go_wp2
 go_loopw [3, 23] (fun ta ti wr => ∃ k : Nat, ti = .int .i64 (k : Int) ∧ k ≤ x.ps.length ∧ u1_5.heap.size ≤ wr.heap.size ∧ OwR (fun b => w1.heap.size ≤ b ∧ b < wr.heap.size) 900000 wr ta ((encI x.ep ++ (encN x.tm ++ encI x.ps.length)) ++ ((x.ps.take k).map pmB).flatten) ∧ RdS PmR R2 wr (.slice ao_sl_ps x.ps.length cap_sl_ps) x.ps ∧ RdS OpR R2 wr (.slice ao_sl_os x.os.length cap_sl_os) x.os ∧ RdS TbR R2 wr (.slice ao_sl_ts x.ts.length cap_sl_ts) x.ts ∧ Cs wr (w.heap.size) (x.cells (.slice ao_sl_ps x.ps.length cap_sl_ps) (.slice ao_sl_os x.os.length cap_sl_os) (.slice ao_sl_ts x.ts.length cap_sl_ts) : List Value).toArray 60 ∧ Mod (fun _ => False) w wr) (fun _ ti _ => x.ps.length - (intOf ti).toNat)
 case atStart => exact ⟨0, rfl, Nat.zero_le _, Nat.le_refl _, by have hq := (Hx19.out.widen (R' := (fun b => w1.heap.size ≤ b ∧ b < u1_5.heap.size)) (by intro k h1; omega) (Nat.le_refl _)); simpa only [List.take_zero, List.map_nil, List.flatten_nil, List.append_nil, List.append_assoc] using hq, (Hx1.out.mod Cx24.out (fun _ _ h => h)), (Hx2.out.mod Cx24.out (fun _ _ h => h)), (Hx3.out.mod Cx24.out (fun _ _ h => h)), (HB1.out.mod Cx24.out (fun h => h)), (HM0.out.trans Cx24.out (fun _ _ h => h.elim))⟩
 case round =>
  obtain ⟨k1, rfl, hk, hz, ha, hk_0, hk_1, hk_2, hk_3, hm⟩ := hrel
  obtain ⟨wl1, rfl⟩ : ∃ x, x = wr := ⟨_, rfl⟩
  obtain ⟨aol1, capl1, rfl⟩ := ha.shape
  have HAL1 := Lib.hid ha
  have HKL1_0 := Lib.hid hk_0
  have HKL1_1 := Lib.hid hk_1
  have HKL1_2 := Lib.hid hk_2
  have HKL1_3 := Lib.hid hk_3
  have HML1 := Lib.hid hm
  clear ha hm hk_0 hk_1 hk_2 hk_3 Hx1 Hx2 Hx3 HB1 HM0 Hx20 Hx21 Hx22 Hx23 Hx19
  by_cases hlt1 : k1 < x.ps.length
  ·skip
   have hat := HKL1_0.out.at hlt1
   obtain ⟨g1, o1, cs1, eao, hrg, hrd, hcs⟩ := hat
   subst eao
   have hcl : cs1.length = 6 := PmR.len hrd
   have HCL1 := Lib.hid hcl
   have HAT1 := hid (show CellsAt R2 wl1 g1 (o1 + k1 * 6) cs1 from ⟨hrg, hcs⟩)
   have HRD1 := Lib.hid hrd
   clear hcl hcs hrd hrg
   have HE1 : Hid (((encI x.ep ++ (encN x.tm ++ encI x.ps.length)) ++ ((x.ps.take k1).map pmB).flatten) ++ pmB x.ps[k1] = (encI x.ep ++ (encN x.tm ++ encI x.ps.length)) ++ ((x.ps.take (k1 + 1)).map pmB).flatten) := hid (by rw [List.take_succ_eq_append_getElem hlt1, List.map_append, List.flatten_append]; simp [List.append_assoc])
   have HB1' := hid (show (((encI x.ep ++ (encN x.tm ++ encI x.ps.length)) ++ ((x.ps.take k1).map pmB).flatten) ++ pmB x.ps[k1]).length ≤ 900000 by rw [HE1.out]; exact acc_len _ _ _ _ (by have := HL.out; simp only [listB, List.length_append] at this ⊢; omega))
   have HBE1 := hid (show (pmB x.ps[k1]).length ≤ 900000 by have := HB1'.out; simp only [List.length_append] at this ⊢; omega)
   go_upto_region 4 with (fail)
   refine wp_region_U 111 [25, 4] [0, 1] (fun a0 HA0 => ?_)
   have oe23 := ev HA0 23 rfl
   refine QSeq.pure rfl _ (fun E => ex_move rfl (E.v oe23)) ?_
   refine QSeq.pure rfl _ (fun E => ex_assign rfl (E.d 0 0)) ?_
   refine QSeq.nil (t' := [_, _]) rfl ?_
   obtain rfl := HA0.out
   clear HA0 oe23
   simp only [pz, Act.put, List.setIfInBounds_toArray, List.set_cons_zero, List.set_cons_succ]
   go_upto_region 5 with (fail)
   refine wp_region_U 111 [26, 27, 28, 29, 30, 31, 32, 33, 3] [0, 1, 2, 3, 4, 5, 6, 7, 8] (fun a0 HA0 => ?_)
   have oe1 := ev HA0 1 rfl
   have oe3 := ev HA0 3 rfl
   have oe4 := ev HA0 4 rfl
   refine QSeq.pure rfl _ (fun E => ex_move rfl (E.y 8 oe3)) ?_
   refine QSeq.pure rfl (.pointer (some ⟨w.heap.size, 2, none⟩)) (fun E => ex_field rfl Try.underlying60 rfl (by kernel_rfl) (E.v oe1)) ?_
   refine QSeq.pure rfl _ (fun E => ex_load1 rfl Try.underlying56 rfl (E.d 1 0) (Cs.lit1 HKL1_3.out rfl)) ?_
   refine QSeq.pure rfl _ (fun E => ex_move rfl (E.v oe4)) ?_
   refine QSeq.pure rfl (.pointer (some ⟨g1, o1 + k1 * 6, none⟩)) (fun E => ex_idxS (i := k1) (s := 6) rfl Try.underlying56 (by kernel_rfl) (E.d 2 1) (E.d 3 0) hlt1) ?_
   refine QSeq.pure rfl _ (fun E => ex_loadA rfl Try.underlying55 rfl (off := o1 + k1 * 6) (cs := cs1) (by rw [HCL1.out]; kernel_rfl) (E.d 4 0) (fun j u hu => (HAT1.out).2 j u hu)) ?_
   refine QSeq.call rfl rfl Try.func22 (RefPm_Q _ _ (x.ps[k1]) _ HRD1.out (by intro k h1; have hb := HBT.out k h1; omega) HBE1.out) (fun E => args1 (E.d 5 0)) ?_
   rintro e u5_6 ⟨v_a4, rfl, qa4, hm⟩
   obtain ⟨ao_a4, cap_a4, rfl⟩ := qa4.shape
   refine ⟨_, rfl, ?_⟩
   have Hx25 := hid qa4
   have zu5_6 := hm.size
   have Cx26 := hid (show Mod (fun _ => False) wl1 u5_6 from hm)
   clear hm
   clear qa4
   refine QSeq.go fun act E => ?_
   refine qc_appR rfl (wanted_none rfl) rfl (E.d 0 6) (E.d 6 0) (HAL1.out.mod Cx26.out (fun _ _ h => h)) Hx25.out.rd HB1'.out ?_
   intro ao14 cap14 u5_7 qjoin1 hm
   have Hx27 := hid (qjoin1.widen (R' := (fun k => (New w1 wl1 k) ∨ (New u5_6 u5_7 k))) (fun _ h => h) (Nat.le_refl _))
   have zu5_7 := hm.size
   have HMu5_7 := hid hm
   have Cx28 := hid (Mod.goS (S' := (fun k => (New w1 wl1 k))) Cx26.out hm (fun _ h => h.elim) (by intro k h0 h2; exact h2))
   clear hm Cx26
   clear act E qjoin1 HAL1
   refine QSeq.pure rfl _ (fun E => ex_assign rfl (E.d 7 0)) ?_
   have Hx29 := hid (Hx25.out.mod HMu5_7.out (by intro k h1 h2; omega))
   clear Hx25 HMu5_7
   refine QSeq.nil (t' := [_, _, _, _, _, _, _, _, _]) rfl ?_
   obtain rfl := HA0.out
   clear HA0 oe1 oe3 oe4
   simp only [pz, Act.put, List.setIfInBounds_toArray, List.set_cons_zero, List.set_cons_succ]
   have hq := Hx27.out
   rw [HE1.out] at hq
   have HQ1 := Lib.hid hq
   clear hq
   go_wp2
   go_roundw
   case rel => exact ⟨k1 + 1, by go_num, by omega, by omega, (HQ1.out.widen (by intro b h1; omega) (Nat.le_refl _)), (HKL1_0.out.mod Cx28.out (sN HBT)), (HKL1_1.out.mod Cx28.out (sN HBT)), (HKL1_2.out.mod Cx28.out (sN HBT)), (HKL1_3.out.mod Cx28.out (by intro h2; omega)), (HML1.out.trans Cx28.out (by intro k h1 h2; omega))⟩
   case measure => simp [intOf]; omega
  ·obtain rfl : k1 = x.ps.length := by omega
   have hq := HAL1.out
   rw [List.take_length] at hq
   have HAF1 := Lib.hid hq
   clear hq
   rw [List.take_length]
   go_upto_region 7 with (fail)
   refine wp_region_U 111 [35, 36, 37, 38, 39, 40, 3] [0, 1, 2, 3, 4, 5, 6] (fun a0 HA0 => ?_)
   have oe1 := ev HA0 1 rfl
   have oe3 := ev HA0 3 rfl
   refine QSeq.pure rfl _ (fun E => ex_move rfl (E.y 6 oe3)) ?_
   refine QSeq.pure rfl (.pointer (some ⟨w.heap.size, 3, none⟩)) (fun E => ex_field rfl Try.underlying60 rfl (by kernel_rfl) (E.v oe1)) ?_
   refine QSeq.pure rfl _ (fun E => ex_load1 rfl Try.underlying57 rfl (E.d 1 0) (Cs.lit1 HKL1_3.out rfl)) ?_
   refine QSeq.pure rfl (.int .i64 x.os.length) (fun E => ex_lenS rfl (E.d 2 0) Try.underlying57) ?_
   refine QSeq.call rfl rfl Try.func70 (RefInt_Q _ HI1.out _) (fun E => args1 (E.d 3 0)) ?_
   rintro e u7_4 ⟨v_a5, rfl, qa5, hm⟩
   obtain ⟨ao_a5, cap_a5, rfl⟩ := qa5.shape
   refine ⟨_, rfl, ?_⟩
   have Hx30 := hid qa5
   have zu7_4 := hm.size
   have Cx31 := hid (show Mod (fun _ => False) wl1 u7_4 from hm)
   clear hm
   clear qa5
   refine QSeq.go fun act E => ?_
   refine qc_appR rfl (wanted_none rfl) rfl (E.d 0 4) (E.d 4 0) (HAF1.out.mod Cx31.out (fun _ _ h => h)) Hx30.out.rd (by have := HL.out; simp only [listB, List.length_append] at this ⊢; omega) ?_
   intro ao14 cap14 u7_5 qjoin1 hm
   have Hx32 := hid (qjoin1.widen (R' := (fun k => (New w1 wl1 k) ∨ (New u7_4 u7_5 k))) (fun _ h => h) (Nat.le_refl _))
   have zu7_5 := hm.size
   have HMu7_5 := hid hm
   have Cx33 := hid (Mod.goS (S' := (fun k => (New w1 wl1 k))) Cx31.out hm (fun _ h => h.elim) (by intro k h0 h2; exact h2))
   clear hm Cx31
   clear act E qjoin1 HAF1
   refine QSeq.pure rfl _ (fun E => ex_assign rfl (E.d 5 0)) ?_
   have Hx34 := hid (Hx30.out.mod HMu7_5.out (by intro k h1 h2; omega))
   clear Hx30 HMu7_5
   refine QSeq.nil (t' := [_, _, _, _, _, _, _]) rfl ?_
   obtain rfl := HA0.out
   clear HA0 oe1 oe3
   simp only [pz, Act.put, List.setIfInBounds_toArray, List.set_cons_zero, List.set_cons_succ]
   go_upto_region 8 with (fail)
   refine wp_region_U 111 [41, 42, 43, 44] [0, 1, 2, 3] (fun a0 HA0 => ?_)
   have oe1 := ev HA0 1 rfl
   refine QSeq.pure rfl (.pointer (some ⟨w.heap.size, 3, none⟩)) (fun E => ex_field rfl Try.underlying60 rfl (by kernel_rfl) (E.v oe1)) ?_
   refine QSeq.pure rfl _ (fun E => ex_load1 rfl Try.underlying57 rfl (E.d 0 0) (Cs.lit1 (HKL1_3.out.mod Cx33.out (by intro h2; omega)) rfl)) ?_
   refine QSeq.pure rfl (.int .i64 x.os.length) (fun E => ex_lenS rfl (E.d 1 0) Try.underlying57) ?_
   refine QSeq.pure rfl (.int .i64 0) (fun E => ex_move rfl rfl) ?_
   refine QSeq.nil (t' := [_, _, _, _]) rfl ?_
   obtain rfl := HA0.out
   clear HA0 oe1
   simp only [pz, Act.put, List.setIfInBounds_toArray, List.set_cons_zero, List.set_cons_succ]
   go_wp2
   go_loopw [3, 44] (fun ta ti wr => ∃ k : Nat, ti = .int .i64 (k : Int) ∧ k ≤ x.os.length ∧ u7_5.heap.size ≤ wr.heap.size ∧ OwR (fun b => w1.heap.size ≤ b ∧ b < wr.heap.size) 900000 wr ta ((((encI x.ep ++ (encN x.tm ++ encI x.ps.length)) ++ (x.ps.map pmB).flatten) ++ encI x.os.length) ++ ((x.os.take k).map opB).flatten) ∧ RdS PmR R2 wr (.slice ao_sl_ps x.ps.length cap_sl_ps) x.ps ∧ RdS OpR R2 wr (.slice ao_sl_os x.os.length cap_sl_os) x.os ∧ RdS TbR R2 wr (.slice ao_sl_ts x.ts.length cap_sl_ts) x.ts ∧ Cs wr (w.heap.size) (x.cells (.slice ao_sl_ps x.ps.length cap_sl_ps) (.slice ao_sl_os x.os.length cap_sl_os) (.slice ao_sl_ts x.ts.length cap_sl_ts) : List Value).toArray 60 ∧ Mod (fun _ => False) w wr) (fun _ ti _ => x.os.length - (intOf ti).toNat)
   case atStart => exact ⟨0, rfl, Nat.zero_le _, Nat.le_refl _, by have hq := (Hx32.out.widen (R' := (fun b => w1.heap.size ≤ b ∧ b < u7_5.heap.size)) (by intro k h1; omega) (Nat.le_refl _)); simpa only [List.take_zero, List.map_nil, List.flatten_nil, List.append_nil, List.append_assoc] using hq, (HKL1_0.out.mod Cx33.out (sN HBT)), (HKL1_1.out.mod Cx33.out (sN HBT)), (HKL1_2.out.mod Cx33.out (sN HBT)), (HKL1_3.out.mod Cx33.out (by intro h2; omega)), (HML1.out.trans Cx33.out (by intro k h1 h2; omega))⟩
   case round =>
    obtain ⟨k2, rfl, hk, hz, ha, hk_0, hk_1, hk_2, hk_3, hm⟩ := hrel
    obtain ⟨wl2, rfl⟩ : ∃ x, x = wr := ⟨_, rfl⟩
    obtain ⟨aol2, capl2, rfl⟩ := ha.shape
    have HAL2 := Lib.hid ha
    have HKL2_0 := Lib.hid hk_0
    have HKL2_1 := Lib.hid hk_1
    have HKL2_2 := Lib.hid hk_2
    have HKL2_3 := Lib.hid hk_3
    have HML2 := Lib.hid hm
    clear ha hm hk_0 hk_1 hk_2 hk_3 HKL1_0 HKL1_1 HKL1_2 HKL1_3 HML1 Hx32 Hx34
    by_cases hlt2 : k2 < x.os.length
    ·skip
     have hat := HKL2_1.out.at hlt2
     obtain ⟨g2, o2, cs2, eao, hrg, hrd, hcs⟩ := hat
     subst eao
     have hcl : cs2.length = 34 := OpR.len hrd
     have HCL2 := Lib.hid hcl
     have HAT2 := hid (show CellsAt R2 wl2 g2 (o2 + k2 * 34) cs2 from ⟨hrg, hcs⟩)
     have HRD2 := Lib.hid hrd
     clear hcl hcs hrd hrg
     have HE2 : Hid (((((encI x.ep ++ (encN x.tm ++ encI x.ps.length)) ++ (x.ps.map pmB).flatten) ++ encI x.os.length) ++ ((x.os.take k2).map opB).flatten) ++ opB x.os[k2] = (((encI x.ep ++ (encN x.tm ++ encI x.ps.length)) ++ (x.ps.map pmB).flatten) ++ encI x.os.length) ++ ((x.os.take (k2 + 1)).map opB).flatten) := hid (by rw [List.take_succ_eq_append_getElem hlt2, List.map_append, List.flatten_append]; simp [List.append_assoc])
     have HB2' := hid (show (((((encI x.ep ++ (encN x.tm ++ encI x.ps.length)) ++ (x.ps.map pmB).flatten) ++ encI x.os.length) ++ ((x.os.take k2).map opB).flatten) ++ opB x.os[k2]).length ≤ 900000 by rw [HE2.out]; exact acc_len _ _ _ _ (by have := HL.out; simp only [listB, List.length_append] at this ⊢; omega))
     have HBE2 := hid (show (opB x.os[k2]).length ≤ 900000 by have := HB2'.out; simp only [List.length_append] at this ⊢; omega)
     go_upto_region 10 with (fail)
     refine wp_region_U 111 [46, 5] [0, 1] (fun a0 HA0 => ?_)
     have oe44 := ev HA0 44 rfl
     refine QSeq.pure rfl _ (fun E => ex_move rfl (E.v oe44)) ?_
     refine QSeq.pure rfl _ (fun E => ex_assign rfl (E.d 0 0)) ?_
     refine QSeq.nil (t' := [_, _]) rfl ?_
     obtain rfl := HA0.out
     clear HA0 oe44
     simp only [pz, Act.put, List.setIfInBounds_toArray, List.set_cons_zero, List.set_cons_succ]
     go_upto_region 11 with (fail)
     refine wp_region_U 111 [47, 48, 49, 50, 51, 52, 53, 54, 3] [0, 1, 2, 3, 4, 5, 6, 7, 8] (fun a0 HA0 => ?_)
     have oe1 := ev HA0 1 rfl
     have oe3 := ev HA0 3 rfl
     have oe5 := ev HA0 5 rfl
     refine QSeq.pure rfl _ (fun E => ex_move rfl (E.y 8 oe3)) ?_
     refine QSeq.pure rfl (.pointer (some ⟨w.heap.size, 3, none⟩)) (fun E => ex_field rfl Try.underlying60 rfl (by kernel_rfl) (E.v oe1)) ?_
     refine QSeq.pure rfl _ (fun E => ex_load1 rfl Try.underlying57 rfl (E.d 1 0) (Cs.lit1 HKL2_3.out rfl)) ?_
     refine QSeq.pure rfl _ (fun E => ex_move rfl (E.v oe5)) ?_
     refine QSeq.pure rfl (.pointer (some ⟨g2, o2 + k2 * 34, none⟩)) (fun E => ex_idxS (i := k2) (s := 34) rfl Try.underlying57 (by kernel_rfl) (E.d 2 1) (E.d 3 0) hlt2) ?_
     refine QSeq.pure rfl _ (fun E => ex_loadA rfl Try.underlying87 rfl (off := o2 + k2 * 34) (cs := cs2) (by rw [HCL2.out]; kernel_rfl) (E.d 4 0) (fun j u hu => (HAT2.out).2 j u hu)) ?_
     refine QSeq.call rfl rfl Try.func76 (RefOp_Q _ _ (x.os[k2]) _ HRD2.out (by intro k h1; have hb := HBT.out k h1; omega) HBE2.out) (fun E => args1 (E.d 5 0)) ?_
     rintro e u11_6 ⟨v_a6, rfl, qa6, hm⟩
     obtain ⟨ao_a6, cap_a6, rfl⟩ := qa6.shape
     refine ⟨_, rfl, ?_⟩
     have Hx35 := hid qa6
     have zu11_6 := hm.size
     have Cx36 := hid (show Mod (fun _ => False) wl2 u11_6 from hm)
     clear hm
     clear qa6
     refine QSeq.go fun act E => ?_
     refine qc_appR rfl (wanted_none rfl) rfl (E.d 0 6) (E.d 6 0) (HAL2.out.mod Cx36.out (fun _ _ h => h)) Hx35.out.rd HB2'.out ?_
     intro ao17 cap17 u11_7 qjoin1 hm
     have Hx37 := hid (qjoin1.widen (R' := (fun k => (New w1 wl2 k) ∨ (New u11_6 u11_7 k))) (fun _ h => h) (Nat.le_refl _))
     have zu11_7 := hm.size
     have HMu11_7 := hid hm
     have Cx38 := hid (Mod.goS (S' := (fun k => (New w1 wl2 k))) Cx36.out hm (fun _ h => h.elim) (by intro k h0 h2; exact h2))
     clear hm Cx36
     clear act E qjoin1 HAL2
     refine QSeq.pure rfl _ (fun E => ex_assign rfl (E.d 7 0)) ?_
     have Hx39 := hid (Hx35.out.mod HMu11_7.out (by intro k h1 h2; omega))
     clear Hx35 HMu11_7
     refine QSeq.nil (t' := [_, _, _, _, _, _, _, _, _]) rfl ?_
     obtain rfl := HA0.out
     clear HA0 oe1 oe3 oe5
     simp only [pz, Act.put, List.setIfInBounds_toArray, List.set_cons_zero, List.set_cons_succ]
     have hq := Hx37.out
     rw [HE2.out] at hq
     have HQ2 := Lib.hid hq
     clear hq
     go_wp2
     go_roundw
     case rel => exact ⟨k2 + 1, by go_num, by omega, by omega, (HQ2.out.widen (by intro b h1; omega) (Nat.le_refl _)), (HKL2_0.out.mod Cx38.out (sN HBT)), (HKL2_1.out.mod Cx38.out (sN HBT)), (HKL2_2.out.mod Cx38.out (sN HBT)), (HKL2_3.out.mod Cx38.out (by intro h2; omega)), (HML2.out.trans Cx38.out (by intro k h1 h2; omega))⟩
     case measure => simp [intOf]; omega
    ·obtain rfl : k2 = x.os.length := by omega
     have hq := HAL2.out
     rw [List.take_length] at hq
     have HAF2 := Lib.hid hq
     clear hq
     rw [List.take_length]
     go_upto_region 13 with (fail)
     refine wp_region_U 111 [56, 57, 58, 59, 60, 61, 3] [0, 1, 2, 3, 4, 5, 6] (fun a0 HA0 => ?_)
     have oe1 := ev HA0 1 rfl
     have oe3 := ev HA0 3 rfl
     refine QSeq.pure rfl _ (fun E => ex_move rfl (E.y 6 oe3)) ?_
     refine QSeq.pure rfl (.pointer (some ⟨w.heap.size, 4, none⟩)) (fun E => ex_field rfl Try.underlying60 rfl (by kernel_rfl) (E.v oe1)) ?_
     refine QSeq.pure rfl _ (fun E => ex_load1 rfl Try.underlying58 rfl (E.d 1 0) (Cs.lit1 HKL2_3.out rfl)) ?_
     refine QSeq.pure rfl (.int .i64 x.ts.length) (fun E => ex_lenS rfl (E.d 2 0) Try.underlying58) ?_
     refine QSeq.call rfl rfl Try.func70 (RefInt_Q _ HI2.out _) (fun E => args1 (E.d 3 0)) ?_
     rintro e u13_4 ⟨v_a7, rfl, qa7, hm⟩
     obtain ⟨ao_a7, cap_a7, rfl⟩ := qa7.shape
     refine ⟨_, rfl, ?_⟩
     have Hx40 := hid qa7
     have zu13_4 := hm.size
     have Cx41 := hid (show Mod (fun _ => False) wl2 u13_4 from hm)
     clear hm
     clear qa7
     refine QSeq.go fun act E => ?_
     refine qc_appR rfl (wanted_none rfl) rfl (E.d 0 4) (E.d 4 0) (HAF2.out.mod Cx41.out (fun _ _ h => h)) Hx40.out.rd (by have := HL.out; simp only [listB, List.length_append] at this ⊢; omega) ?_
     intro ao17 cap17 u13_5 qjoin1 hm
     have Hx42 := hid (qjoin1.widen (R' := (fun k => (New w1 wl2 k) ∨ (New u13_4 u13_5 k))) (fun _ h => h) (Nat.le_refl _))
     have zu13_5 := hm.size
     have HMu13_5 := hid hm
     have Cx43 := hid (Mod.goS (S' := (fun k => (New w1 wl2 k))) Cx41.out hm (fun _ h => h.elim) (by intro k h0 h2; exact h2))
     clear hm Cx41
     clear act E qjoin1 HAF2
     refine QSeq.pure rfl _ (fun E => ex_assign rfl (E.d 5 0)) ?_
     have Hx44 := hid (Hx40.out.mod HMu13_5.out (by intro k h1 h2; omega))
     clear Hx40 HMu13_5
     refine QSeq.nil (t' := [_, _, _, _, _, _, _]) rfl ?_
     obtain rfl := HA0.out
     clear HA0 oe1 oe3
     simp only [pz, Act.put, List.setIfInBounds_toArray, List.set_cons_zero, List.set_cons_succ]
     go_upto_region 14 with (fail)
     refine wp_region_U 111 [62, 63, 64, 65] [0, 1, 2, 3] (fun a0 HA0 => ?_)
     have oe1 := ev HA0 1 rfl
     refine QSeq.pure rfl (.pointer (some ⟨w.heap.size, 4, none⟩)) (fun E => ex_field rfl Try.underlying60 rfl (by kernel_rfl) (E.v oe1)) ?_
     refine QSeq.pure rfl _ (fun E => ex_load1 rfl Try.underlying58 rfl (E.d 0 0) (Cs.lit1 (HKL2_3.out.mod Cx43.out (by intro h2; omega)) rfl)) ?_
     refine QSeq.pure rfl (.int .i64 x.ts.length) (fun E => ex_lenS rfl (E.d 1 0) Try.underlying58) ?_
     refine QSeq.pure rfl (.int .i64 0) (fun E => ex_move rfl rfl) ?_
     refine QSeq.nil (t' := [_, _, _, _]) rfl ?_
     obtain rfl := HA0.out
     clear HA0 oe1
     simp only [pz, Act.put, List.setIfInBounds_toArray, List.set_cons_zero, List.set_cons_succ]
     go_wp2
     go_loopw [3, 65] (fun ta ti wr => ∃ k : Nat, ti = .int .i64 (k : Int) ∧ k ≤ x.ts.length ∧ u13_5.heap.size ≤ wr.heap.size ∧ OwR (fun b => w1.heap.size ≤ b ∧ b < wr.heap.size) 900000 wr ta ((((((encI x.ep ++ (encN x.tm ++ encI x.ps.length)) ++ (x.ps.map pmB).flatten) ++ encI x.os.length) ++ (x.os.map opB).flatten) ++ encI x.ts.length) ++ ((x.ts.take k).map tbB).flatten) ∧ RdS PmR R2 wr (.slice ao_sl_ps x.ps.length cap_sl_ps) x.ps ∧ RdS OpR R2 wr (.slice ao_sl_os x.os.length cap_sl_os) x.os ∧ RdS TbR R2 wr (.slice ao_sl_ts x.ts.length cap_sl_ts) x.ts ∧ Cs wr (w.heap.size) (x.cells (.slice ao_sl_ps x.ps.length cap_sl_ps) (.slice ao_sl_os x.os.length cap_sl_os) (.slice ao_sl_ts x.ts.length cap_sl_ts) : List Value).toArray 60 ∧ Mod (fun _ => False) w wr) (fun _ ti _ => x.ts.length - (intOf ti).toNat)
     case atStart => exact ⟨0, rfl, Nat.zero_le _, Nat.le_refl _, by have hq := (Hx42.out.widen (R' := (fun b => w1.heap.size ≤ b ∧ b < u13_5.heap.size)) (by intro k h1; omega) (Nat.le_refl _)); simpa only [List.take_zero, List.map_nil, List.flatten_nil, List.append_nil, List.append_assoc] using hq, (HKL2_0.out.mod Cx43.out (sN HBT)), (HKL2_1.out.mod Cx43.out (sN HBT)), (HKL2_2.out.mod Cx43.out (sN HBT)), (HKL2_3.out.mod Cx43.out (by intro h2; omega)), (HML2.out.trans Cx43.out (by intro k h1 h2; omega))⟩
     case round =>
      obtain ⟨k3, rfl, hk, hz, ha, hk_0, hk_1, hk_2, hk_3, hm⟩ := hrel
      obtain ⟨wl3, rfl⟩ : ∃ x, x = wr := ⟨_, rfl⟩
      obtain ⟨aol3, capl3, rfl⟩ := ha.shape
      have HAL3 := Lib.hid ha
      have HKL3_0 := Lib.hid hk_0
      have HKL3_1 := Lib.hid hk_1
      have HKL3_2 := Lib.hid hk_2
      have HKL3_3 := Lib.hid hk_3
      have HML3 := Lib.hid hm
      clear ha hm hk_0 hk_1 hk_2 hk_3 HKL2_0 HKL2_1 HKL2_2 HKL2_3 HML2 Hx42 Hx44
      by_cases hlt3 : k3 < x.ts.length
      ·skip
       have hat := HKL3_2.out.at hlt3
       obtain ⟨g3, o3, cs3, eao, hrg, hrd, hcs⟩ := hat
       subst eao
       have hcl : cs3.length = 2 := TbR.len hrd
       have HCL3 := Lib.hid hcl
       have HAT3 := hid (show CellsAt R2 wl3 g3 (o3 + k3 * 2) cs3 from ⟨hrg, hcs⟩)
       have HRD3 := Lib.hid hrd
       clear hcl hcs hrd hrg
       obtain ⟨y3, hy3⟩ : ∃ y, y = x.ts[k3] := ⟨_, rfl⟩
       rw [← hy3] at HRD3
       have HE3 : Hid (((((((encI x.ep ++ (encN x.tm ++ encI x.ps.length)) ++ (x.ps.map pmB).flatten) ++ encI x.os.length) ++ (x.os.map opB).flatten) ++ encI x.ts.length) ++ ((x.ts.take k3).map tbB).flatten) ++ tbB x.ts[k3] = (((((encI x.ep ++ (encN x.tm ++ encI x.ps.length)) ++ (x.ps.map pmB).flatten) ++ encI x.os.length) ++ (x.os.map opB).flatten) ++ encI x.ts.length) ++ ((x.ts.take (k3 + 1)).map tbB).flatten) := hid (by rw [List.take_succ_eq_append_getElem hlt3, List.map_append, List.flatten_append]; simp [List.append_assoc])
       have HB3' := hid (show (((((((encI x.ep ++ (encN x.tm ++ encI x.ps.length)) ++ (x.ps.map pmB).flatten) ++ encI x.os.length) ++ (x.os.map opB).flatten) ++ encI x.ts.length) ++ ((x.ts.take k3).map tbB).flatten) ++ tbB x.ts[k3]).length ≤ 900000 by rw [HE3.out]; exact acc_len _ _ _ _ (by have := HL.out; simp only [listB, tbB, List.length_append] at this ⊢; omega))
       have HBE3 := hid (show (tbB x.ts[k3]).length ≤ 900000 by have := HB3'.out; simp only [List.length_append] at this ⊢; omega)
       go_upto_region 16 with (fail)
       refine wp_region_U 111 [67, 6] [0, 1] (fun a0 HA0 => ?_)
       have oe65 := ev HA0 65 rfl
       refine QSeq.pure rfl _ (fun E => ex_move rfl (E.v oe65)) ?_
       refine QSeq.pure rfl _ (fun E => ex_assign rfl (E.d 0 0)) ?_
       refine QSeq.nil (t' := [_, _]) rfl ?_
       obtain rfl := HA0.out
       clear HA0 oe65
       simp only [pz, Act.put, List.setIfInBounds_toArray, List.set_cons_zero, List.set_cons_succ]
       rw [← hy3] at HE3 HB3' HBE3
       clear hy3
       obtain ⟨v_t, rfl, htk, hts⟩ := HRD3.out
       obtain ⟨aot, cat, rfl⟩ := hts.shape
       have htb : y3.l.length ≤ maxLen := hts.bd
       rw [maxLen_val] at htb
       have HTI := hid (show I64 (y3.l.length : Int) by unfold I64; omega)
       have HTK := Lib.hid htk
       have HTS := Lib.hid hts
       clear hts htk HRD3
       go_upto_region 17 with (fail)
       generalize ha0 : Act.mk _ _ = a0
       have oe1 : a0.eval (.tmp 1) = .pointer (some ⟨w.heap.size, 0, none⟩) := by rw [← ha0]; rfl
       have oe3 : a0.eval (.tmp 3) = .slice aol3 (((((((encI x.ep ++ (encN x.tm ++ encI x.ps.length)) ++ (x.ps.map pmB).flatten) ++ encI x.os.length) ++ (x.os.map opB).flatten) ++ encI x.ts.length) ++ ((x.ts.take k3).map tbB).flatten).length) capl3 := by rw [← ha0]; rfl
       have oe6 : a0.eval (.tmp 6) = .int .i64 ((k3 : Nat) : Int) := by rw [← ha0]; rfl
       have hsz0 : a0.tmps.size = 111 := by rw [← ha0]; rfl
       have HA0 := hid ha0
       clear ha0
       refine wp_region_Q0 111 hsz0 [68, 69, 70, 71, 72, 73, 74, 75, 76, 77, 78, 79, 80, 81, 82, 83, 84, 85, 3] [qi (.slice aol3 (((((((encI x.ep ++ (encN x.tm ++ encI x.ps.length)) ++ (x.ps.map pmB).flatten) ++ encI x.os.length) ++ (x.os.map opB).flatten) ++ encI x.ts.length) ++ ((x.ts.take k3).map tbB).flatten).length) capl3), qi (.pointer (some ⟨w.heap.size, 4, none⟩)), qi (.slice (some ⟨g3, o3, none⟩) x.ts.length cap_sl_ts), qi (.int .i64 ((k3 : Nat) : Int)), qi (.pointer (some ⟨g3, o3 + k3 * 2, none⟩)), qi (.pointer (some ⟨g3, o3 + k3 * 2, none⟩)), qi (.int .i64 y3.ix), qv 0, qi (.pointer (some ⟨w.heap.size, 4, none⟩)), qi (.slice (some ⟨g3, o3, none⟩) x.ts.length cap_sl_ts), qi (.int .i64 ((k3 : Nat) : Int)), qi (.pointer (some ⟨g3, o3 + k3 * 2, none⟩)), qi (.pointer (some ⟨g3, o3 + k3 * 2 + 1, none⟩)), qi (.slice aot y3.l.length cat), qi (.int .i64 y3.l.length), qv 1, qv 2, qv 3, qv 3] ⟨qi_stable, qi_stable, qi_stable, qi_stable, qi_stable, qi_stable, qi_stable, qv_stable, qi_stable, qi_stable, qi_stable, qi_stable, qi_stable, qi_stable, qi_stable, qv_stable, qv_stable, qv_stable, qv_stable, trivial⟩ [7, 15, 16, 17] ⟨?_, ?_, ?_, ?_, ?_, ?_, ?_, ?_, ?_, ?_, ?_, ?_, ?_, ?_, ?_, ?_, ?_, ?_, ?_, trivial⟩ ?_
       ·exact stq (fun E => ex_move rfl ((E.pre 18 3 rfl (by kernel_rfl)).trans oe3))
       ·exact stq (fun E => ex_field rfl Try.underlying60 rfl (by kernel_rfl) (E.v oe1))
       ·exact stq (fun E => ex_load1 rfl Try.underlying58 rfl (E.d 1) (Cs.lit1 (HKL3_3.out.mod E.m.old (by intro h2; omega)) rfl))
       ·exact stq (fun E => ex_move rfl (E.v oe6))
       ·exact stq (fun E => ex_idxS (i := k3) (s := 2) rfl Try.underlying58 (by kernel_rfl) (E.d 2) (E.d 3) hlt3)
       ·exact stq (fun E => ex_field rfl Try.underlying90 rfl (by kernel_rfl) (E.d 4))
       ·exact stq (fun E => ex_load1 rfl Try.underlying3 rfl (E.d 5) (((HAT3.out.mod E.m.old (by intro k h1 h2; have hb := HBT.out k h1; omega))).2 0 _ rfl))
       ·exact stepq_chain rfl
       ·exact stq (fun E => ex_field rfl Try.underlying60 rfl (by kernel_rfl) (E.v oe1))
       ·exact stq (fun E => ex_load1 rfl Try.underlying58 rfl (E.d 8) (Cs.lit1 (HKL3_3.out.mod E.m.old (by intro h2; omega)) rfl))
       ·exact stq (fun E => ex_move rfl (E.v oe6))
       ·exact stq (fun E => ex_idxS (i := k3) (s := 2) rfl Try.underlying58 (by kernel_rfl) (E.d 9) (E.d 10) hlt3)
       ·exact stq (fun E => ex_field rfl Try.underlying90 rfl (by kernel_rfl) (E.d 11))
       ·exact stq (fun E => ex_load1 rfl Try.underlying88 rfl (E.d 12) (((HAT3.out.mod E.m.old (by intro k h1 h2; have hb := HBT.out k h1; omega))).2 1 _ rfl))
       ·exact stq (fun E => ex_lenS rfl (E.d 13) Try.underlying88)
       ·exact stepq_chain rfl
       ·exact stepq_chain rfl
       ·exact stepq_chain rfl
       ·refine stepq_env rfl rfl rfl fun _ _ _ _ _ _ _ _ _ hd _ _ => ?_
        have h17 := hd ⟨17, .data⟩ (by simp) rfl _ rfl
        exact qe_run rfl (wanted_none rfl) (ex_assign rfl rfl) QE.refl h17
       intro u17_0 hr
       have zu17_0 := hr.size
       have Cx45 := hid (hr.new (S := (fun _ => False)))
       clear hr
       refine QChain.go fun Z act E => ?_
       refine qc_callF (args := #[.int .i64 y3.ix]) rfl (wanted_none rfl) rfl Try.func70 (args1 (E.d 6)) (RefInt_Q _ HTK.out _) ?_
       rintro e u17_1a ⟨v_a8, rfl, qa8, hm⟩
       obtain ⟨ao_a8, cap_a8, rfl⟩ := qa8.shape
       have zu17_1a := hm.size
       refine ⟨_, rfl, hm.mono (fun _ _ h => h.elim), (fun _ => rfl), ?_⟩
       intro u17_1 hr
       have zu17_1 := hr.size
       have Hx46 := hid ((qa8.widen (R' := (fun k => (New u17_0 u17_1a k))) (fun _ h => h) (Nat.le_refl _)).mod hr (by intro k h1 h2; omega))
       have Cx47 := hid (Cx45.out.go hm hr)
       clear Cx45 hm hr Z act E qa8
       refine QChain.go fun Z act E => ?_
       refine qc_callF (args := #[.int .i64 y3.l.length]) rfl (wanted_none rfl) rfl Try.func70 (args1 (E.d 14)) (RefInt_Q _ HTI.out _) ?_
       rintro e u17_2a ⟨v_a9, rfl, qa9, hm⟩
       obtain ⟨ao_a9, cap_a9, rfl⟩ := qa9.shape
       have zu17_2a := hm.size
       refine ⟨_, rfl, hm.mono (fun _ _ h => h.elim), (fun _ => rfl), ?_⟩
       intro u17_2 hr
       have zu17_2 := hr.size
       have Hx48 := hid ((qa9.widen (R' := (fun k => (New u17_1 u17_2a k))) (fun _ h => h) (Nat.le_refl _)).mod hr (by intro k h1 h2; omega))
       have hmr := Mod.after hm hr
       have Hx49 := hid (Hx46.out.mod hmr (by intro k h1 h2; omega))
       clear Hx46
       clear hmr
       have Cx50 := hid (Cx47.out.go hm hr)
       clear Cx47 hm hr Z act E qa9
       refine QChain.go fun Z act E => ?_
       have ea68 : act.eval (.tmp 68) = .slice aol3 (((((((encI x.ep ++ (encN x.tm ++ encI x.ps.length)) ++ (x.ps.map pmB).flatten) ++ encI x.os.length) ++ (x.os.map opB).flatten) ++ encI x.ts.length) ++ ((x.ts.take k3).map tbB).flatten).length) capl3 := (E.d 0)
       have ea75 : act.eval (.tmp 75) = .slice ao_a8 ((encI y3.ix).length) cap_a8 := (chv (v := .slice ao_a8 ((encI y3.ix).length) cap_a8) (E.d 7))
       have ea83 : act.eval (.tmp 83) = .slice ao_a9 ((encI y3.l.length).length) cap_a9 := (chv (v := .slice ao_a9 ((encI y3.l.length).length) cap_a9) (E.d 15))
       refine qc_rows rfl (wanted_none rfl) rfl Try.underlying144 (by decide) (C := #[.slice aol3 (((((((encI x.ep ++ (encN x.tm ++ encI x.ps.length)) ++ (x.ps.map pmB).flatten) ++ encI x.os.length) ++ (x.os.map opB).flatten) ++ encI x.ts.length) ++ ((x.ts.take k3).map tbB).flatten).length) capl3, .slice ao_a8 ((encI y3.ix).length) cap_a8, .slice ao_a9 ((encI y3.l.length).length) cap_a9]) (by simp only [List.map_toArray, List.map_cons, List.map_nil, ea68, ea75, ea83]; kernel_rfl) ?_
       intro u17_3a qrow16 hm
       have zl17_16 := qrow16.lt
       have zu17_3a := hm.size
       refine ⟨hm.mono (fun _ _ h => h.elim), (fun _ => rfl), ?_⟩
       intro u17_3 hr
       have zu17_3 := hr.size
       have Hx51 := hid (qrow16.mod hr (by intro h2; omega))
       have hmr := Mod.after hm hr
       have Hx52 := hid (Hx49.out.mod hmr (by intro k h1 h2; omega))
       have Hx53 := hid (Hx48.out.mod hmr (by intro k h1 h2; omega))
       clear Hx49 Hx48
       clear hmr
       have Cx54 := hid (Cx50.out.go hm hr)
       clear Cx50 hm hr Z act E qrow16 ea68 ea75 ea83
       refine QChain.go fun Z act E => ?_
       refine qc_callF (args := #[.slice (some ⟨u17_2.heap.size, 0, none⟩) 3 3]) rfl (wanted_none rfl) rfl Try.func68 (args1 (chv (v := .slice (some ⟨u17_2.heap.size, 0, none⟩) 3 3) (E.d 16))) (Join_Q (n := 3)  Hx51.out [(.slice aol3 (((((((encI x.ep ++ (encN x.tm ++ encI x.ps.length)) ++ (x.ps.map pmB).flatten) ++ encI x.os.length) ++ (x.os.map opB).flatten) ++ encI x.ts.length) ++ ((x.ts.take k3).map tbB).flatten).length) capl3, ((((((encI x.ep ++ (encN x.tm ++ encI x.ps.length)) ++ (x.ps.map pmB).flatten) ++ encI x.os.length) ++ (x.os.map opB).flatten) ++ encI x.ts.length) ++ ((x.ts.take k3).map tbB).flatten)), (.slice ao_a8 ((encI y3.ix).length) cap_a8, encI y3.ix), (.slice ao_a9 ((encI y3.l.length).length) cap_a9, encI y3.l.length)] rfl rfl (by intro p hp; simp only [List.mem_cons, List.not_mem_nil, or_false] at hp; rcases hp with rfl | rfl | rfl <;> first | exact (HAL3.out.mod Cx54.out (fun _ _ h => h)).rd.1 | exact Hx52.out.rd.1 | exact Hx53.out.rd.1) (by simp) (show flat _ = (((((((encI x.ep ++ (encN x.tm ++ encI x.ps.length)) ++ (x.ps.map pmB).flatten) ++ encI x.os.length) ++ (x.os.map opB).flatten) ++ encI x.ts.length) ++ ((x.ts.take k3).map tbB).flatten)) ++ (encI y3.ix ++ encI y3.l.length) from by simp only [flat, List.map_cons, List.map_nil, List.flatten_cons, List.flatten_nil, List.append_nil]) (by have := HB3'.out; simp only [tbB, listB, List.length_append] at this ⊢; omega)) ?_
       rintro e u17_4a ⟨v_join2, rfl, qjoin2, hm⟩
       have zu17_4a := hm.size
       refine ⟨_, rfl, hm.mono (fun _ _ h => h.elim), (fun _ => rfl), ?_⟩
       intro u17_4 hr
       have zu17_4 := hr.size
       have Hx55 := hid ((qjoin2.widen (R' := (fun k => (New u17_3 u17_4a k))) (fun _ h => h) (Nat.le_refl _)).mod hr (by intro k h1 h2; omega))
       have hmr := Mod.after hm hr
       have Hx56 := hid (Hx52.out.mod hmr (by intro k h1 h2; omega))
       have Hx57 := hid (Hx53.out.mod hmr (by intro k h1 h2; omega))
       have Hx58 := hid (Hx51.out.mod hmr (by intro h2; omega))
       clear Hx52 Hx53 Hx51
       clear hmr
       have Cx59 := hid (Cx54.out.go hm hr)
       clear Cx54 hm hr Z act E qjoin2
       refine QChain.nil fun vs hl hzz hrows hne => ?_
       obtain ⟨Z, hYZ, hZb, hV⟩ := hzz
       have f0 := fvi hV hl 0
       have f3 := fvi hV hl 3
       have f7 := fvc hV hl 7
       have f10 := fvi hV hl 10
       have f14 := fvi hV hl 14
       have f15 := fvc hV hl 15
       have f16 := fvc hV hl 16
       have f17 := fvc hV hl 17
       have f18 := fvc hV hl 18
       rw [show vs = [gw vs 0, gw vs 1, gw vs 2, gw vs 3, gw vs 4, gw vs 5, gw vs 6, gw vs 7, gw vs 8, gw vs 9, gw vs 10, gw vs 11, gw vs 12, gw vs 13, gw vs 14, gw vs 15, gw vs 16, gw vs 17, gw vs 18] from (gw_eta hl).trans rfl]
       have ha0 := HA0.out
       subst ha0
       clear HA0 hV hYZ hZb hsz0 hrows hne oe1 oe3 oe6
       simp only [putAll, Act.put, List.setIfInBounds_toArray, List.set_cons_zero, List.set_cons_succ, f0, f3, f7, f10, f14, f15, f16, f17, f18]
       clear hl f0 f3 f7 f10 f14 f15 f16 f17 f18
       go_upto_region 18 with (fail)
       refine wp_region_U 111 [86, 87, 88, 89, 90, 91, 92, 93] [0, 1, 2, 3, 4, 5, 6, 7] (fun a0 HA0 => ?_)
       have oe1 := ev HA0 1 rfl
       have oe6 := ev HA0 6 rfl
       refine QSeq.pure rfl (.pointer (some ⟨w.heap.size, 4, none⟩)) (fun E => ex_field rfl Try.underlying60 rfl (by kernel_rfl) (E.v oe1)) ?_
       refine QSeq.pure rfl _ (fun E => ex_load1 rfl Try.underlying58 rfl (E.d 0 0) (Cs.lit1 (HKL3_3.out.mod Cx59.out (fun h => h)) rfl)) ?_
       refine QSeq.pure rfl _ (fun E => ex_move rfl (E.v oe6)) ?_
       refine QSeq.pure rfl (.pointer (some ⟨g3, o3 + k3 * 2, none⟩)) (fun E => ex_idxS (i := k3) (s := 2) rfl Try.underlying58 (by kernel_rfl) (E.d 1 1) (E.d 2 0) hlt3) ?_
       refine QSeq.pure rfl (.pointer (some ⟨g3, o3 + k3 * 2 + 1, none⟩)) (fun E => ex_field rfl Try.underlying90 rfl (by kernel_rfl) (E.d 3 0)) ?_
       refine QSeq.pure rfl (.slice aot y3.l.length cat) (fun E => ex_load1 rfl Try.underlying88 rfl (E.d 4 0) (((HAT3.out.mod Cx59.out (fun _ _ h => h))).2 1 _ rfl)) ?_
       refine QSeq.pure rfl (.int .i64 y3.l.length) (fun E => ex_lenS rfl (E.d 5 0) Try.underlying88) ?_
       refine QSeq.pure rfl (.int .i64 0) (fun E => ex_move rfl rfl) ?_
       refine QSeq.nil (t' := [_, _, _, _, _, _, _, _]) rfl ?_
       obtain rfl := HA0.out
       clear HA0 oe1 oe6
       simp only [pz, Act.put, List.setIfInBounds_toArray, List.set_cons_zero, List.set_cons_succ]
       go_wp2
       go_loopw [3, 93] (fun ta ti wr => ∃ k : Nat, ti = .int .i64 (k : Int) ∧ k ≤ y3.l.length ∧ u17_4.heap.size ≤ wr.heap.size ∧ OwR (fun b => w1.heap.size ≤ b ∧ b < wr.heap.size) 900000 wr ta ((((((((encI x.ep ++ (encN x.tm ++ encI x.ps.length)) ++ (x.ps.map pmB).flatten) ++ encI x.os.length) ++ (x.os.map opB).flatten) ++ encI x.ts.length) ++ ((x.ts.take k3).map tbB).flatten) ++ (encI y3.ix ++ encI y3.l.length)) ++ ((y3.l.take k).map dnB).flatten) ∧ RdS PmR R2 wr (.slice ao_sl_ps x.ps.length cap_sl_ps) x.ps ∧ RdS OpR R2 wr (.slice ao_sl_os x.os.length cap_sl_os) x.os ∧ RdS TbR R2 wr (.slice (some ⟨g3, o3, none⟩) x.ts.length cap_sl_ts) x.ts ∧ Cs wr (w.heap.size) (x.cells (.slice ao_sl_ps x.ps.length cap_sl_ps) (.slice ao_sl_os x.os.length cap_sl_os) (.slice (some ⟨g3, o3, none⟩) x.ts.length cap_sl_ts) : List Value).toArray 60 ∧ CellsAt R2 wr g3 (o3 + k3 * 2) (y3.cells (.slice aot y3.l.length cat)) ∧ RdS DnR R2 wr (.slice aot y3.l.length cat) y3.l ∧ Mod (fun _ => False) w wr) (fun _ ti _ => y3.l.length - (intOf ti).toNat)
       case atStart => exact ⟨0, rfl, Nat.zero_le _, Nat.le_refl _, by have hq := (Hx55.out.widen (R' := (fun b => w1.heap.size ≤ b ∧ b < u17_4.heap.size)) (by intro k h1; omega) (Nat.le_refl _)); simpa only [List.take_zero, List.map_nil, List.flatten_nil, List.append_nil, List.append_assoc] using hq, (HKL3_0.out.mod Cx59.out (fun _ _ h => h)), (HKL3_1.out.mod Cx59.out (fun _ _ h => h)), (HKL3_2.out.mod Cx59.out (fun _ _ h => h)), (HKL3_3.out.mod Cx59.out (fun h => h)), (HAT3.out.mod Cx59.out (fun _ _ h => h)), (HTS.out.mod Cx59.out (fun _ _ h => h)), (HML3.out.trans Cx59.out (fun _ _ h => h.elim))⟩
       case round =>
        obtain ⟨k4, rfl, hk, hz, ha, hk_0, hk_1, hk_2, hk_3, hk_4, hk_5, hm⟩ := hrel
        obtain ⟨wl4, rfl⟩ : ∃ x, x = wr := ⟨_, rfl⟩
        obtain ⟨aol4, capl4, rfl⟩ := ha.shape
        have HAL4 := Lib.hid ha
        have HKL4_0 := Lib.hid hk_0
        have HKL4_1 := Lib.hid hk_1
        have HKL4_2 := Lib.hid hk_2
        have HKL4_3 := Lib.hid hk_3
        have HKL4_4 := Lib.hid hk_4
        have HKL4_5 := Lib.hid hk_5
        have HML4 := Lib.hid hm
        clear ha hm hk_0 hk_1 hk_2 hk_3 hk_4 hk_5 HKL3_0 HKL3_1 HKL3_2 HKL3_3 HML3 HAL3 HAT3 HTS Hx56 Hx57 Hx58 Hx55
        by_cases hlt4 : k4 < y3.l.length
        ·skip
         have hat := HKL4_5.out.at hlt4
         obtain ⟨g4, o4, cs4, eao, hrg, hrd, hcs⟩ := hat
         subst eao
         have hcl : cs4.length = 4 := DnR.len hrd
         have HCL4 := Lib.hid hcl
         have HAT4 := hid (show CellsAt R2 wl4 g4 (o4 + k4 * 4) cs4 from ⟨hrg, hcs⟩)
         have HRD4 := Lib.hid hrd
         clear hcl hcs hrd hrg
         have HE4 : Hid (((((((((encI x.ep ++ (encN x.tm ++ encI x.ps.length)) ++ (x.ps.map pmB).flatten) ++ encI x.os.length) ++ (x.os.map opB).flatten) ++ encI x.ts.length) ++ ((x.ts.take k3).map tbB).flatten) ++ (encI y3.ix ++ encI y3.l.length)) ++ ((y3.l.take k4).map dnB).flatten) ++ dnB y3.l[k4] = (((((((encI x.ep ++ (encN x.tm ++ encI x.ps.length)) ++ (x.ps.map pmB).flatten) ++ encI x.os.length) ++ (x.os.map opB).flatten) ++ encI x.ts.length) ++ ((x.ts.take k3).map tbB).flatten) ++ (encI y3.ix ++ encI y3.l.length)) ++ ((y3.l.take (k4 + 1)).map dnB).flatten) := hid (by rw [List.take_succ_eq_append_getElem hlt4, List.map_append, List.flatten_append]; simp [List.append_assoc])
         have HB4' := hid (show (((((((((encI x.ep ++ (encN x.tm ++ encI x.ps.length)) ++ (x.ps.map pmB).flatten) ++ encI x.os.length) ++ (x.os.map opB).flatten) ++ encI x.ts.length) ++ ((x.ts.take k3).map tbB).flatten) ++ (encI y3.ix ++ encI y3.l.length)) ++ ((y3.l.take k4).map dnB).flatten) ++ dnB y3.l[k4]).length ≤ 900000 by rw [HE4.out]; exact acc_len _ _ _ _ (by have := HB3'.out; simp only [listB, tbB, List.length_append] at this ⊢; omega))
         have HBE4 := hid (show (dnB y3.l[k4]).length ≤ 900000 by have := HB4'.out; simp only [List.length_append] at this ⊢; omega)
         go_upto_region 20 with (fail)
         refine wp_region_U 111 [95, 7] [0, 1] (fun a0 HA0 => ?_)
         have oe93 := ev HA0 93 rfl
         refine QSeq.pure rfl _ (fun E => ex_move rfl (E.v oe93)) ?_
         refine QSeq.pure rfl _ (fun E => ex_assign rfl (E.d 0 0)) ?_
         refine QSeq.nil (t' := [_, _]) rfl ?_
         obtain rfl := HA0.out
         clear HA0 oe93
         simp only [pz, Act.put, List.setIfInBounds_toArray, List.set_cons_zero, List.set_cons_succ]
         go_upto_region 21 with (fail)
         refine wp_region_U 111 [96, 97, 98, 99, 100, 101, 102, 103, 104, 105, 106, 107, 3] [0, 1, 2, 3, 4, 5, 6, 7, 8, 9, 10, 11, 12] (fun a0 HA0 => ?_)
         have oe1 := ev HA0 1 rfl
         have oe3 := ev HA0 3 rfl
         have oe6 := ev HA0 6 rfl
         have oe7 := ev HA0 7 rfl
         refine QSeq.pure rfl _ (fun E => ex_move rfl (E.y 12 oe3)) ?_
         refine QSeq.pure rfl (.pointer (some ⟨w.heap.size, 4, none⟩)) (fun E => ex_field rfl Try.underlying60 rfl (by kernel_rfl) (E.v oe1)) ?_
         refine QSeq.pure rfl _ (fun E => ex_load1 rfl Try.underlying58 rfl (E.d 1 0) (Cs.lit1 HKL4_3.out rfl)) ?_
         refine QSeq.pure rfl _ (fun E => ex_move rfl (E.v oe6)) ?_
         refine QSeq.pure rfl (.pointer (some ⟨g3, o3 + k3 * 2, none⟩)) (fun E => ex_idxS (i := k3) (s := 2) rfl Try.underlying58 (by kernel_rfl) (E.d 2 1) (E.d 3 0) hlt3) ?_
         refine QSeq.pure rfl (.pointer (some ⟨g3, o3 + k3 * 2 + 1, none⟩)) (fun E => ex_field rfl Try.underlying90 rfl (by kernel_rfl) (E.d 4 0)) ?_
         refine QSeq.pure rfl (.slice (some ⟨g4, o4, none⟩) y3.l.length cat) (fun E => ex_load1 rfl Try.underlying88 rfl (E.d 5 0) ((HKL4_4.out).2 1 _ rfl)) ?_
         refine QSeq.pure rfl _ (fun E => ex_move rfl (E.v oe7)) ?_
         refine QSeq.pure rfl (.pointer (some ⟨g4, o4 + k4 * 4, none⟩)) (fun E => ex_idxS (i := k4) (s := 4) rfl Try.underlying88 (by kernel_rfl) (E.d 6 1) (E.d 7 0) hlt4) ?_
         refine QSeq.pure rfl _ (fun E => ex_loadA rfl Try.underlying34 rfl (off := o4 + k4 * 4) (cs := cs4) (by rw [HCL4.out]; kernel_rfl) (E.d 8 0) (fun j u hu => (HAT4.out).2 j u hu)) ?_
         refine QSeq.call rfl rfl Try.func77 (RefDn_Q _ _ (y3.l[k4]) _ HRD4.out (by intro k h1; have hb := HBT.out k h1; omega) HBE4.out) (fun E => args1 (E.d 9 0)) ?_
         rintro e u21_10 ⟨v_a10, rfl, qa10, hm⟩
         obtain ⟨ao_a10, cap_a10, rfl⟩ := qa10.shape
         refine ⟨_, rfl, ?_⟩
         have Hx60 := hid qa10
         have zu21_10 := hm.size
         have Cx61 := hid (show Mod (fun _ => False) wl4 u21_10 from hm)
         clear hm
         clear qa10
         refine QSeq.go fun act E => ?_
         refine qc_appR rfl (wanted_none rfl) rfl (E.d 0 10) (E.d 10 0) (HAL4.out.mod Cx61.out (fun _ _ h => h)) Hx60.out.rd HB4'.out ?_
         intro ao30 cap30 u21_11 qjoin2 hm
         have Hx62 := hid (qjoin2.widen (R' := (fun k => (New w1 wl4 k) ∨ (New u21_10 u21_11 k))) (fun _ h => h) (Nat.le_refl _))
         have zu21_11 := hm.size
         have HMu21_11 := hid hm
         have Cx63 := hid (Mod.goS (S' := (fun k => (New w1 wl4 k))) Cx61.out hm (fun _ h => h.elim) (by intro k h0 h2; exact h2))
         clear hm Cx61
         clear act E qjoin2 HAL4
         refine QSeq.pure rfl _ (fun E => ex_assign rfl (E.d 11 0)) ?_
         have Hx64 := hid (Hx60.out.mod HMu21_11.out (by intro k h1 h2; omega))
         clear Hx60 HMu21_11
         refine QSeq.nil (t' := [_, _, _, _, _, _, _, _, _, _, _, _, _]) rfl ?_
         obtain rfl := HA0.out
         clear HA0 oe1 oe3 oe6 oe7
         simp only [pz, Act.put, List.setIfInBounds_toArray, List.set_cons_zero, List.set_cons_succ]
         have hq := Hx62.out
         rw [HE4.out] at hq
         have HQ4 := Lib.hid hq
         clear hq
         go_wp2
         go_roundw
         case rel => exact ⟨k4 + 1, by go_num, by omega, by omega, (HQ4.out.widen (by intro b h1; omega) (Nat.le_refl _)), (HKL4_0.out.mod Cx63.out (sN HBT)), (HKL4_1.out.mod Cx63.out (sN HBT)), (HKL4_2.out.mod Cx63.out (sN HBT)), (HKL4_3.out.mod Cx63.out (by intro h2; omega)), (HKL4_4.out.mod Cx63.out (sN HBT)), (HKL4_5.out.mod Cx63.out (sN HBT)), (HML4.out.trans Cx63.out (by intro k h1 h2; omega))⟩
         case measure => simp [intOf]; omega
        ·obtain rfl : k4 = y3.l.length := by omega
         have hq := HAL4.out
         rw [List.take_length] at hq
         have HAF4 := Lib.hid hq
         clear hq
         rw [List.take_length]
         have hq := HAF4.out
         have hb : (((((((encI x.ep ++ (encN x.tm ++ encI x.ps.length)) ++ (x.ps.map pmB).flatten) ++ encI x.os.length) ++ (x.os.map opB).flatten) ++ encI x.ts.length) ++ ((x.ts.take k3).map tbB).flatten) ++ (encI y3.ix ++ encI y3.l.length)) ++ (y3.l.map dnB).flatten = ((((((encI x.ep ++ (encN x.tm ++ encI x.ps.length)) ++ (x.ps.map pmB).flatten) ++ encI x.os.length) ++ (x.os.map opB).flatten) ++ encI x.ts.length) ++ ((x.ts.take k3).map tbB).flatten) ++ tbB y3 := by simp only [tbB, listB, List.append_assoc]
         rw [hb] at hq
         have HQB := Lib.hid hq
         clear hq
         rw [hb, HE3.out]
         have hq := HQB.out
         rw [HE3.out] at hq
         have HQ3 := Lib.hid hq
         clear hq
         go_wp2
         go_roundw
         case rel => exact ⟨k3 + 1, by go_num, by omega, by omega, (HQ3.out.widen (by intro b h1; omega) (Nat.le_refl _)), HKL4_0.out, HKL4_1.out, HKL4_2.out, HKL4_3.out, HML4.out⟩
         case measure => simp [intOf]; omega
      ·obtain rfl : k3 = x.ts.length := by omega
       have hq := HAL3.out
       rw [List.take_length] at hq
       have HAF3 := Lib.hid hq
       clear hq
       rw [List.take_length]
       go_wp2
       go_ret
       have hq := (HAF3.out.widen (R' := (fun k => New w wl3 k)) (by intro k h1; omega) (Nat.le_refl _))
       have hb : ((((((encI x.ep ++ (encN x.tm ++ encI x.ps.length)) ++ (x.ps.map pmB).flatten) ++ encI x.os.length) ++ (x.os.map opB).flatten) ++ encI x.ts.length) ++ (x.ts.map tbB).flatten) = baB x := by simp only [baB, listB, List.append_assoc]
       rw [hb] at hq
       try rw [hb]
       exact ⟨_, rfl, hq, HML3.out⟩
end Go.Proofs.Ytknpapcfhnhheaa

/- gavellaw02.wakes; bytes.Compare; sha.Less. -/
namespace Go.Proofs.Ytknpapcfhnhheaa
open Go Go.RowKit Go.Gv

end Go.Proofs.Ytknpapcfhnhheaa

/- gavelref01.turn; gavelref01.Sum: the same plain sum. -/
namespace Go.Proofs.Ytknpapcfhnhheaa
open Go Go.RowKit Go.Gv

theorem bits_or_comm (k : IntKind) (a b : Int) : bits .or k a b = bits .or k b a := by
 simp only [bits, BitVec.or_comm]
theorem TN_7 (x : Int) (w : World) : Calls Try.prog 138 #[wv x, .int .u64 7] w fun e w' => e = .returned (wv (rr 7 x)) ∧ w = w' := by
 have hr : rr 7 x = bits .or .u32 (x / 128) (IntKind.u32.wrap (x * 33554432)) := by rw [bits_or_comm]; rfl
 have HR := Lib.hid hr
 clear hr
 go_enter Try.func138, Try.ntmps138
 go_wp2
 go_ret
 exact ⟨ret_int (by rw [HR.out]; rfl), rfl⟩
theorem TN_18 (x : Int) (w : World) : Calls Try.prog 138 #[wv x, .int .u64 18] w fun e w' => e = .returned (wv (rr 18 x)) ∧ w = w' := by
 have hr : rr 18 x = bits .or .u32 (x / 262144) (IntKind.u32.wrap (x * 16384)) := by rw [bits_or_comm]; rfl
 have HR := Lib.hid hr
 clear hr
 go_enter Try.func138, Try.ntmps138
 go_wp2
 go_ret
 exact ⟨ret_int (by rw [HR.out]; rfl), rfl⟩
theorem TN_17 (x : Int) (w : World) : Calls Try.prog 138 #[wv x, .int .u64 17] w fun e w' => e = .returned (wv (rr 17 x)) ∧ w = w' := by
 have hr : rr 17 x = bits .or .u32 (x / 131072) (IntKind.u32.wrap (x * 32768)) := by rw [bits_or_comm]; rfl
 have HR := Lib.hid hr
 clear hr
 go_enter Try.func138, Try.ntmps138
 go_wp2
 go_ret
 exact ⟨ret_int (by rw [HR.out]; rfl), rfl⟩
theorem TN_19 (x : Int) (w : World) : Calls Try.prog 138 #[wv x, .int .u64 19] w fun e w' => e = .returned (wv (rr 19 x)) ∧ w = w' := by
 have hr : rr 19 x = bits .or .u32 (x / 524288) (IntKind.u32.wrap (x * 8192)) := by rw [bits_or_comm]; rfl
 have HR := Lib.hid hr
 clear hr
 go_enter Try.func138, Try.ntmps138
 go_wp2
 go_ret
 exact ⟨ret_int (by rw [HR.out]; rfl), rfl⟩
theorem TN_6 (x : Int) (w : World) : Calls Try.prog 138 #[wv x, .int .u64 6] w fun e w' => e = .returned (wv (rr 6 x)) ∧ w = w' := by
 have hr : rr 6 x = bits .or .u32 (x / 64) (IntKind.u32.wrap (x * 67108864)) := by rw [bits_or_comm]; rfl
 have HR := Lib.hid hr
 clear hr
 go_enter Try.func138, Try.ntmps138
 go_wp2
 go_ret
 exact ⟨ret_int (by rw [HR.out]; rfl), rfl⟩
theorem TN_11 (x : Int) (w : World) : Calls Try.prog 138 #[wv x, .int .u64 11] w fun e w' => e = .returned (wv (rr 11 x)) ∧ w = w' := by
 have hr : rr 11 x = bits .or .u32 (x / 2048) (IntKind.u32.wrap (x * 2097152)) := by rw [bits_or_comm]; rfl
 have HR := Lib.hid hr
 clear hr
 go_enter Try.func138, Try.ntmps138
 go_wp2
 go_ret
 exact ⟨ret_int (by rw [HR.out]; rfl), rfl⟩
theorem TN_25 (x : Int) (w : World) : Calls Try.prog 138 #[wv x, .int .u64 25] w fun e w' => e = .returned (wv (rr 25 x)) ∧ w = w' := by
 have hr : rr 25 x = bits .or .u32 (x / 33554432) (IntKind.u32.wrap (x * 128)) := by rw [bits_or_comm]; rfl
 have HR := Lib.hid hr
 clear hr
 go_enter Try.func138, Try.ntmps138
 go_wp2
 go_ret
 exact ⟨ret_int (by rw [HR.out]; rfl), rfl⟩
theorem TN_2 (x : Int) (w : World) : Calls Try.prog 138 #[wv x, .int .u64 2] w fun e w' => e = .returned (wv (rr 2 x)) ∧ w = w' := by
 have hr : rr 2 x = bits .or .u32 (x / 4) (IntKind.u32.wrap (x * 1073741824)) := by rw [bits_or_comm]; rfl
 have HR := Lib.hid hr
 clear hr
 go_enter Try.func138, Try.ntmps138
 go_wp2
 go_ret
 exact ⟨ret_int (by rw [HR.out]; rfl), rfl⟩
theorem TN_13 (x : Int) (w : World) : Calls Try.prog 138 #[wv x, .int .u64 13] w fun e w' => e = .returned (wv (rr 13 x)) ∧ w = w' := by
 have hr : rr 13 x = bits .or .u32 (x / 8192) (IntKind.u32.wrap (x * 524288)) := by rw [bits_or_comm]; rfl
 have HR := Lib.hid hr
 clear hr
 go_enter Try.func138, Try.ntmps138
 go_wp2
 go_ret
 exact ⟨ret_int (by rw [HR.out]; rfl), rfl⟩
theorem TN_22 (x : Int) (w : World) : Calls Try.prog 138 #[wv x, .int .u64 22] w fun e w' => e = .returned (wv (rr 22 x)) ∧ w = w' := by
 have hr : rr 22 x = bits .or .u32 (x / 4194304) (IntKind.u32.wrap (x * 1024)) := by rw [bits_or_comm]; rfl
 have HR := Lib.hid hr
 clear hr
 go_enter Try.func138, Try.ntmps138
 go_wp2
 go_ret
 exact ⟨ret_int (by rw [HR.out]; rfl), rfl⟩
end Go.Proofs.Ytknpapcfhnhheaa

/- As XVal3; besides: a slot that an operation reads ahead of the one that writes it. No program here. -/
namespace Go.Gv
open Go Go.RowKit

section
variable {P : Program} {ops : Array Oper} {Q : Exit → Act → World → Prop}
end
end Go.Gv
