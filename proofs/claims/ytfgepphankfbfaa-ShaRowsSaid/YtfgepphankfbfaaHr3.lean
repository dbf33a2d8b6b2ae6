/- ShaRows: rows hang on how many there are, and where one ends: for every list of rows and every number the law returns true. No condition. -/
import Derived.Test.YtfgepphankfbfaaHr2
import Derived.ProofKit
import Derived.OpenShut
import Derived.ChangeOld
/- gavellaw02.rowOf. -/
set_option maxRecDepth 100000
set_option linter.unusedVariables false
namespace Go.Proofs.Ytfgepphankfbfaa
open Go Go.RowKit Go.Gv

theorem u8_in {x : Int} (h : 0 ≤ x ∧ x < 256) : IntKind.u8.wrap x = x := by
  have := IntWalk.u8_in x (by omega)
  exact this
set_option maxHeartbeats 2000000 in
theorem rowOf_Q {R : Nat → Prop} {N : Nat} {w : World} {v : Value} {bs : List Int} (h : RdR R N w v bs) (hl : bs.length ≤ 200) :
    Calls Try.prog 37 #[v] w fun e w' => ∃ v', e = .returned v' ∧ OwR (New w w') 900000 w' v' (encN bs.length ++ bs) ∧ Mod (fun _ => False) w w' := by
  obtain ⟨ao, cap, rfl⟩ := h.shape
  have HS := hid (show RdR (fun k => k < w.heap.size) 200 w (.slice ao bs.length cap) bs from ⟨h.1, (fun h0 k hk => h.1.block_lt h0 k hk), hl⟩)
  have HL := Lib.hid hl
  clear h hl
  go_enter Try.func37, Try.ntmps37
  go_upto_region 1 with (fail)
  have HM0 := hid (Mod.refl (fun _ => False) w)
  rcases Nat.lt_or_ge bs.length 128 with hlt | hge
  · skip
    go_upto_region 1 with (fail)
    generalize ha0 : Act.mk _ _ = a0
    have oe0 : a0.eval (.tmp 0) = .slice ao bs.length cap := by rw [← ha0]; rfl
    have hsz0 : a0.tmps.size = 24 := by rw [← ha0]; rfl
    have HA0 := hid ha0
    clear ha0
    refine wp_region_Q0 24 hsz0 [4, 5, 6, 7, 3] [qi (.slice ao bs.length cap), qi (.int .i64 bs.length), qi (.int .u8 ((bs.length : Nat) : Int)), qv 0, qv 0] ⟨qi_stable, qi_stable, qi_stable, qv_stable, qv_stable, trivial⟩ [3] ⟨?_, ?_, ?_, ?_, ?_, trivial⟩ ?_
    · exact stq (fun E => ex_move rfl (E.v oe0))
    · exact stq (fun E => ex_lenS rfl (E.d 0) Try.underlying22)
    · exact stq (fun E => ex_convIE rfl (by kernel_rfl) Try.underlying5 (E.d 1) (u8_in (by have := HL.out; omega)))
    · exact stepq_chain rfl
    · refine stepq_env rfl rfl rfl fun _ _ _ _ _ _ _ _ _ hd _ _ => ?_
      have h3 := hd ⟨3, .data⟩ (by simp) rfl _ rfl
      exact qe_run rfl (wanted_none rfl) (ex_assign rfl rfl) QE.refl h3
    intro u1_0 hr
    have zu1_0 := hr.size
    have Cx1 := hid (hr.new (S := (fun _ => False)))
    clear hr
    refine QChain.go fun Z act E => ?_
    have ea6 : act.eval (.tmp 6) = .int .u8 ((bs.length : Nat) : Int) := (E.d 2)
    refine qc_bytes rfl (wanted_none rfl) rfl Try.underlying22 (by kernel_rfl) (by decide) (C := #[.int .u8 ((bs.length : Nat) : Int)]) (by simp only [List.map_toArray, List.map_cons, List.map_nil, ea6]; kernel_rfl) ?_
    intro u1_1a qr0 hm
    have qt1 := own_litR (bs := [((bs.length : Nat) : Int)]) (n := 1) (N := 900000) qr0 rfl (by intro b hb; simp only [List.mem_cons, List.not_mem_nil, or_false] at hb; subst hb; have := HL.out; omega) rfl (by decide) hm
    clear qr0 ea6
    have zu1_1a := hm.size
    refine ⟨hm.mono (fun _ _ h => h.elim), (fun _ => rfl), ?_⟩
    intro u1_1 hr
    have zu1_1 := hr.size
    have Hx2 := hid (qt1.mod hr (by intro k h1 h2; omega))
    have Cx3 := hid (Cx1.out.go hm hr)
    clear Cx1 hm hr Z act E qt1
    refine QChain.nil fun vs hl hzz hrows hne => ?_
    obtain ⟨Z, hYZ, hZb, hV⟩ := hzz
    have f0 := fvi hV hl 0
    have f1 := fvi hV hl 1
    have f3 := fvc hV hl 3
    have f4 := fvc hV hl 4
    rw [show vs = [gw vs 0, gw vs 1, gw vs 2, gw vs 3, gw vs 4] from (gw_eta hl).trans rfl]
    have ha0 := HA0.out
    subst ha0
    clear HA0 hV hYZ hZb hsz0 hrows hne oe0
    simp only [putAll, Act.put, List.setIfInBounds_toArray, List.set_cons_zero, List.set_cons_succ, f0, f1, f3, f4]
    clear hl f0 f1 f3 f4
    go_upto_region 2 with (fail)
    generalize ha0 : Act.mk _ _ = a0
    have oe0 : a0.eval (.tmp 0) = .slice ao bs.length cap := by rw [← ha0]; rfl
    have hsz0 : a0.tmps.size = 24 := by rw [← ha0]; rfl
    have HA0 := hid ha0
    clear ha0
    refine wp_region_Q0 24 hsz0 [8, 9, 10] [qi (.slice ao bs.length cap), qi (.int .i64 bs.length), qi (.bool false)] ⟨qi_stable, qi_stable, qi_stable, trivial⟩ [] ⟨?_, ?_, ?_, trivial⟩ ?_
    · exact stq (fun E => ex_move rfl (E.v oe0))
    · exact stq (fun E => ex_lenS rfl (E.d 0) Try.underlying22)
    · exact stq (fun E => ex_binE rfl (E.d 1) rfl (guard_ints _ _ _ _ _ _) (run_gtr_i _ _ _ Try.underlying3) (congrArg Value.bool (decide_eq_false (by omega))))
    intro u2_0 hr
    have zu2_0 := hr.size
    have Cx4 := hid (hr.new (S := (fun _ => False)))
    clear hr
    refine QChain.nil fun vs hl hzz hrows hne => ?_
    obtain ⟨Z, hYZ, hZb, hV⟩ := hzz
    have f0 := fvi hV hl 0
    have f1 := fvi hV hl 1
    have f2 := fvi hV hl 2
    rw [show vs = [gw vs 0, gw vs 1, gw vs 2] from (gw_eta hl).trans rfl]
    have ha0 := HA0.out
    subst ha0
    clear HA0 hV hYZ hZb hsz0 hrows hne oe0
    simp only [putAll, Act.put, List.setIfInBounds_toArray, List.set_cons_zero, List.set_cons_succ, f0, f1, f2]
    clear hl f0 f1 f2
    go_upto_region 4 with (fail)
    generalize ha0 : Act.mk _ _ = a0
    have oe0 : a0.eval (.tmp 0) = .slice ao bs.length cap := by rw [← ha0]; rfl
    have oe3 : a0.eval (.tmp 3) = .slice (some ⟨u1_0.heap.size, 0, none⟩) 1 1 := by rw [← ha0]; rfl
    have hsz0 : a0.tmps.size = 24 := by rw [← ha0]; rfl
    have HA0 := hid ha0
    clear ha0
    refine wp_region_Q1 24 hsz0 [21, 22, 23, 2] (fun k => (New u1_0 u1_1a k)) (fun k j => (k = 0 ∧ ((New u1_0 u1_1a j)))) (fun _ _ h => h.2) [qi (.slice (some ⟨u1_0.heap.size, 0, none⟩) 1 1), qi (.slice ao bs.length cap), qv 0, qv 0] ⟨qi_stable, qi_stable, qv_stable, qv_stable, trivial⟩ [2] ⟨?_, ?_, ?_, ?_, trivial⟩ ?_
    · exact stq (fun E => ex_move rfl (E.v oe3))
    · exact stq (fun E => ex_move rfl (E.v oe0))
    · exact stepq_chain rfl
    · refine stepq_env rfl rfl rfl fun _ _ _ _ _ _ _ _ _ hd _ _ => ?_
      have h2 := hd ⟨2, .data⟩ (by simp) rfl _ rfl
      exact qe_run rfl (wanted_none rfl) (ex_assign rfl rfl) QE.refl h2
    intro u4_0 hr
    have zu4_0 := hr.size
    have Cx5 := hid (hr.new (S := (fun k => (New u1_0 u1_1a k))))
    have Hx6 := hid ((Hx2.out.mod Cx4.out (fun _ _ h => h)).mod hr (by intro k h1 h2; omega))
    clear Hx2
    clear hr
    refine QChain.go fun Z act E => ?_
    refine qc_appR rfl (wanted_none rfl) rfl (E.d 0) (E.d 1) Hx6.out (((HS.out.mod Cx3.out (fun _ _ h => h)).mod Cx4.out (fun _ _ h => h)).mod Cx5.out (by intro k h1 h2; omega)) (by have := HL.out; simp only [List.length_append, List.length_cons, List.length_nil]; omega) ?_
    intro ao5 cap5 u4_1a qt1 hm
    have zu4_1a := hm.size
    refine ⟨hm.mono (by intro k hk h; omega), (fun _ => rfl), ?_⟩
    intro u4_1 hr
    have zu4_1 := hr.size
    have Hx7 := hid ((qt1.widen (R' := (fun k => (New u1_0 u1_1a k) ∨ (New u4_0 u4_1a k))) (fun _ h => h) (Nat.le_refl _)).mod hr (by intro k h1 h2; omega))
    have Cx8 := hid (Cx5.out.goM hm hr (fun _ _ h => h))
    clear Cx5 hm hr Z act E qt1 Hx6
    refine QChain.nil fun vs hl hzz hrows hne => ?_
    obtain ⟨Z, hYZ, hZb, hV⟩ := hzz
    have f0 := fvi hV hl 0
    have f1 := fvi hV hl 1
    have f2 := fvc hV hl 2
    have f3 := fvc hV hl 3
    rw [show vs = [gw vs 0, gw vs 1, gw vs 2, gw vs 3] from (gw_eta hl).trans rfl]
    have ha0 := HA0.out
    subst ha0
    clear HA0 hV hYZ hZb hsz0 hrows hne oe0 oe3
    simp only [putAll, Act.put, List.setIfInBounds_toArray, List.set_cons_zero, List.set_cons_succ, f0, f1, f2, f3]
    clear hl f0 f1 f2 f3
    go_wp2
    go_ret
    have hq := (Hx7.out.widen (R' := (fun k => New w u4_1 k)) (by intro k h1; omega) (Nat.le_refl _))
    refine ⟨_, rfl, ?_, (((HM0.out.trans Cx3.out (fun _ _ h => h.elim)).trans Cx4.out (fun _ _ h => h.elim)).trans Cx8.out (by intro k h1 h2; omega))⟩
    rw [encN_lt hlt]
    exact hq
  · skip
    go_upto_region 1 with (fail)
    generalize ha0 : Act.mk _ _ = a0
    have oe0 : a0.eval (.tmp 0) = .slice ao bs.length cap := by rw [← ha0]; rfl
    have hsz0 : a0.tmps.size = 24 := by rw [← ha0]; rfl
    have HA0 := hid ha0
    clear ha0
    refine wp_region_Q0 24 hsz0 [4, 5, 6, 7, 3] [qi (.slice ao bs.length cap), qi (.int .i64 bs.length), qi (.int .u8 ((bs.length : Nat) : Int)), qv 0, qv 0] ⟨qi_stable, qi_stable, qi_stable, qv_stable, qv_stable, trivial⟩ [3] ⟨?_, ?_, ?_, ?_, ?_, trivial⟩ ?_
    · exact stq (fun E => ex_move rfl (E.v oe0))
    · exact stq (fun E => ex_lenS rfl (E.d 0) Try.underlying22)
    · exact stq (fun E => ex_convIE rfl (by kernel_rfl) Try.underlying5 (E.d 1) (u8_in (by have := HL.out; omega)))
    · exact stepq_chain rfl
    · refine stepq_env rfl rfl rfl fun _ _ _ _ _ _ _ _ _ hd _ _ => ?_
      have h3 := hd ⟨3, .data⟩ (by simp) rfl _ rfl
      exact qe_run rfl (wanted_none rfl) (ex_assign rfl rfl) QE.refl h3
    intro u1_0 hr
    have zu1_0 := hr.size
    have Cx1 := hid (hr.new (S := (fun _ => False)))
    clear hr
    refine QChain.go fun Z act E => ?_
    have ea6 : act.eval (.tmp 6) = .int .u8 ((bs.length : Nat) : Int) := (E.d 2)
    refine qc_bytes rfl (wanted_none rfl) rfl Try.underlying22 (by kernel_rfl) (by decide) (C := #[.int .u8 ((bs.length : Nat) : Int)]) (by simp only [List.map_toArray, List.map_cons, List.map_nil, ea6]; kernel_rfl) ?_
    intro u1_1a qr0 hm
    have qt1 := own_litR (bs := [((bs.length : Nat) : Int)]) (n := 1) (N := 900000) qr0 rfl (by intro b hb; simp only [List.mem_cons, List.not_mem_nil, or_false] at hb; subst hb; have := HL.out; omega) rfl (by decide) hm
    clear qr0 ea6
    have zu1_1a := hm.size
    refine ⟨hm.mono (fun _ _ h => h.elim), (fun _ => rfl), ?_⟩
    intro u1_1 hr
    have zu1_1 := hr.size
    have Hx2 := hid (qt1.mod hr (by intro k h1 h2; omega))
    have Cx3 := hid (Cx1.out.go hm hr)
    clear Cx1 hm hr Z act E qt1
    refine QChain.nil fun vs hl hzz hrows hne => ?_
    obtain ⟨Z, hYZ, hZb, hV⟩ := hzz
    have f0 := fvi hV hl 0
    have f1 := fvi hV hl 1
    have f3 := fvc hV hl 3
    have f4 := fvc hV hl 4
    rw [show vs = [gw vs 0, gw vs 1, gw vs 2, gw vs 3, gw vs 4] from (gw_eta hl).trans rfl]
    have ha0 := HA0.out
    subst ha0
    clear HA0 hV hYZ hZb hsz0 hrows hne oe0
    simp only [putAll, Act.put, List.setIfInBounds_toArray, List.set_cons_zero, List.set_cons_succ, f0, f1, f3, f4]
    clear hl f0 f1 f3 f4
    go_upto_region 2 with (fail)
    generalize ha0 : Act.mk _ _ = a0
    have oe0 : a0.eval (.tmp 0) = .slice ao bs.length cap := by rw [← ha0]; rfl
    have hsz0 : a0.tmps.size = 24 := by rw [← ha0]; rfl
    have HA0 := hid ha0
    clear ha0
    refine wp_region_Q0 24 hsz0 [8, 9, 10] [qi (.slice ao bs.length cap), qi (.int .i64 bs.length), qi (.bool true)] ⟨qi_stable, qi_stable, qi_stable, trivial⟩ [] ⟨?_, ?_, ?_, trivial⟩ ?_
    · exact stq (fun E => ex_move rfl (E.v oe0))
    · exact stq (fun E => ex_lenS rfl (E.d 0) Try.underlying22)
    · exact stq (fun E => ex_binE rfl (E.d 1) rfl (guard_ints _ _ _ _ _ _) (run_gtr_i _ _ _ Try.underlying3) (congrArg Value.bool (decide_eq_true (by omega))))
    intro u2_0 hr
    have zu2_0 := hr.size
    have Cx4 := hid (hr.new (S := (fun _ => False)))
    clear hr
    refine QChain.nil fun vs hl hzz hrows hne => ?_
    obtain ⟨Z, hYZ, hZb, hV⟩ := hzz
    have f0 := fvi hV hl 0
    have f1 := fvi hV hl 1
    have f2 := fvi hV hl 2
    rw [show vs = [gw vs 0, gw vs 1, gw vs 2] from (gw_eta hl).trans rfl]
    have ha0 := HA0.out
    subst ha0
    clear HA0 hV hYZ hZb hsz0 hrows hne oe0
    simp only [putAll, Act.put, List.setIfInBounds_toArray, List.set_cons_zero, List.set_cons_succ, f0, f1, f2]
    clear hl f0 f1 f2
    go_upto_region 3 with (fail)
    generalize ha0 : Act.mk _ _ = a0
    have oe0 : a0.eval (.tmp 0) = .slice ao bs.length cap := by rw [← ha0]; rfl
    have hsz0 : a0.tmps.size = 24 := by rw [← ha0]; rfl
    have HA0 := hid ha0
    clear ha0
    refine wp_region_Q0 24 hsz0 [11, 12, 13, 14, 15, 16, 17, 18, 19, 20, 3] [qi (.slice ao bs.length cap), qi (.int .i64 bs.length), qi (.int .i64 (((bs.length : Nat) : Int) % 128)), qi (.int .u8 (((bs.length : Nat) : Int) % 128)), qi (.int .u8 (((bs.length : Nat) : Int) % 128 + 128)), qi (.slice ao bs.length cap), qi (.int .i64 bs.length), qi (.int .i64 (((bs.length : Nat) : Int) / 128)), qi (.int .u8 (((bs.length : Nat) : Int) / 128)), qv 0, qv 0] ⟨qi_stable, qi_stable, qi_stable, qi_stable, qi_stable, qi_stable, qi_stable, qi_stable, qi_stable, qv_stable, qv_stable, trivial⟩ [9] ⟨?_, ?_, ?_, ?_, ?_, ?_, ?_, ?_, ?_, ?_, ?_, trivial⟩ ?_
    · exact stq (fun E => ex_move rfl (E.v oe0))
    · exact stq (fun E => ex_lenS rfl (E.d 0) Try.underlying22)
    · exact stq (fun E => ex_binE rfl (E.d 1) rfl (guard_ints _ _ _ _ _ _) (run_rem_i _ _ (by decide)) (congrArg (Value.int .i64) (Int.tmod_eq_emod_of_nonneg (by omega))))
    · exact stq (fun E => ex_convIE rfl (by kernel_rfl) Try.underlying5 (E.d 2) (u8_in (by omega)))
    · exact stq (fun E => ex_binE rfl (E.d 3) rfl (guard_ints _ _ _ _ _ _) (run_add_i _ _ Try.underlying5) (congrArg (Value.int .u8) (u8_in (by omega))))
    · exact stq (fun E => ex_move rfl (E.v oe0))
    · exact stq (fun E => ex_lenS rfl (E.d 5) Try.underlying22)
    · exact stq (fun E => ex_binE rfl (E.d 6) rfl (guard_ints _ _ _ _ _ _) (run_quo_i _ _ (by decide)) (congrArg (Value.int .i64) (show IntKind.i64.wrap (Int.tdiv _ _) = _ by rw [Int.tdiv_eq_ediv_of_nonneg (by omega), IntWalk.i64_in _ (by have := HL.out; omega)])))
    · exact stq (fun E => ex_convIE rfl (by kernel_rfl) Try.underlying5 (E.d 7) (u8_in (by have := HL.out; omega)))
    · exact stepq_chain rfl
    · refine stepq_env rfl rfl rfl fun _ _ _ _ _ _ _ _ _ hd _ _ => ?_
      have h9 := hd ⟨9, .data⟩ (by simp) rfl _ rfl
      exact qe_run rfl (wanted_none rfl) (ex_assign rfl rfl) QE.refl h9
    intro u3_0 hr
    have zu3_0 := hr.size
    have Cx5 := hid (hr.new (S := (fun _ => False)))
    clear hr
    refine QChain.go fun Z act E => ?_
    have ea15 : act.eval (.tmp 15) = .int .u8 (((bs.length : Nat) : Int) % 128 + 128) := (E.d 4)
    have ea19 : act.eval (.tmp 19) = .int .u8 (((bs.length : Nat) : Int) / 128) := (E.d 8)
    refine qc_bytes rfl (wanted_none rfl) rfl Try.underlying22 (by kernel_rfl) (by decide) (C := #[.int .u8 (((bs.length : Nat) : Int) % 128 + 128), .int .u8 (((bs.length : Nat) : Int) / 128)]) (by simp only [List.map_toArray, List.map_cons, List.map_nil, ea15, ea19]; kernel_rfl) ?_
    intro u3_1a qr0 hm
    have qt2 := own_litR (bs := [(((bs.length : Nat) : Int) % 128 + 128), (((bs.length : Nat) : Int) / 128)]) (n := 2) (N := 900000) qr0 rfl (by intro b hb; simp only [List.mem_cons, List.not_mem_nil, or_false] at hb; rcases hb with rfl | rfl <;> (have := HL.out; omega)) rfl (by decide) hm
    clear qr0 ea15 ea19
    have zu3_1a := hm.size
    refine ⟨hm.mono (fun _ _ h => h.elim), (fun _ => rfl), ?_⟩
    intro u3_1 hr
    have zu3_1 := hr.size
    have Hx6 := hid (qt2.mod hr (by intro k h1 h2; omega))
    have Cx7 := hid (Cx5.out.go hm hr)
    clear Cx5 hm hr Z act E qt2
    refine QChain.nil fun vs hl hzz hrows hne => ?_
    obtain ⟨Z, hYZ, hZb, hV⟩ := hzz
    have f0 := fvi hV hl 0
    have f1 := fvi hV hl 1
    have f5 := fvi hV hl 5
    have f6 := fvi hV hl 6
    have f9 := fvc hV hl 9
    have f10 := fvc hV hl 10
    rw [show vs = [gw vs 0, gw vs 1, gw vs 2, gw vs 3, gw vs 4, gw vs 5, gw vs 6, gw vs 7, gw vs 8, gw vs 9, gw vs 10] from (gw_eta hl).trans rfl]
    have ha0 := HA0.out
    subst ha0
    clear HA0 hV hYZ hZb hsz0 hrows hne oe0
    simp only [putAll, Act.put, List.setIfInBounds_toArray, List.set_cons_zero, List.set_cons_succ, f0, f1, f5, f6, f9, f10]
    clear hl f0 f1 f5 f6 f9 f10
    go_upto_region 4 with (fail)
    generalize ha0 : Act.mk _ _ = a0
    have oe0 : a0.eval (.tmp 0) = .slice ao bs.length cap := by rw [← ha0]; rfl
    have oe3 : a0.eval (.tmp 3) = .slice (some ⟨u3_0.heap.size, 0, none⟩) 2 2 := by rw [← ha0]; rfl
    have hsz0 : a0.tmps.size = 24 := by rw [← ha0]; rfl
    have HA0 := hid ha0
    clear ha0
    refine wp_region_Q1 24 hsz0 [21, 22, 23, 2] (fun k => (New u3_0 u3_1a k)) (fun k j => (k = 0 ∧ ((New u3_0 u3_1a j)))) (fun _ _ h => h.2) [qi (.slice (some ⟨u3_0.heap.size, 0, none⟩) 2 2), qi (.slice ao bs.length cap), qv 0, qv 0] ⟨qi_stable, qi_stable, qv_stable, qv_stable, trivial⟩ [2] ⟨?_, ?_, ?_, ?_, trivial⟩ ?_
    · exact stq (fun E => ex_move rfl (E.v oe3))
    · exact stq (fun E => ex_move rfl (E.v oe0))
    · exact stepq_chain rfl
    · refine stepq_env rfl rfl rfl fun _ _ _ _ _ _ _ _ _ hd _ _ => ?_
      have h2 := hd ⟨2, .data⟩ (by simp) rfl _ rfl
      exact qe_run rfl (wanted_none rfl) (ex_assign rfl rfl) QE.refl h2
    intro u4_0 hr
    have zu4_0 := hr.size
    have Cx8 := hid (hr.new (S := (fun k => (New u3_0 u3_1a k))))
    have Hx9 := hid (Hx6.out.mod hr (by intro k h1 h2; omega))
    clear Hx6
    clear hr
    refine QChain.go fun Z act E => ?_
    refine qc_appR rfl (wanted_none rfl) rfl (E.d 0) (E.d 1) Hx9.out ((((HS.out.mod Cx3.out (fun _ _ h => h)).mod Cx4.out (fun _ _ h => h)).mod Cx7.out (fun _ _ h => h)).mod Cx8.out (by intro k h1 h2; omega)) (by have := HL.out; simp only [List.length_append, List.length_cons, List.length_nil]; omega) ?_
    intro ao8 cap8 u4_1a qt2 hm
    have zu4_1a := hm.size
    refine ⟨hm.mono (by intro k hk h; omega), (fun _ => rfl), ?_⟩
    intro u4_1 hr
    have zu4_1 := hr.size
    have Hx10 := hid ((qt2.widen (R' := (fun k => (New u3_0 u3_1a k) ∨ (New u4_0 u4_1a k))) (fun _ h => h) (Nat.le_refl _)).mod hr (by intro k h1 h2; omega))
    have Cx11 := hid (Cx8.out.goM hm hr (fun _ _ h => h))
    clear Cx8 hm hr Z act E qt2 Hx9
    refine QChain.nil fun vs hl hzz hrows hne => ?_
    obtain ⟨Z, hYZ, hZb, hV⟩ := hzz
    have f0 := fvi hV hl 0
    have f1 := fvi hV hl 1
    have f2 := fvc hV hl 2
    have f3 := fvc hV hl 3
    rw [show vs = [gw vs 0, gw vs 1, gw vs 2, gw vs 3] from (gw_eta hl).trans rfl]
    have ha0 := HA0.out
    subst ha0
    clear HA0 hV hYZ hZb hsz0 hrows hne oe0 oe3
    simp only [putAll, Act.put, List.setIfInBounds_toArray, List.set_cons_zero, List.set_cons_succ, f0, f1, f2, f3]
    clear hl f0 f1 f2 f3
    go_wp2
    go_ret
    have hq := (Hx10.out.widen (R' := (fun k => New w u4_1 k)) (by intro k h1; omega) (Nat.le_refl _))
    refine ⟨_, rfl, ?_, ((((HM0.out.trans Cx3.out (fun _ _ h => h.elim)).trans Cx4.out (fun _ _ h => h.elim)).trans Cx7.out (fun _ _ h => h.elim)).trans Cx11.out (by intro k h1 h2; omega))⟩
    rw [encN_ge hge, encN_lt (by have := HL.out; omega)]
    exact hq
/-- rows are copied -/
theorem Copy_Bt {R2 : Nat → Prop} {v : Value} {l : List (List Int)} {w : World} (hs : RdS BtR R2 w v l) (hB2 : ∀ k, R2 k → k < w.heap.size) (hl : l.length ≤ 1000000) :
    Calls Try.prog 36 #[v] w fun e' w' => ∃ v', e' = .returned v' ∧ OwS BtR 22 (New w w') R2 w' v' l ∧ Mod (fun _ => False) w w' := by
  obtain ⟨ao, cap, rfl⟩ := hs.shape
  have HS := Lib.hid hs
  have HBT := Lib.hid hB2
  clear hs hB2
  go_enter Try.func36, Try.ntmps36
  go_upto_region 1 with (fail)
  have HM0 := hid (Mod.refl (fun _ => False) w)
  go_upto_region 1 with (fail)
  generalize ha0 : Act.mk _ _ = a0
  have oe0 : a0.eval (.tmp 0) = .slice ao l.length cap := by rw [← ha0]; rfl
  have hsz0 : a0.tmps.size = 5 := by rw [← ha0]; rfl
  have HA0 := hid ha0
  clear ha0
  refine wp_region_Q0 5 hsz0 [3, 4, 2] [qi (.slice ao l.length cap), qv 0, qv 0] ⟨qi_stable, qv_stable, qv_stable, trivial⟩ [1] ⟨?_, ?_, ?_, trivial⟩ ?_
  · exact stq (fun E => ex_move rfl (E.v oe0))
  · exact stepq_chain rfl
  · refine stepq_env rfl rfl rfl fun _ _ _ _ _ _ _ _ _ hd _ _ => ?_
    have h1 := hd ⟨1, .data⟩ (by simp) rfl _ rfl
    exact qe_run rfl (wanted_none rfl) (ex_assign rfl rfl) QE.refl h1
  intro u1_0 hr
  have zu1_0 := hr.size
  have Cx1 := hid (hr.new (S := (fun _ => False)))
  clear hr
  refine QChain.go fun Z act E => ?_
  refine qc_appS (A := BtR) (e := 22) rfl (wanted_none rfl) rfl (.slice none 0 0) 24 Try.underlying91 info_Bt (by rfl) (of_decide_eq_true (by kernel_rfl)) rfl (E.d 0) (OwS.nil _ _ (fun _ => False) (fun _ => False) _) ((HS.out.mod Cx1.out (fun _ _ h => h))) (fun _ _ h => h) (by simp only [List.length_nil]; omega) (by simp only [List.length_nil]; rw [maxLen_val]; omega) ?_
  intro ao1 cap1 u1_1a qout hm
  have zu1_1a := hm.size
  refine ⟨hm.mono (fun _ _ h => h.elim), (fun _ => rfl), ?_⟩
  intro u1_1 hr
  have zu1_1 := hr.size
  have Hx2 := hid ((qout.widen (R' := (fun k => (New u1_0 u1_1a k))) (E' := (fun k => (R2 k))) (fun _ h => h.elim (fun h => h.elim) (fun h => h)) (by intro k h1; rcases h1 with h1 | h1 <;> first | omega | exact h1.elim | exact h1)).mod hr (by intro k h1 h2; omega) (by intro k h1 h2; have hb := HBT.out k h1; omega))
  have Cx3 := hid (Cx1.out.go hm hr)
  clear Cx1 hm hr Z act E qout
  refine QChain.nil fun vs hl hzz hrows hne => ?_
  obtain ⟨Z, hYZ, hZb, hV⟩ := hzz
  have f0 := fvi hV hl 0
  have f1 := fvc hV hl 1
  have f2 := fvc hV hl 2
  rw [show vs = [gw vs 0, gw vs 1, gw vs 2] from (gw_eta hl).trans rfl]
  have ha0 := HA0.out
  subst ha0
  clear HA0 hV hYZ hZb hsz0 hrows hne oe0
  simp only [putAll, Act.put, List.setIfInBounds_toArray, List.set_cons_zero, List.set_cons_succ, f0, f1, f2]
  clear hl f0 f1 f2
  go_wp2
  go_ret
  have hq := Hx2.out
  exact ⟨_, rfl, hq.widen (by intro k h; omega) (by intro k h; exact h), (HM0.out.trans Cx3.out (fun _ _ h => h.elim))⟩
end Go.Proofs.Ytfgepphankfbfaa

/- ShaRows: the walk. -/
set_option maxRecDepth 100000
set_option linter.unusedVariables false
namespace Go.Proofs.Ytfgepphankfbfaa
open Go Go.RowKit Go.Gv

theorem flat_len40 {rs : List (List Int)} (h : ∀ a ∈ rs, a.length ≤ 40) (h5 : rs.length ≤ 5) : rs.flatten.length ≤ 200 := by
  have key : ∀ rs : List (List Int), (∀ a ∈ rs, a.length ≤ 40) → rs.flatten.length ≤ 40 * rs.length := by
    intro rs
    induction rs with
    | nil => intro _; simp
    | cons x rs ih =>
      intro h
      have h1 := ih fun a ha => h a (List.mem_cons_of_mem _ ha)
      have h2 := h x (List.mem_cons_self ..)
      simp only [List.flatten_cons, List.length_append, List.length_cons]
      omega
  have := key rs h
  omega
def rowB (r : List Int) : List Int := encN r.length ++ r
theorem rowB_small {r : List Int} (h : r.length < 128) : rowB r = [((r.length : Nat) : Int)] ++ r := by unfold rowB; rw [encN_lt h]
theorem rows_small {rs : List (List Int)} (h : rs.length < 128) : [((rs.length : Nat) : Int)] ++ (rs.map rowB).flatten = rowsB2 rs := by unfold rowsB2; rw [encN_lt h]; rfl
theorem rowsB2_one (F : List Int) : [1] ++ (encN F.length ++ F) = rowsB2 [F] := by
  unfold rowsB2
  rw [show ([F] : List (List Int)).length = 1 from rfl, show encN 1 = [((1 : Nat) : Int)] from encN_lt (by decide)]
  simp
theorem rowsB2_two (F G : List Int) : ([2] ++ (encN F.length ++ F)) ++ (encN G.length ++ G) = rowsB2 [F, G] := by
  unfold rowsB2
  rw [show ([F, G] : List (List Int)).length = 2 from rfl, show encN 2 = [((2 : Nat) : Int)] from encN_lt (by decide)]
  simp
theorem sum_eq {v : Value} {a b : List Int} {w : World} (e : a = b) (h : Calls Try.prog 16 #[v] w fun e w' => e = .returned (hv (shaF a)) ∧ Mod (fun _ => False) w w') : Calls Try.prog 16 #[v] w fun e w' => e = .returned (hv (shaF b)) ∧ Mod (fun _ => False) w w' := e ▸ h
theorem txt_len {rs : List (List Int)} {k : Nat} (h : ∀ a ∈ rs, a.length ≤ 40) (h5 : rs.length ≤ 5) : ([((rs.length : Nat) : Int)] ++ ((rs.take k).map rowB).flatten).length ≤ 300 := by
  have key : ∀ rs : List (List Int), (∀ a ∈ rs, a.length ≤ 40) → ((rs.map rowB).flatten).length ≤ 41 * rs.length := by
    intro rs
    induction rs with
    | nil => intro _; simp
    | cons x rs ih =>
      intro h
      have h1 := ih fun a ha => h a (List.mem_cons_of_mem _ ha)
      have h2 := h x (List.mem_cons_self ..)
      rw [List.map_cons, List.flatten_cons, List.length_append, rowB_small (by omega)]
      simp only [List.length_append, List.length_cons, List.length_nil]
      omega
  have h1 := key (rs.take k) (fun a ha => h a (List.mem_of_mem_take ha))
  have h2 : (rs.take k).length ≤ 5 := by rw [List.length_take]; omega
  simp only [List.length_append, List.length_cons, List.length_nil]
  omega
set_option maxHeartbeats 8000000 in
theorem ShaRows_walk (l : List Row01) (cut : Int) (vl : Value) (w : World) (hl : RdL (fun k => k < w.heap.size) w vl l) (hok : ∀ a ∈ l, a.Ok w) (hcut : I64 cut) :
    Calls Try.prog 11 #[vl, .int .i64 cut] w fun e w' => e = .returned (.bool true) ∧ Mod (fun _ => False) w w' := by
  obtain ⟨ao, cap, rfl, hlm⟩ := hl.shape
  rw [maxLen_val] at hlm
  have HL := Lib.hid hl
  have HOK := Lib.hid hok
  have HCUT := Lib.hid hcut
  clear hl hok hcut
  go_enter Try.func11, Try.ntmps11
  have HM0 := hid (Mod.refl (fun _ => False) w)
  go_wp2
  go_loopw [5, 6, 7] (fun t5 t6 t7 wr => ∃ (rs : List (List Int)) (PA PR PE : Nat → Prop), t7 = .int .i64 rs.length ∧ rs.length ≤ 5 ∧ rs.length ≤ l.length ∧ (∀ a ∈ rs, a.length ≤ 40) ∧ w.heap.size ≤ wr.heap.size ∧ (∀ k, PA k → w.heap.size ≤ k ∧ k < wr.heap.size) ∧ (∀ k, PR k → w.heap.size ≤ k ∧ k < wr.heap.size) ∧ (∀ k, PE k → w.heap.size ≤ k ∧ k < wr.heap.size) ∧ (∀ k, PA k → PR k → False) ∧ (∀ k, PA k → PE k → False) ∧ OwS BtR 22 PR PE wr t5 rs ∧ OwR PA 900000 wr t6 rs.flatten ∧ Mod (fun _ => False) w wr) (fun _ _ t7 _ => l.length - (intOf t7).toNat)
  case atStart => exact ⟨[], fun _ => False, fun _ => False, fun _ => False, rfl, by simp, by simp, (by intro a h; cases h), Nat.le_refl _, (by intro k h; cases h), (by intro k h; cases h), (by intro k h; cases h), (by intro k h; cases h), (by intro k h; cases h), OwS.nil _ _ _ _ _, ⟨OwnB.nil _, (fun g hg => by cases hg), by simp⟩, Mod.refl _ _⟩
  case round =>
    obtain ⟨rs, PA, PR, PE, rfl, hk5, hkl, h40, hz, hba, hbr, hbe, hd1, hd2, hrw, hal, hm⟩ := hrel
    obtain ⟨wo, rfl⟩ : ∃ x, x = wr := ⟨_, rfl⟩
    obtain ⟨aor, capr, rfl⟩ := hrw.shape
    obtain ⟨aoa, capa, rfl⟩ := hal.shape
    have HRW := Lib.hid hrw
    have HAL := Lib.hid hal
    have HMM := Lib.hid hm
    have HPA := Lib.hid hba
    have HPR := Lib.hid hbr
    have HPE := Lib.hid hbe
    have HD1 := Lib.hid hd1
    have HD2 := Lib.hid hd2
    have H40 := Lib.hid h40
    clear hrw hal hm hba hbr hbe hd1 hd2 h40 HM0
    by_cases hlt : rs.length < l.length ∧ rs.length < 5
    · obtain ⟨hlt, hl5⟩ := hlt
      go_upto_region 4 with (fail)
      generalize ha0 : Act.mk _ _ = a0
      have oe0 : a0.eval (.tmp 0) = .slice ao l.length cap := by rw [← ha0]; rfl
      have oe7 : a0.eval (.tmp 7) = .int .i64 ((rs.length : Nat) : Int) := by rw [← ha0]; rfl
      have hsz0 : a0.tmps.size = 113 := by rw [← ha0]; rfl
      have HA0 := hid ha0
      clear ha0
      refine wp_region_Q0 113 hsz0 [12, 13, 14, 15, 16, 17, 18, 19] [qi (.int .i64 ((rs.length : Nat) : Int)), qi (.slice ao l.length cap), qi (.int .i64 l.length), qi (.bool true), qi (.bool true), qi (.int .i64 ((rs.length : Nat) : Int)), qi (.bool true), qi (.bool true)] ⟨qi_stable, qi_stable, qi_stable, qi_stable, qi_stable, qi_stable, qi_stable, qi_stable, trivial⟩ [] ⟨?_, ?_, ?_, ?_, ?_, ?_, ?_, ?_, trivial⟩ ?_
      · exact stq (fun E => ex_move rfl (E.v oe7))
      · exact stq (fun E => ex_move rfl (E.v oe0))
      · exact stq (fun E => ex_lenS rfl (E.d 1) Try.underlying91)
      · exact stq (fun E => ex_binE rfl (E.d 0) (E.d 2) (guard_ints _ _ _ _ _ _) (run_lss_i _ _ _ Try.underlying3) (congrArg Value.bool (decide_eq_true (by omega))))
      · exact stq (fun E => ex_move rfl (E.d 3))
      · refine stepq_env rfl rfl rfl fun _ _ _ _ _ _ _ hout hsz hd _ _ => ?_
        have h4 := hd ⟨4, .guard⟩ (by simp) rfl _ rfl
        refine qe_run rfl ((wanted_of rfl rfl (hsz 16 (by decide)) h4).trans rfl) (ex_move rfl ((hout 7 (by decide)).trans oe7)) QE.refl ?_
        rfl
      · refine stepq_env rfl rfl rfl fun _ _ _ _ _ _ _ _ hsz hd _ _ => ?_
        have h4 := hd ⟨4, .guard⟩ (by simp) rfl _ rfl
        have h5 := hd ⟨5, .data⟩ (by simp) rfl _ rfl
        refine qe_run rfl ((wanted_of rfl rfl (hsz 16 (by decide)) h4).trans rfl) (ex_binE rfl h5 rfl (guard_ints _ _ _ _ _ _) (run_lss_i _ _ _ Try.underlying3) (congrArg Value.bool (decide_eq_true (by omega)))) QE.refl ?_
        rfl
      · exact stq (fun E => ex_pick rfl (E.d 4) (E.d 6) rfl)
      intro u4_0 hr
      have zu4_0 := hr.size
      have Cx1 := hid (hr.new (S := (fun _ => False)))
      clear hr
      refine QChain.nil fun vs hl hzz hrows hne => ?_
      obtain ⟨Z, hYZ, hZb, hV⟩ := hzz
      have f0 := fvi hV hl 0
      have f1 := fvi hV hl 1
      have f2 := fvi hV hl 2
      have f4 := fvi hV hl 4
      have f5 := fvi hV hl 5
      have f7 := fvi hV hl 7
      rw [show vs = [gw vs 0, gw vs 1, gw vs 2, gw vs 3, gw vs 4, gw vs 5, gw vs 6, gw vs 7] from (gw_eta hl).trans rfl]
      have ha0 := HA0.out
      subst ha0
      clear HA0 hV hYZ hZb hsz0 hrows hne oe0 oe7
      simp only [putAll, Act.put, List.setIfInBounds_toArray, List.set_cons_zero, List.set_cons_succ, f0, f1, f2, f4, f5, f7]
      clear hl f0 f1 f2 f4 f5 f7
      obtain ⟨gl, ol, rfl, hel⟩ := HL.out.at hlt
      have hak := HOK.out l[rs.length] (List.getElem_mem hlt)
      generalize l[rs.length] = a at hel hak
      have hel0 := hel 0 _ rfl
      have hgl := World.block_lt_of_cell? _ _ hel0
      have HCE := hid (show CellsAt (fun k => k < w.heap.size) w gl (ol + rs.length * 1) [a.V] from ⟨hgl, fun j u hu => hel j u hu⟩)
      have HEA := Lib.hid hak
      clear hel hel0 hak
      have HCE2 := hid (HCE.out.mod (HMM.out.trans Cx1.out (fun _ _ h => h.elim)) (fun _ _ h => h))
      have HEA2 := hid (HEA.out.mod (HMM.out.trans Cx1.out (fun _ _ h => h.elim)) (fun _ _ h => h))
      clear HCE HEA
      go_upto_region 6 with (fail)
      generalize ha0 : Act.mk _ _ = a0
      have oe0 : a0.eval (.tmp 0) = .slice (some ⟨gl, ol, none⟩) l.length cap := by rw [← ha0]; rfl
      have oe5 : a0.eval (.tmp 5) = .slice aor rs.length capr := by rw [← ha0]; rfl
      have oe7 : a0.eval (.tmp 7) = .int .i64 ((rs.length : Nat) : Int) := by rw [← ha0]; rfl
      have hsz0 : a0.tmps.size = 113 := by rw [← ha0]; rfl
      have HA0 := hid ha0
      clear ha0
      refine wp_region_Q1 113 hsz0 [22, 23, 24, 25, 26, 27, 28, 29, 5] (fun k => (PR k)) (fun k j => (k = 2 ∧ ((PR j)))) (fun _ _ h => h.2) [qi (.slice aor rs.length capr), qi (.slice (some ⟨gl, ol, none⟩) l.length cap), qi (.int .i64 ((rs.length : Nat) : Int)), qi (.pointer (some ⟨gl, ol + rs.length * 1, none⟩)), qi (a.V), qv 0, qv 1, qv 2, qv 2] ⟨qi_stable, qi_stable, qi_stable, qi_stable, qi_stable, qv_stable, qv_stable, qv_stable, qv_stable, trivial⟩ [5, 6, 7] ⟨?_, ?_, ?_, ?_, ?_, ?_, ?_, ?_, ?_, trivial⟩ ?_
      · exact stq (fun E => ex_move rfl ((E.pre 8 5 rfl (by kernel_rfl)).trans oe5))
      · exact stq (fun E => ex_move rfl (E.v oe0))
      · exact stq (fun E => ex_move rfl (E.v oe7))
      · exact stq (fun E => ex_idxS (i := rs.length) (s := 1) rfl Try.underlying91 (by kernel_rfl) (E.d 1) (E.d 2) hlt)
      · exact stq (fun E => ex_load1 rfl Try.underlying22 rfl (E.d 3) ((HCE2.out.mod E.m (by intro k h1 h2; rcases h2 with ⟨h0, h2⟩ | h2 <;> (first | omega | (have hb := HPR.out k h2; omega)))).2 0 _ rfl))
      · exact stepq_chain rfl
      · exact stepq_chain rfl
      · exact stepq_chain rfl
      · refine stepq_env rfl rfl rfl fun _ _ _ _ _ _ _ _ _ hd _ _ => ?_
        have h7 := hd ⟨7, .data⟩ (by simp) rfl _ rfl
        exact qe_run rfl (wanted_none rfl) (ex_assign rfl rfl) QE.refl h7
      intro u6_0 hr
      have zu6_0 := hr.size
      have Cx2 := hid (hr.new (S := (fun k => (PR k))))
      have Hx3 := hid ((HRW.out.mod Cx1.out (fun _ _ h => h) (fun _ _ h => h)).mod hr (by intro k h1 h2; have hb := HPR.out k h1; omega) (by intro k h1 h2; have hb := HPE.out k h1; omega))
      clear HRW
      clear hr
      refine QChain.go fun Z act E => ?_
      refine qc_callF (args := #[a.V, .int .i64 40]) rfl (wanted_none rfl) rfl Try.func15 (args2 (E.d 4) rfl) (Cut_R 40 (HEA2.out.mod Cx2.out (by intro k h1 h2; have hb := HPR.out k h2; omega)) (by decide)) ?_
      rintro e u6_1a ⟨v', rfl, qcu, hm⟩
      obtain ⟨cb, hcb⟩ : ∃ z, z = a.B.take 40 := ⟨_, rfl⟩
      rw [← hcb] at qcu
      have HCB := hid (show cb.length ≤ 40 by rw [hcb, List.length_take]; omega)
      clear hcb
      obtain ⟨aoc, capc, rfl⟩ := qcu.shape
      have zu6_1a := hm.size
      refine ⟨_, rfl, hm.mono (fun _ _ h => h.elim), (fun _ => rfl), ?_⟩
      intro u6_1 hr
      have zu6_1 := hr.size
      have Hx4 := hid ((qcu.widen (R' := (fun k => (New u6_0 u6_1a k))) (fun _ h => h) (Nat.le_refl _)).mod hr (by intro k h1 h2; omega))
      have hmr := Mod.after hm hr
      have Hx5 := hid (Hx3.out.mod hmr (by intro k h1 h2; have hb := HPR.out k h1; omega) (by intro k h1 h2; have hb := HPE.out k h1; omega))
      clear Hx3
      clear hmr
      have Cx6 := hid (Cx2.out.go hm hr)
      clear Cx2 hm hr Z act E qcu
      refine QChain.go fun Z act E => ?_
      have ea27 : act.eval (.tmp 27) = .slice aoc cb.length capc := (chv (v := .slice aoc cb.length capc) (E.d 5))
      refine qc_rows rfl (wanted_none rfl) rfl Try.underlying91 (by decide) (C := #[.slice aoc cb.length capc]) (by simp only [List.map_toArray, List.map_cons, List.map_nil, ea27]; kernel_rfl) ?_
      intro u6_2a qrow hm
      have zl6_6 := qrow.lt
      have zu6_2a := hm.size
      refine ⟨hm.mono (fun _ _ h => h.elim), (fun _ => rfl), ?_⟩
      intro u6_2 hr
      have zu6_2 := hr.size
      have Hx7 := hid (qrow.mod hr (by intro h2; omega))
      have hmr := Mod.after hm hr
      have Hx8 := hid (Hx5.out.mod hmr (by intro k h1 h2; have hb := HPR.out k h1; omega) (by intro k h1 h2; have hb := HPE.out k h1; omega))
      have Hx9 := hid (Hx4.out.mod hmr (by intro k h1 h2; omega))
      clear Hx5 Hx4
      clear hmr
      have Cx10 := hid (Cx6.out.go hm hr)
      clear Cx6 hm hr Z act E qrow ea27
      refine QChain.go fun Z act E => ?_
      refine qc_appS (A := BtR) (e := 22) rfl (wanted_none rfl) rfl (.slice none 0 0) 24 Try.underlying91 info_Bt (by rfl) (of_decide_eq_true (by kernel_rfl)) (E.d 0) (chv (v := .slice (some ⟨u6_1.heap.size, 0, none⟩) 1 1) (E.d 6)) (Hx8.out) (RdS.single (R := (fun k => (New u6_0 u6_1a k) ∨ (k = u6_1.heap.size))) Hx7.out ((BtR.mk Hx9.out.rd).widen (by intro k h1; first | omega | exact h1.elim | exact Or.inl h1 | exact Or.inr (h1))) (by first | exact Or.inr rfl | exact rfl | exact Or.inr (Or.inr rfl) | (right; omega))) (by intro k h1 h2; have hb := HPR.out k h2; omega) (by simp only [List.length_cons, List.length_nil]; omega) (by simp only [List.length_cons, List.length_nil]; rw [maxLen_val]; omega) ?_
      intro ao7 cap7 u6_3a qrows hm
      have zu6_3a := hm.size
      refine ⟨hm.mono (by intro k hk h; first | omega | exact Or.inl ⟨(by have hb := HPR.out k h; omega), ⟨rfl, h⟩⟩), (fun _ => rfl), ?_⟩
      intro u6_3 hr
      have zu6_3 := hr.size
      have Hx11 := hid ((qrows.widen (R' := (fun k => (PR k) ∨ (New u6_2 u6_3a k))) (E' := (fun k => (PE k) ∨ (New u6_0 u6_1a k) ∨ (k = u6_1.heap.size))) (fun _ h => h) (by intro k h1; rcases h1 with h1 | (h1 | h1) <;> first | omega | exact h1.elim | exact Or.inl h1 | exact Or.inr (Or.inl h1) | exact Or.inr (Or.inr (h1)))).mod hr (by intro k h1 h2; rcases h1 with h1 | h1 <;> first | omega | (have hb := HPR.out k h1; omega)) (by intro k h1 h2; rcases h1 with h1 | h1 | h1 <;> first | omega | (have hb := HPE.out k h1; omega)))
      have hmr := hm.two hr
      have Hx12 := hid (Hx9.out.mod hmr (by intro k h1 h2; rcases h2 with h2 | h2 <;> first | omega | (have hb := HPR.out k h2; omega)))
      have Hx13 := hid (Hx7.out.mod hmr (by intro h2; rcases h2 with h2 | h2 <;> first | omega | (have hb := HPR.out _ h2; omega)))
      clear Hx9 Hx7
      clear hmr
      have Cx14 := hid (Cx10.out.goM hm hr (fun _ _ h => h))
      clear Cx10 hm hr Z act E qrows Hx8
      refine QChain.nil fun vs hl hzz hrows hne => ?_
      obtain ⟨Z, hYZ, hZb, hV⟩ := hzz
      have f0 := fvi hV hl 0
      have f1 := fvi hV hl 1
      have f2 := fvi hV hl 2
      have f5 := fvc hV hl 5
      have f6 := fvc hV hl 6
      have f7 := fvc hV hl 7
      have f8 := fvc hV hl 8
      rw [show vs = [gw vs 0, gw vs 1, gw vs 2, gw vs 3, gw vs 4, gw vs 5, gw vs 6, gw vs 7, gw vs 8] from (gw_eta hl).trans rfl]
      have ha0 := HA0.out
      subst ha0
      clear HA0 hV hYZ hZb hsz0 hrows hne oe0 oe5 oe7
      simp only [putAll, Act.put, List.setIfInBounds_toArray, List.set_cons_zero, List.set_cons_succ, f0, f1, f2, f5, f6, f7, f8]
      clear hl f0 f1 f2 f5 f6 f7 f8
      clear Hx13
      clear Hx12
      clear HEA2
      clear HCE2
      have hat := Hx11.out.rd.at (i := rs.length) (by simp)
      obtain ⟨g5, o5, cs5, eao, hrg, hrd, hcs⟩ := hat
      have hrd2 := hrd
      rw [List.getElem_append_right (Nat.le_refl _)] at hrd2
      obtain ⟨v5, rfl, hr5⟩ := hrd2
      simp only [Nat.sub_self, List.getElem_cons_zero] at hr5
      obtain ⟨ao5, cap5, rfl⟩ := hr5.shape
      subst eao
      have HC5 := hid (show CellsAt (fun k => (PR k) ∨ (New u6_2 u6_3a k) ∨ (PE k) ∨ (New u6_0 u6_1a k) ∨ (k = u6_1.heap.size)) u6_3 g5 (o5 + rs.length * 1) [Value.slice ao5 cb.length cap5] from ⟨(by have hq := hrg; simp only [or_assoc] at hq ⊢; exact hq), hcs⟩)
      have HS5 := hid (hr5.widen (R' := (fun k => (PR k) ∨ (New u6_2 u6_3a k) ∨ (PE k) ∨ (New u6_0 u6_1a k) ∨ (k = u6_1.heap.size))) (by intro k h1; simp only [or_assoc] at h1 ⊢; exact h1) (Nat.le_refl _))
      clear hrg hrd hcs hr5
      have HFL := hid (show rs.flatten.length ≤ 200 from flat_len40 H40.out hk5)
      go_upto_region 7 with (fail)
      generalize ha0 : Act.mk _ _ = a0
      have oe5 : a0.eval (.tmp 5) = .slice (some ⟨g5, o5, none⟩) (rs.length + 1) cap7 := by rw [← ha0]; rfl
      have oe6 : a0.eval (.tmp 6) = .slice aoa (rs.flatten.length) capa := by rw [← ha0]; rfl
      have oe7 : a0.eval (.tmp 7) = .int .i64 ((rs.length : Nat) : Int) := by rw [← ha0]; rfl
      have hsz0 : a0.tmps.size = 113 := by rw [← ha0]; rfl
      have HA0 := hid ha0
      clear ha0
      refine wp_region_Q1 113 hsz0 [30, 31, 32, 33, 34, 35, 6] (fun k => (PA k)) (fun k j => (k = 0 ∧ ((PA j)))) (fun _ _ h => h.2) [qi (.slice aoa (rs.flatten.length) capa), qi (.slice (some ⟨g5, o5, none⟩) (rs.length + 1) cap7), qi (.int .i64 ((rs.length : Nat) : Int)), qi (.pointer (some ⟨g5, o5 + rs.length * 1, none⟩)), qi (.slice ao5 cb.length cap5), qv 0, qv 0] ⟨qi_stable, qi_stable, qi_stable, qi_stable, qi_stable, qv_stable, qv_stable, trivial⟩ [5] ⟨?_, ?_, ?_, ?_, ?_, ?_, ?_, trivial⟩ ?_
      · exact stq (fun E => ex_move rfl ((E.pre 6 6 rfl (by kernel_rfl)).trans oe6))
      · exact stq (fun E => ex_move rfl (E.v oe5))
      · exact stq (fun E => ex_move rfl (E.v oe7))
      · exact stq (fun E => ex_idxS (i := rs.length) (s := 1) rfl Try.underlying91 (by kernel_rfl) (E.d 1) (E.d 2) (by omega))
      · exact stq (fun E => ex_load1 rfl Try.underlying22 rfl (E.d 3) ((HC5.out.mod E.m (by intro k h1 h2; rcases h2 with ⟨h0, h2⟩ | h2 <;> rcases h1 with h1 | h1 | h1 | h1 | h1 <;> (first | omega | (have hb := HPR.out k h1; omega) | (have hb := HPE.out k h1; omega) | (have hb := HPA.out k h2; omega) | exact HD1.out k h1 h2 | exact HD1.out k h2 h1 | exact HD2.out k h1 h2 | exact HD2.out k h2 h1 | (have hb := HPR.out k h1; have hb2 := HPA.out k h2; omega) | (have hb := HPE.out k h1; have hb2 := HPA.out k h2; omega)))).2 0 _ rfl))
      · exact stepq_chain rfl
      · refine stepq_env rfl rfl rfl fun _ _ _ _ _ _ _ _ _ hd _ _ => ?_
        have h5 := hd ⟨5, .data⟩ (by simp) rfl _ rfl
        exact qe_run rfl (wanted_none rfl) (ex_assign rfl rfl) QE.refl h5
      intro u7_0 hr
      have zu7_0 := hr.size
      have Cx15 := hid (hr.new (S := (fun k => (PA k))))
      have Hx16 := hid (((HAL.out.mod Cx1.out (fun _ _ h => h)).mod Cx14.out (by intro k h1 h2; first | omega | (have hb := HPA.out k h1; omega) | (have hb := HPR.out k h2; omega) | exact HD1.out k h1 h2 | exact HD1.out k h2 h1 | exact HD2.out k h1 h2 | exact HD2.out k h2 h1 | (have hb := HPA.out k h1; have hb2 := HPR.out k h2; omega))).mod hr (by intro k h1 h2; have hb := HPA.out k h1; omega))
      clear HAL
      clear hr
      refine QChain.go fun Z act E => ?_
      refine qc_appR rfl (wanted_none rfl) rfl (E.d 0) (E.d 4) Hx16.out (HS5.out.mod Cx15.out (by intro k h1 h2; rcases h1 with h1 | h1 | h1 | h1 | h1 <;> first | omega | (have hb := HPR.out k h1; omega) | (have hb := HPE.out k h1; omega) | (have hb := HPA.out k h2; omega) | exact HD1.out k h1 h2 | exact HD1.out k h2 h1 | exact HD2.out k h1 h2 | exact HD2.out k h2 h1 | (have hb := HPR.out k h1; have hb2 := HPA.out k h2; omega) | (have hb := HPE.out k h1; have hb2 := HPA.out k h2; omega))) (by have := HFL.out; have := HCB.out; simp only [List.length_append]; omega) ?_
      intro ao10 cap10 u7_1a qall hm
      have zu7_1a := hm.size
      refine ⟨hm.mono (by intro k hk h; first | omega | exact Or.inl ⟨(by have hb := HPA.out k h; omega), ⟨rfl, h⟩⟩), (fun _ => rfl), ?_⟩
      intro u7_1 hr
      have zu7_1 := hr.size
      have Hx17 := hid ((qall.widen (R' := (fun k => (PA k) ∨ (New u7_0 u7_1a k))) (fun _ h => h) (Nat.le_refl _)).mod hr (by intro k h1 h2; rcases h1 with h1 | h1 <;> first | omega | (have hb := HPA.out k h1; omega)))
      have Cx18 := hid (Cx15.out.goM hm hr (fun _ _ h => h))
      clear Cx15 hm hr Z act E qall Hx16
      refine QChain.nil fun vs hl hzz hrows hne => ?_
      obtain ⟨Z, hYZ, hZb, hV⟩ := hzz
      have f0 := fvi hV hl 0
      have f1 := fvi hV hl 1
      have f2 := fvi hV hl 2
      have f5 := fvc hV hl 5
      have f6 := fvc hV hl 6
      rw [show vs = [gw vs 0, gw vs 1, gw vs 2, gw vs 3, gw vs 4, gw vs 5, gw vs 6] from (gw_eta hl).trans rfl]
      have ha0 := HA0.out
      subst ha0
      clear HA0 hV hYZ hZb hsz0 hrows hne oe5 oe6 oe7
      simp only [putAll, Act.put, List.setIfInBounds_toArray, List.set_cons_zero, List.set_cons_succ, f0, f1, f2, f5, f6]
      clear hl f0 f1 f2 f5 f6
      go_upto_region 5 with (fail)
      generalize ha0 : Act.mk _ _ = a0
      have oe7 : a0.eval (.tmp 7) = .int .i64 ((rs.length : Nat) : Int) := by rw [← ha0]; rfl
      have hsz0 : a0.tmps.size = 113 := by rw [← ha0]; rfl
      have HA0 := hid ha0
      clear ha0
      refine wp_region_Q0 113 hsz0 [20, 21, 7] [qi (.int .i64 ((rs.length : Nat) : Int)), qi (.int .i64 (((rs.length : Nat) : Int) + 1)), qi (.int .i64 (((rs.length : Nat) : Int) + 1))] ⟨qi_stable, qi_stable, qi_stable, trivial⟩ [] ⟨?_, ?_, ?_, trivial⟩ ?_
      · exact stq (fun E => ex_move rfl ((E.pre 2 7 rfl (by kernel_rfl)).trans oe7))
      · exact stq (fun E => ex_binE rfl (E.d 0) rfl (guard_ints _ _ _ _ _ _) (run_add_i _ _ Try.underlying3) (congrArg (Value.int .i64) (IntWalk.i64_in _ (by omega))))
      · exact stq (fun E => ex_assign rfl (E.d 1))
      intro u5_0 hr
      have zu5_0 := hr.size
      have Cx19 := hid (hr.new (S := (fun _ => False)))
      clear hr
      refine QChain.nil fun vs hl hzz hrows hne => ?_
      obtain ⟨Z, hYZ, hZb, hV⟩ := hzz
      have f0 := fvi hV hl 0
      have f2 := fvi hV hl 2
      rw [show vs = [gw vs 0, gw vs 1, gw vs 2] from (gw_eta hl).trans rfl]
      have ha0 := HA0.out
      subst ha0
      clear HA0 hV hYZ hZb hsz0 hrows hne oe7
      simp only [putAll, Act.put, List.setIfInBounds_toArray, List.set_cons_zero, List.set_cons_succ, f0, f2]
      clear hl f0 f2
      go_wp2
      go_roundw
      case rel => exact ⟨rs ++ [cb], (fun k => (PA k) ∨ (New u7_0 u7_1a k)), (fun k => (PR k) ∨ (New u6_2 u6_3a k)), (fun k => (PE k) ∨ (New u6_0 u6_1a k) ∨ (k = u6_1.heap.size)), by simp, by simp; omega, by simp; omega, (by intro z hz; rcases List.mem_append.1 hz with hz | hz; exact H40.out z hz; simp at hz; subst hz; exact HCB.out), by omega, (by intro k h; rcases h with h | h <;> first | omega | (have hb := HPA.out k h; omega)), (by intro k h; rcases h with h | h <;> first | omega | (have hb := HPR.out k h; omega)), (by intro k h; rcases h with h | h | h <;> first | omega | (have hb := HPE.out k h; omega)), (by intro k h1 h2; rcases h1 with h1 | h1 <;> rcases h2 with h2 | h2 <;> first | omega | (have hb := HPA.out k h1; omega) | (have hb := HPR.out k h2; omega) | exact HD1.out k h1 h2 | exact HD1.out k h2 h1 | exact HD2.out k h1 h2 | exact HD2.out k h2 h1 | (have hb := HPA.out k h1; have hb2 := HPR.out k h2; omega)), (by intro k h1 h2; rcases h1 with h1 | h1 <;> rcases h2 with h2 | h2 | h2 <;> first | omega | (have hb := HPA.out k h1; omega) | (have hb := HPE.out k h2; omega) | exact HD1.out k h1 h2 | exact HD1.out k h2 h1 | exact HD2.out k h1 h2 | exact HD2.out k h2 h1 | (have hb := HPA.out k h1; have hb2 := HPE.out k h2; omega)), (by have hq := ((Hx11.out.mod Cx18.out (by intro k h1 h2; rcases h1 with h1 | h1 <;> first | omega | (have hb := HPR.out k h1; omega) | (have hb := HPA.out k h2; omega) | exact HD1.out k h1 h2 | exact HD1.out k h2 h1 | exact HD2.out k h1 h2 | exact HD2.out k h2 h1 | (have hb := HPR.out k h1; have hb2 := HPA.out k h2; omega)) (by intro k h1 h2; rcases h1 with h1 | h1 | h1 <;> first | omega | (have hb := HPE.out k h1; omega) | (have hb := HPA.out k h2; omega) | exact HD1.out k h1 h2 | exact HD1.out k h2 h1 | exact HD2.out k h1 h2 | exact HD2.out k h2 h1 | (have hb := HPE.out k h1; have hb2 := HPA.out k h2; omega))).mod Cx19.out (fun _ _ h => h) (fun _ _ h => h)); simpa using hq), (by have hq := (Hx17.out.mod Cx19.out (fun _ _ h => h)); simpa using hq), ((((HMM.out.trans Cx1.out (fun _ _ h => h.elim)).trans Cx14.out (by intro k h1 h2; first | exact h2 | omega | (have hb := HPR.out k h2; omega))).trans Cx18.out (by intro k h1 h2; first | exact h2 | omega | (have hb := HPA.out k h2; omega))).trans Cx19.out (fun _ _ h => h.elim))⟩
      case measure => simp [intOf]; omega
    · skip
      obtain ⟨bA, hbA⟩ : ∃ b : Bool, b = decide (((rs.length : Nat) : Int) < (l.length : Int)) := ⟨_, rfl⟩
      obtain ⟨bB, hbB⟩ : ∃ b : Bool, b = decide (((rs.length : Nat) : Int) < 5) := ⟨_, rfl⟩
      go_upto_region 4 with (fail)
      generalize ha0 : Act.mk _ _ = a0
      have oe0 : a0.eval (.tmp 0) = .slice ao l.length cap := by rw [← ha0]; rfl
      have oe7 : a0.eval (.tmp 7) = .int .i64 ((rs.length : Nat) : Int) := by rw [← ha0]; rfl
      have hsz0 : a0.tmps.size = 113 := by rw [← ha0]; rfl
      have HA0 := hid ha0
      clear ha0
      refine wp_region_Q0 113 hsz0 [12, 13, 14, 15, 16, 17, 18, 19] [qi (.int .i64 ((rs.length : Nat) : Int)), qi (.slice ao l.length cap), qi (.int .i64 l.length), qi (.bool bA), qi (.bool bA), qc bA (qi (.int .i64 ((rs.length : Nat) : Int))), qc bA (qi (.bool bB)), qi (.bool (bA && bB))] ⟨qi_stable, qi_stable, qi_stable, qi_stable, qi_stable, (qc_stable qi_stable), (qc_stable qi_stable), qi_stable, trivial⟩ [] ⟨?_, ?_, ?_, ?_, ?_, ?_, ?_, ?_, trivial⟩ ?_
      · exact stq (fun E => ex_move rfl (E.v oe7))
      · exact stq (fun E => ex_move rfl (E.v oe0))
      · exact stq (fun E => ex_lenS rfl (E.d 1) Try.underlying91)
      · exact stq (fun E => ex_binE rfl (E.d 0) (E.d 2) (guard_ints _ _ _ _ _ _) (run_lss_i _ _ _ Try.underlying3) (congrArg Value.bool hbA.symm))
      · exact stq (fun E => ex_move rfl (E.d 3))
      · refine stepq_env rfl rfl rfl fun _ _ _ _ _ _ _ hout hsz hd _ _ => ?_
        have h4 := hd ⟨4, .guard⟩ (by simp) rfl _ rfl
        refine qe_guard rfl (b := bA) ((wanted_of rfl rfl (hsz 16 (by decide)) h4).trans (by simp)) rfl (fun hb l' hl' => ?_)
        refine qe_run rfl ((wanted_of rfl rfl (hsz 16 (by decide)) h4).trans (by first | exact hb | simpa using hb)) (ex_move rfl ((hout 7 (by decide)).trans oe7)) QE.refl ?_
        rw [hl']; rfl
      · refine stepq_env rfl rfl rfl fun _ _ _ _ _ _ _ _ hsz hd _ _ => ?_
        have h4 := hd ⟨4, .guard⟩ (by simp) rfl _ rfl
        have h5 := hd ⟨5, .data⟩ (by simp) rfl _ rfl
        refine qe_guard rfl (b := bA) ((wanted_of rfl rfl (hsz 16 (by decide)) h4).trans (by simp)) rfl (fun hb l' hl' => ?_)
        refine qe_run rfl ((wanted_of rfl rfl (hsz 16 (by decide)) h4).trans (by first | exact hb | simpa using hb)) (ex_binE rfl (h5.1 hb) rfl (guard_ints _ _ _ _ _ _) (run_lss_i _ _ _ Try.underlying3) (congrArg Value.bool hbB.symm)) QE.refl ?_
        rw [hl']; rfl
      · exact stq (fun E => ex_pickE rfl (E.d 4) rfl rfl (and_val fun hb => (E.d 6).1 hb))
      intro u4_0 hr
      have zu4_0 := hr.size
      have Cx20 := hid (hr.new (S := (fun _ => False)))
      clear hr
      refine QChain.nil fun vs hl hzz hrows hne => ?_
      obtain ⟨Z, hYZ, hZb, hV⟩ := hzz
      have f0 := fvi hV hl 0
      have f1 := fvi hV hl 1
      have f2 := fvi hV hl 2
      have f4 := fvi hV hl 4
      have f7 := fvi hV hl 7
      rw [show vs = [gw vs 0, gw vs 1, gw vs 2, gw vs 3, gw vs 4, gw vs 5, gw vs 6, gw vs 7] from (gw_eta hl).trans rfl]
      have ha0 := HA0.out
      subst ha0
      clear HA0 hV hYZ hZb hsz0 hrows hne oe0 oe7
      simp only [putAll, Act.put, List.setIfInBounds_toArray, List.set_cons_zero, List.set_cons_succ, f0, f1, f2, f4, f7]
      clear hl f0 f1 f2 f4 f7
      rw [show (bA && bB) = false by rw [hbA, hbB, Bool.and_eq_false_iff, decide_eq_false_iff_not, decide_eq_false_iff_not]; omega]
      clear hbA hbB hlt
      have HFL := hid (show rs.flatten.length ≤ 200 from flat_len40 H40.out hk5)
      have H200 := hid (show ∀ a ∈ rs, a.length ≤ 200 from fun a ha => Nat.le_trans (H40.out a ha) (by decide))
      have hnl : rs.length < 128 := by omega
      go_upto_region 8 with (fail)
      generalize ha0 : Act.mk _ _ = a0
      have oe5 : a0.eval (.tmp 5) = .slice aor rs.length capr := by rw [← ha0]; rfl
      have hsz0 : a0.tmps.size = 113 := by rw [← ha0]; rfl
      have HA0 := hid ha0
      clear ha0
      refine wp_region_Q 113 hsz0 (by kernel_rfl) (by kernel_rfl) [36, 37, 8, 116] (by kernel_rfl) (by decide) (fun _ => False) (fun _ _ => False) (fun _ _ h => h) [qi (.slice aor rs.length capr), qi (hv (shaF (rowsB2 rs))), qa, qa] ⟨qi_stable, qi_stable, qa_stable, qa_stable, trivial⟩ [1] (by kernel_rfl) (by decide) (by kernel_rfl) [⟨2, 3, 26, [.int .u8 0, .int .u8 0, .int .u8 0, .int .u8 0, .int .u8 0, .int .u8 0, .int .u8 0, .int .u8 0, .int .u8 0, .int .u8 0, .int .u8 0, .int .u8 0, .int .u8 0, .int .u8 0, .int .u8 0, .int .u8 0, .int .u8 0, .int .u8 0, .int .u8 0, .int .u8 0, .int .u8 0, .int .u8 0, .int .u8 0, .int .u8 0, .int .u8 0, .int .u8 0, .int .u8 0, .int .u8 0, .int .u8 0, .int .u8 0, .int .u8 0, .int .u8 0], 0, (fun t => (shaF (rowsB2 rs)).map bv)⟩] (by kernel_rfl) (by intro r hr; simp only [List.mem_cons, List.not_mem_nil, or_false] at hr; rcases hr with rfl <;> exact ⟨by kernel_rfl, by kernel_rfl⟩) (by intro r hr; simp only [List.mem_cons, List.not_mem_nil, or_false] at hr; rcases hr with rfl <;> exact ⟨of_decide_eq_true (by kernel_rfl), of_decide_eq_true (by kernel_rfl)⟩) (by intro r hr; simp only [List.mem_cons, List.not_mem_nil, or_false] at hr; rcases hr with rfl <;> exact fun _ _ _ _ => ⟨trivial, trivial⟩) ⟨?_, ?_, ?_, ?_, trivial⟩ ?_
      · exact stq (fun E => ex_move rfl (E.v oe5))
      · exact stepq_chain rfl
      · exact stepq_make rfl rfl ⟨rfl, rfl, by kernel_rfl, by kernel_rfl⟩
      · refine stepq_write rfl rfl rfl ⟨rfl, 8, (.tmp 37), rfl, by decide, rfl, by kernel_rfl, fun Z tr act w' hm hout hsz hd hpre => ?_⟩
        have h1 := hd ⟨1, .data⟩ (by simp) rfl _ rfl
        exact ⟨Nat.zero_le _, (by rw [show act.eval ((.tmp 37)) = _ from h1]; rfl), (by rw [List.length_map, shaF_len]; rfl), (ints_oneCell .u8 _)⟩
      intro u8_0 hr
      have zu8_0 := hr.size
      have Cx21 := hid (hr.new (S := (fun _ => False)))
      clear hr
      refine QChain.go fun Z act E => ?_
      refine qc_callF (args := #[.slice aor rs.length capr]) rfl (wanted_none rfl) rfl Try.func35 (args1 (E.d 0)) (Rows_Q ((HRW.out.mod Cx20.out (fun _ _ h => h) (fun _ _ h => h)).mod Cx21.out (fun _ _ h => h) (fun _ _ h => h)).rd H200.out (by omega)) ?_
      rintro e u8_1a ⟨rfl, hm⟩
      have zu8_1a := hm.size
      refine ⟨_, rfl, hm.mono (fun _ _ h => h.elim), (fun _ => rfl), ?_⟩
      intro u8_1 hr
      have zu8_1 := hr.size
      have Cx22 := hid (Cx21.out.go hm hr)
      clear Cx21 hm hr Z act E
      refine QChain.nil fun vs hl hzz hrows hne => ?_
      obtain ⟨Z, hYZ, hZb, hV⟩ := hzz
      obtain ⟨qh, g2, hBqh, hYqh, hCqh⟩ := hrows _ (by simp only [List.mem_cons, List.not_mem_nil, or_false]; trivial)
      have f2 : gw vs 2 = _ := getv g2
      (try dsimp only at hBqh hYqh); (try simp only [false_or] at hBqh hYqh)
      have zqqh := hCqh.lt
      have Hx23 := hid (show Cs u8_1 qh ((shaF (rowsB2 rs)).map bv : List Value).toArray 26 from hCqh)
      have f0 := fvi hV hl 0
      have f1 := fvi hV hl 1
      rw [show vs = [gw vs 0, gw vs 1, gw vs 2, gw vs 3] from (gw_eta hl).trans rfl]
      have ha0 := HA0.out
      subst ha0
      clear HA0 hV hYZ hZb hsz0 hrows hne oe5 hCqh g2
      simp only [putAll, Act.put, List.setIfInBounds_toArray, List.set_cons_zero, List.set_cons_succ, List.set_nil, f2, f0, f1]
      clear hl f2 f0 f1
      go_upto_region 9 with (fail)
      generalize ha0 : Act.mk _ _ = a0
      have oe5 : a0.eval (.tmp 5) = .slice aor rs.length capr := by rw [← ha0]; rfl
      have oe8 : a0.eval (.tmp 8) = .pointer (some ⟨qh, 0, none⟩) := by rw [← ha0]; rfl
      have hsz0 : a0.tmps.size = 113 := by rw [← ha0]; rfl
      have HA0 := hid ha0
      clear ha0
      refine wp_region_Q0 113 hsz0 [38, 39, 40, 41, 42] [qi (hv (shaF (rowsB2 rs))), qi (.slice aor rs.length capr), qv 0, qi (hv (shaF (rowsB2 rs))), qi (.bool false)] ⟨qi_stable, qi_stable, qv_stable, qi_stable, qi_stable, trivial⟩ [2, 3] ⟨?_, ?_, ?_, ?_, ?_, trivial⟩ ?_
      · exact stq (fun E => ex_loadA rfl Try.underlying26 rfl (off := 0) (cs := (shaF (rowsB2 rs)).map bv) (by rw [List.length_map, shaF_len]; exact size_hash) (E.v oe8) (Cs.whole (Hx23.out.mod E.m.old (by intro h2; omega))))
      · exact stq (fun E => ex_move rfl (E.v oe5))
      · exact stepq_chain rfl
      · exact stepq_chain rfl
      · exact stq (fun E => ex_binE rfl (E.d 0) (E.d 3) (hv_guard2 _ _ _ _ _ _) (run_neq_ints _ 26 5 32 Try.underlying26 Try.underlying5 (by kernel_rfl) _ _ (shaF_len _) (shaF_len _)) (congrArg Value.bool (show (!decide (shaF (rowsB2 rs) = shaF (rowsB2 rs))) = false by simp)))
      intro u9_0 hr
      have zu9_0 := hr.size
      have Cx24 := hid (hr.new (S := (fun _ => False)))
      clear hr
      refine QChain.go fun Z act E => ?_
      refine qc_callF (args := #[.slice aor rs.length capr]) rfl (wanted_none rfl) rfl Try.func36 (args1 (E.d 1)) (Copy_Bt (((HRW.out.mod Cx20.out (fun _ _ h => h) (fun _ _ h => h)).mod Cx22.out (fun _ _ h => h) (fun _ _ h => h)).mod Cx24.out (fun _ _ h => h) (fun _ _ h => h)).rd (by intro k h; rcases h with h | h <;> first | (have hb := HPR.out k h; omega) | (have hb := HPE.out k h; omega)) (by omega)) ?_
      rintro e u9_1a ⟨vc, rfl, qcp, hm⟩
      obtain ⟨aoy, capy, rfl⟩ := qcp.shape
      have zu9_1a := hm.size
      refine ⟨_, rfl, hm.mono (fun _ _ h => h.elim), (fun _ => rfl), ?_⟩
      intro u9_1 hr
      have zu9_1 := hr.size
      have Hx25 := hid ((qcp.widen (R' := (fun k => (New u9_0 u9_1a k))) (E' := (fun k => (PR k) ∨ (PE k))) (fun _ h => h) (fun _ h => h)).mod hr (by intro k h1 h2; omega) (by intro k h1 h2; rcases h1 with h1 | h1 <;> first | omega | (have hb := HPR.out k h1; omega) | (have hb := HPE.out k h1; omega)))
      have Cx26 := hid (Cx24.out.go hm hr)
      clear Cx24 hm hr Z act E qcp
      refine QChain.go fun Z act E => ?_
      refine qc_callF (args := #[.slice aoy rs.length capy]) rfl (wanted_none rfl) rfl Try.func35 (args1 (chv (v := .slice aoy rs.length capy) (E.d 2))) (Rows_Q Hx25.out.rd H200.out (by omega)) ?_
      rintro e u9_2a ⟨rfl, hm⟩
      have zu9_2a := hm.size
      refine ⟨_, rfl, hm.mono (fun _ _ h => h.elim), (fun _ => rfl), ?_⟩
      intro u9_2 hr
      have zu9_2 := hr.size
      have hmr := Mod.after hm hr
      have Hx27 := hid (Hx25.out.mod hmr (by intro k h1 h2; omega) (by intro k h1 h2; rcases h1 with h1 | h1 <;> first | omega | (have hb := HPR.out k h1; omega) | (have hb := HPE.out k h1; omega)))
      clear Hx25
      clear hmr
      have Cx28 := hid (Cx26.out.go hm hr)
      clear Cx26 hm hr Z act E
      clear Hx27
      refine QChain.nil fun vs hl hzz hrows hne => ?_
      obtain ⟨Z, hYZ, hZb, hV⟩ := hzz
      have f1 := fvi hV hl 1
      have f2 := fvc hV hl 2
      have f3 := fvi hV hl 3
      have f4 := fvi hV hl 4
      rw [show vs = [gw vs 0, gw vs 1, gw vs 2, gw vs 3, gw vs 4] from (gw_eta hl).trans rfl]
      have ha0 := HA0.out
      subst ha0
      clear HA0 hV hYZ hZb hsz0 hrows hne oe5 oe8
      simp only [putAll, Act.put, List.setIfInBounds_toArray, List.set_cons_zero, List.set_cons_succ, f1, f2, f3, f4]
      clear hl f1 f2 f3 f4
      go_upto_region 11 with (fail)
      generalize ha0 : Act.mk _ _ = a0
      have oe5 : a0.eval (.tmp 5) = .slice aor rs.length capr := by rw [← ha0]; rfl
      have hsz0 : a0.tmps.size = 113 := by rw [← ha0]; rfl
      have HA0 := hid ha0
      clear ha0
      refine wp_region_Q0 113 hsz0 [43, 44, 45, 46, 9] [qi (.slice aor rs.length capr), qi (.int .i64 rs.length), qi (.int .u8 ((rs.length : Nat) : Int)), qv 0, qv 0] ⟨qi_stable, qi_stable, qi_stable, qv_stable, qv_stable, trivial⟩ [3] ⟨?_, ?_, ?_, ?_, ?_, trivial⟩ ?_
      · exact stq (fun E => ex_move rfl (E.v oe5))
      · exact stq (fun E => ex_lenS rfl (E.d 0) Try.underlying91)
      · exact stq (fun E => ex_convIE rfl (by kernel_rfl) Try.underlying5 (E.d 1) (u8_in (by omega)))
      · exact stepq_chain rfl
      · refine stepq_env rfl rfl rfl fun _ _ _ _ _ _ _ _ _ hd _ _ => ?_
        have h3 := hd ⟨3, .data⟩ (by simp) rfl _ rfl
        exact qe_run rfl (wanted_none rfl) (ex_assign rfl rfl) QE.refl h3
      intro u11_0 hr
      have zu11_0 := hr.size
      have Cx29 := hid (hr.new (S := (fun _ => False)))
      clear hr
      refine QChain.go fun Z act E => ?_
      have ea45 : act.eval (.tmp 45) = .int .u8 ((rs.length : Nat) : Int) := (E.d 2)
      refine qc_bytes rfl (wanted_none rfl) rfl Try.underlying22 (by kernel_rfl) (by decide) (C := #[.int .u8 ((rs.length : Nat) : Int)]) (by simp only [List.map_toArray, List.map_cons, List.map_nil, ea45]; kernel_rfl) ?_
      intro u11_1a qr0 hm
      have qtx := own_litR (bs := [((rs.length : Nat) : Int)]) (n := 1) (N := 900000) qr0 rfl (by intro b hb; simp only [List.mem_cons, List.not_mem_nil, or_false] at hb; subst hb; omega) rfl (by decide) hm
      clear qr0 ea45
      have zu11_1a := hm.size
      refine ⟨hm.mono (fun _ _ h => h.elim), (fun _ => rfl), ?_⟩
      intro u11_1 hr
      have zu11_1 := hr.size
      have Hx30 := hid (qtx.mod hr (by intro k h1 h2; omega))
      have Cx31 := hid (Cx29.out.go hm hr)
      clear Cx29 hm hr Z act E qtx
      refine QChain.nil fun vs hl hzz hrows hne => ?_
      obtain ⟨Z, hYZ, hZb, hV⟩ := hzz
      have f0 := fvi hV hl 0
      have f1 := fvi hV hl 1
      have f3 := fvc hV hl 3
      have f4 := fvc hV hl 4
      rw [show vs = [gw vs 0, gw vs 1, gw vs 2, gw vs 3, gw vs 4] from (gw_eta hl).trans rfl]
      have ha0 := HA0.out
      subst ha0
      clear HA0 hV hYZ hZb hsz0 hrows hne oe5
      simp only [putAll, Act.put, List.setIfInBounds_toArray, List.set_cons_zero, List.set_cons_succ, f0, f1, f3, f4]
      clear hl f0 f1 f3 f4
      go_upto_region 12 with (fail)
      generalize ha0 : Act.mk _ _ = a0
      have oe5 : a0.eval (.tmp 5) = .slice aor rs.length capr := by rw [← ha0]; rfl
      have hsz0 : a0.tmps.size = 113 := by rw [← ha0]; rfl
      have HA0 := hid ha0
      clear ha0
      refine wp_region_Q0 113 hsz0 [47, 48, 49] [qi (.slice aor rs.length capr), qi (.int .i64 rs.length), qi (.int .i64 0)] ⟨qi_stable, qi_stable, qi_stable, trivial⟩ [] ⟨?_, ?_, ?_, trivial⟩ ?_
      · exact stq (fun E => ex_move rfl (E.v oe5))
      · exact stq (fun E => ex_lenS rfl (E.d 0) Try.underlying91)
      · exact stq (fun E => ex_move rfl rfl)
      intro u12_0 hr
      have zu12_0 := hr.size
      have Cx32 := hid (hr.new (S := (fun _ => False)))
      clear hr
      refine QChain.nil fun vs hl hzz hrows hne => ?_
      obtain ⟨Z, hYZ, hZb, hV⟩ := hzz
      have f0 := fvi hV hl 0
      have f1 := fvi hV hl 1
      have f2 := fvi hV hl 2
      rw [show vs = [gw vs 0, gw vs 1, gw vs 2] from (gw_eta hl).trans rfl]
      have ha0 := HA0.out
      subst ha0
      clear HA0 hV hYZ hZb hsz0 hrows hne oe5
      simp only [putAll, Act.put, List.setIfInBounds_toArray, List.set_cons_zero, List.set_cons_succ, f0, f1, f2]
      clear hl f0 f1 f2
      go_wp2
      go_loopw [9, 49] (fun ta ti wr => ∃ k : Nat, ti = .int .i64 (k : Int) ∧ k ≤ rs.length ∧ u12_0.heap.size ≤ wr.heap.size ∧ OwR (fun b => New u9_2 wr b) 900000 wr ta ([((rs.length : Nat) : Int)] ++ ((rs.take k).map rowB).flatten) ∧ OwS BtR 22 PR PE wr (.slice aor rs.length capr) rs ∧ OwR PA 900000 wr (.slice aoa (rs.flatten.length) capa) rs.flatten ∧ Cs wr qh ((shaF (rowsB2 rs)).map bv : List Value).toArray 26 ∧ Mod (fun _ => False) w wr) (fun _ ti _ => rs.length - (intOf ti).toNat)
      case atStart => exact ⟨0, rfl, Nat.zero_le _, Nat.le_refl _, (by have hq := ((Hx30.out.mod Cx32.out (fun _ _ h => h)).widen (R' := fun b => New u9_2 u12_0 b) (by intro k h1; omega) (Nat.le_refl _)); simpa only [List.take_zero, List.map_nil, List.flatten_nil, List.append_nil] using hq), (((((HRW.out.mod Cx20.out (fun _ _ h => h) (fun _ _ h => h)).mod Cx22.out (fun _ _ h => h) (fun _ _ h => h)).mod Cx28.out (fun _ _ h => h) (fun _ _ h => h)).mod Cx31.out (fun _ _ h => h) (fun _ _ h => h)).mod Cx32.out (fun _ _ h => h) (fun _ _ h => h)), (((((HAL.out.mod Cx20.out (fun _ _ h => h)).mod Cx22.out (fun _ _ h => h)).mod Cx28.out (fun _ _ h => h)).mod Cx31.out (fun _ _ h => h)).mod Cx32.out (fun _ _ h => h)), (((Hx23.out.mod Cx28.out (fun h => h)).mod Cx31.out (fun h => h)).mod Cx32.out (fun h => h)), (((((HMM.out.trans Cx20.out (fun _ _ h => h.elim)).trans Cx22.out (fun _ _ h => h.elim)).trans Cx28.out (fun _ _ h => h.elim)).trans Cx31.out (fun _ _ h => h.elim)).trans Cx32.out (fun _ _ h => h.elim))⟩
      case round =>
        obtain ⟨k, rfl, hk, hzt, hta, h1, h2, h3, h4⟩ := hrel
        obtain ⟨wt, rfl⟩ : ∃ x, x = wr := ⟨_, rfl⟩
        obtain ⟨aot, capt, rfl⟩ := hta.shape
        have HTX := Lib.hid hta
        have HRW2 := Lib.hid h1
        have HAL2 := Lib.hid h2
        have HQH2 := Lib.hid h3
        have HMM2 := Lib.hid h4
        clear hta h1 h2 h3 h4 HRW HAL HMM Hx23 Hx30
        by_cases hlt : k < rs.length
        · skip
          go_upto_region 14 with (fail)
          generalize ha0 : Act.mk _ _ = a0
          have oe49 : a0.eval (.tmp 49) = .int .i64 ((k : Nat) : Int) := by rw [← ha0]; rfl
          have hsz0 : a0.tmps.size = 113 := by rw [← ha0]; rfl
          have HA0 := hid ha0
          clear ha0
          refine wp_region_Q0 113 hsz0 [51, 10] [qi (.int .i64 ((k : Nat) : Int)), qi (.int .i64 ((k : Nat) : Int))] ⟨qi_stable, qi_stable, trivial⟩ [] ⟨?_, ?_, trivial⟩ ?_
          · exact stq (fun E => ex_move rfl (E.v oe49))
          · exact stq (fun E => ex_assign rfl (E.d 0))
          intro u14_0 hr
          have zu14_0 := hr.size
          have Cx33 := hid (hr.new (S := (fun _ => False)))
          clear hr
          refine QChain.nil fun vs hl hzz hrows hne => ?_
          obtain ⟨Z, hYZ, hZb, hV⟩ := hzz
          have f0 := fvi hV hl 0
          have f1 := fvi hV hl 1
          rw [show vs = [gw vs 0, gw vs 1] from (gw_eta hl).trans rfl]
          have ha0 := HA0.out
          subst ha0
          clear HA0 hV hYZ hZb hsz0 hrows hne oe49
          simp only [putAll, Act.put, List.setIfInBounds_toArray, List.set_cons_zero, List.set_cons_succ, f0, f1]
          clear hl f0 f1
          have hat := (HRW2.out.mod Cx33.out (fun _ _ h => h) (fun _ _ h => h)).rd.at (i := k) hlt
          obtain ⟨g6, o6, cs6, eao, hrg, hrd, hcs⟩ := hat
          have H406 := hid (H40.out rs[k] (List.getElem_mem hlt))
          obtain ⟨y, hy⟩ : ∃ y, y = rs[k] := ⟨_, rfl⟩
          have HEY := hid (show ([((rs.length : Nat) : Int)] ++ ((rs.take k).map rowB).flatten) ++ rowB y = ([((rs.length : Nat) : Int)] ++ ((rs.take (k + 1)).map rowB).flatten) by rw [List.take_succ_eq_append_getElem hlt, List.map_append, List.flatten_append, hy]; simp [List.append_assoc])
          rw [← hy] at hrd H406
          obtain ⟨v6, rfl, hr6⟩ := hrd
          obtain ⟨ao6, cap6, rfl⟩ := hr6.shape
          subst eao
          clear hy
          have HC6 := hid (show CellsAt (fun k => (PR k) ∨ (PE k)) u14_0 g6 (o6 + k * 1) [Value.slice ao6 y.length cap6] from ⟨hrg, hcs⟩)
          have HS6 := hid (show RdR (fun k => (PR k) ∨ (PE k)) y.length u14_0 (.slice ao6 y.length cap6) y from hr6)
          clear hrg hcs hr6
          have HTL := hid (txt_len H40.out (by omega) : ([((rs.length : Nat) : Int)] ++ ((rs.take k).map rowB).flatten).length ≤ 300)
          go_upto_region 15 with (fail)
          generalize ha0 : Act.mk _ _ = a0
          have oe5 : a0.eval (.tmp 5) = .slice (some ⟨g6, o6, none⟩) rs.length capr := by rw [← ha0]; rfl
          have oe9 : a0.eval (.tmp 9) = .slice aot (([((rs.length : Nat) : Int)] ++ ((rs.take k).map rowB).flatten).length) capt := by rw [← ha0]; rfl
          have oe10 : a0.eval (.tmp 10) = .int .i64 ((k : Nat) : Int) := by rw [← ha0]; rfl
          have hsz0 : a0.tmps.size = 113 := by rw [← ha0]; rfl
          have HA0 := hid ha0
          clear ha0
          refine wp_region_Q1 113 hsz0 [52, 53, 54, 55, 56, 57, 58, 59, 60, 61, 62, 63, 64, 65, 9] (fun k => (New u9_2 wt k)) (fun k j => (k = 1 ∧ ((New u9_2 wt j))) ∨ (k = 2 ∧ ((New u9_2 wt j)))) (by intro k j h; (try dsimp only at h ⊢); omega) [qi (.slice aot (([((rs.length : Nat) : Int)] ++ ((rs.take k).map rowB).flatten).length) capt), qi (.slice (some ⟨g6, o6, none⟩) rs.length capr), qi (.int .i64 ((k : Nat) : Int)), qi (.pointer (some ⟨g6, o6 + k * 1, none⟩)), qi (.slice ao6 y.length cap6), qi (.int .i64 y.length), qi (.int .u8 ((y.length : Nat) : Int)), qv 0, qv 1, qi (.slice (some ⟨g6, o6, none⟩) rs.length capr), qi (.int .i64 ((k : Nat) : Int)), qi (.pointer (some ⟨g6, o6 + k * 1, none⟩)), qi (.slice ao6 y.length cap6), qv 2, qv 2] ⟨qi_stable, qi_stable, qi_stable, qi_stable, qi_stable, qi_stable, qi_stable, qv_stable, qv_stable, qi_stable, qi_stable, qi_stable, qi_stable, qv_stable, qv_stable, trivial⟩ [7, 8, 13] ⟨?_, ?_, ?_, ?_, ?_, ?_, ?_, ?_, ?_, ?_, ?_, ?_, ?_, ?_, ?_, trivial⟩ ?_
          · exact stq (fun E => ex_move rfl ((E.pre 14 9 rfl (by kernel_rfl)).trans oe9))
          · exact stq (fun E => ex_move rfl (E.v oe5))
          · exact stq (fun E => ex_move rfl (E.v oe10))
          · exact stq (fun E => ex_idxS (i := k) (s := 1) rfl Try.underlying91 (by kernel_rfl) (E.d 1) (E.d 2) hlt)
          · exact stq (fun E => ex_load1 rfl Try.underlying22 rfl (E.d 3) ((HC6.out.mod E.m (by intro k h1 h2; rcases h2 with ⟨h0, h2⟩ | h2 <;> rcases h1 with h1 | h1 <;> (first | omega | (have hb := HPR.out k h1; omega) | (have hb := HPE.out k h1; omega)))).2 0 _ rfl))
          · exact stq (fun E => ex_lenS rfl (E.d 4) Try.underlying22)
          · exact stq (fun E => ex_convIE rfl (by kernel_rfl) Try.underlying5 (E.d 5) (u8_in (by have := H406.out; omega)))
          · exact stepq_chain rfl
          · exact stepq_chain rfl
          · exact stq (fun E => ex_move rfl (E.v oe5))
          · exact stq (fun E => ex_move rfl (E.v oe10))
          · exact stq (fun E => ex_idxS (i := k) (s := 1) rfl Try.underlying91 (by kernel_rfl) (E.d 9) (E.d 10) hlt)
          · exact stq (fun E => ex_load1 rfl Try.underlying22 rfl (E.d 11) ((HC6.out.mod E.m (by intro k h1 h2; rcases h2 with ⟨h0, h2⟩ | h2 <;> rcases h1 with h1 | h1 <;> (first | omega | (have hb := HPR.out k h1; omega) | (have hb := HPE.out k h1; omega)))).2 0 _ rfl))
          · exact stepq_chain rfl
          · refine stepq_env rfl rfl rfl fun _ _ _ _ _ _ _ _ _ hd _ _ => ?_
            have h13 := hd ⟨13, .data⟩ (by simp) rfl _ rfl
            exact qe_run rfl (wanted_none rfl) (ex_assign rfl rfl) QE.refl h13
          intro u15_0 hr
          have zu15_0 := hr.size
          have Cx34 := hid (hr.new (S := (fun k => (New u9_2 wt k))))
          have Hx35 := hid ((HTX.out.mod Cx33.out (fun _ _ h => h)).mod hr (by intro k h1 h2; omega))
          clear HTX
          clear hr
          refine QChain.go fun Z act E => ?_
          have ea58 : act.eval (.tmp 58) = .int .u8 ((y.length : Nat) : Int) := (E.d 6)
          refine qc_bytes rfl (wanted_none rfl) rfl Try.underlying22 (by kernel_rfl) (by decide) (C := #[.int .u8 ((y.length : Nat) : Int)]) (by simp only [List.map_toArray, List.map_cons, List.map_nil, ea58]; kernel_rfl) ?_
          intro u15_1a qr0 hm
          have qb1 := own_litR (bs := [((y.length : Nat) : Int)]) (n := 1) (N := 900000) qr0 rfl (by intro b hb; simp only [List.mem_cons, List.not_mem_nil, or_false] at hb; subst hb; have := H406.out; omega) rfl (by decide) hm
          clear qr0 ea58
          have zu15_1a := hm.size
          refine ⟨hm.mono (fun _ _ h => h.elim), (fun _ => rfl), ?_⟩
          intro u15_1 hr
          have zu15_1 := hr.size
          have Hx36 := hid (qb1.mod hr (by intro k h1 h2; omega))
          have hmr := Mod.after hm hr
          have Hx37 := hid (Hx35.out.mod hmr (by intro k h1 h2; omega))
          clear Hx35
          clear hmr
          have Cx38 := hid (Cx34.out.go hm hr)
          clear Cx34 hm hr Z act E qb1
          refine QChain.go fun Z act E => ?_
          refine qc_appR rfl (wanted_none rfl) rfl (E.d 0) (chv (v := .slice (some ⟨u15_0.heap.size, 0, none⟩) 1 1) (E.d 7)) Hx37.out Hx36.out.rd (by have := HTL.out; have := H406.out; simp only [List.length_append, List.length_cons, List.length_nil] at *; omega) ?_
          intro ao19 cap19 u15_2a qtx hm
          have zu15_2a := hm.size
          refine ⟨hm.mono (by intro k hk h; omega), (fun _ => rfl), ?_⟩
          intro u15_2 hr
          have zu15_2 := hr.size
          have Hx39 := hid ((qtx.widen (R' := (fun k => (New u9_2 wt k) ∨ (New u15_1 u15_2a k))) (fun _ h => h) (Nat.le_refl _)).mod hr (by intro k h1 h2; omega))
          have hmr := hm.two hr
          have Hx40 := hid (Hx36.out.mod hmr (by intro k h1 h2; omega))
          clear Hx36
          clear hmr
          have Cx41 := hid (Cx38.out.goM hm hr (fun _ _ h => h))
          clear Cx38 hm hr Z act E qtx Hx37
          refine QChain.go fun Z act E => ?_
          refine qc_appR rfl (wanted_none rfl) rfl (chv (v := .slice ao19 (([((rs.length : Nat) : Int)] ++ ((rs.take k).map rowB).flatten).length + 1) cap19) (E.d 8)) (E.d 12) Hx39.out (HS6.out.mod Cx41.out (by intro k h1 h2; rcases h1 with h1 | h1 <;> first | omega | (have hb := HPR.out k h1; omega) | (have hb := HPE.out k h1; omega))) (by have := HTL.out; have := H406.out; simp only [List.length_append, List.length_cons, List.length_nil] at *; omega) ?_
          intro ao21 cap21 u15_3a qtx hm
          have zu15_3a := hm.size
          refine ⟨hm.mono (by intro k hk h; omega), (fun _ => rfl), ?_⟩
          intro u15_3 hr
          have zu15_3 := hr.size
          have Hx42 := hid ((qtx.widen (R' := (fun k => (New u9_2 wt k) ∨ (New u15_1 u15_2a k) ∨ (New u15_2 u15_3a k))) (by intro k h1; omega) (Nat.le_refl _)).mod hr (by intro k h1 h2; omega))
          have hmr := hm.two hr
          have Hx43 := hid (Hx40.out.mod hmr (by intro k h1 h2; omega))
          clear Hx40
          clear hmr
          have Cx44 := hid (Cx41.out.goM hm hr (by intro k h0 h2; omega))
          clear Cx41 hm hr Z act E qtx Hx39
          refine QChain.nil fun vs hl hzz hrows hne => ?_
          obtain ⟨Z, hYZ, hZb, hV⟩ := hzz
          have f0 := fvi hV hl 0
          have f1 := fvi hV hl 1
          have f2 := fvi hV hl 2
          have f5 := fvi hV hl 5
          have f7 := fvc hV hl 7
          have f8 := fvc hV hl 8
          have f9 := fvi hV hl 9
          have f10 := fvi hV hl 10
          have f13 := fvc hV hl 13
          have f14 := fvc hV hl 14
          rw [show vs = [gw vs 0, gw vs 1, gw vs 2, gw vs 3, gw vs 4, gw vs 5, gw vs 6, gw vs 7, gw vs 8, gw vs 9, gw vs 10, gw vs 11, gw vs 12, gw vs 13, gw vs 14] from (gw_eta hl).trans rfl]
          have ha0 := HA0.out
          subst ha0
          clear HA0 hV hYZ hZb hsz0 hrows hne oe5 oe9 oe10
          simp only [putAll, Act.put, List.setIfInBounds_toArray, List.set_cons_zero, List.set_cons_succ, f0, f1, f2, f5, f7, f8, f9, f10, f13, f14]
          clear hl f0 f1 f2 f5 f7 f8 f9 f10 f13 f14
          have hq := Hx42.out
          rw [show (([((rs.length : Nat) : Int)] ++ ((rs.take k).map rowB).flatten) ++ [((y.length : Nat) : Int)]) ++ y = ([((rs.length : Nat) : Int)] ++ ((rs.take (k + 1)).map rowB).flatten) from (by rw [← HEY.out, rowB_small (Nat.lt_of_le_of_lt H406.out (by decide))]; simp only [List.append_assoc, List.singleton_append, List.cons_append, List.nil_append])] at hq
          have HQT := Lib.hid hq
          clear hq
          go_wp2
          go_roundw
          case rel => exact ⟨k + 1, by go_num, by omega, by omega, (HQT.out.widen (by intro b h1; omega) (Nat.le_refl _)), ((HRW2.out.mod Cx33.out (fun _ _ h => h) (fun _ _ h => h)).mod Cx44.out (by intro k h1 h2; have hb := HPR.out k h1; omega) (by intro k h1 h2; have hb := HPE.out k h1; omega)), ((HAL2.out.mod Cx33.out (fun _ _ h => h)).mod Cx44.out (by intro k h1 h2; have hb := HPA.out k h1; omega)), ((HQH2.out.mod Cx33.out (fun h => h)).mod Cx44.out (by intro h2; omega)), ((HMM2.out.trans Cx33.out (fun _ _ h => h.elim)).trans Cx44.out (by intro k h1 h2; omega))⟩
          case measure => simp [intOf]; omega
        · obtain rfl : k = rs.length := by omega
          have hq := HTX.out
          rw [List.take_length, show [((rs.length : Nat) : Int)] ++ (rs.map rowB).flatten = rowsB2 rs from rows_small hnl] at hq
          have HTX3 := Lib.hid hq
          clear hq HTX
          rw [List.take_length, show [((rs.length : Nat) : Int)] ++ (rs.map rowB).flatten = rowsB2 rs from rows_small hnl]
          obtain ⟨kn, hkn, hkl2⟩ := within_nat cut (((rs.flatten.length : Nat) : Int) + 1) (by omega)
          have HKN := Lib.hid hkn
          have hkl3 : kn ≤ rs.flatten.length := by omega
          have HKL := Lib.hid hkl3
          clear hkn hkl2
          go_upto_region 17 with (fail)
          generalize ha0 : Act.mk _ _ = a0
          have oe1 : a0.eval (.tmp 1) = .int .i64 cut := by rw [← ha0]; rfl
          have oe6 : a0.eval (.tmp 6) = .slice aoa (rs.flatten.length) capa := by rw [← ha0]; rfl
          have hsz0 : a0.tmps.size = 113 := by rw [← ha0]; rfl
          have HA0 := hid ha0
          clear ha0
          refine wp_region_Q0 113 hsz0 [67, 68, 69, 70, 71, 11] [qi (.int .i64 cut), qi (.slice aoa (rs.flatten.length) capa), qi (.int .i64 (rs.flatten.length)), qi (.int .i64 (((rs.flatten.length : Nat) : Int) + 1)), qi (.int .i64 ((kn : Nat) : Int)), qi (.int .i64 ((kn : Nat) : Int))] ⟨qi_stable, qi_stable, qi_stable, qi_stable, qi_stable, qi_stable, trivial⟩ [] ⟨?_, ?_, ?_, ?_, ?_, ?_, trivial⟩ ?_
          · exact stq (fun E => ex_move rfl (E.v oe1))
          · exact stq (fun E => ex_move rfl (E.v oe6))
          · exact stq (fun E => ex_lenS rfl (E.d 1) Try.underlying22)
          · exact stq (fun E => ex_binE rfl (E.d 2) rfl (guard_ints _ _ _ _ _ _) (run_add_i _ _ Try.underlying3) (congrArg (Value.int .i64) (IntWalk.i64_in _ (by have := HFL.out; omega))))
          · refine stepq_env rfl rfl rfl fun _ _ _ _ _ _ _ _ _ hd _ _ => ?_
            have h0 := hd ⟨0, .data⟩ (by simp) rfl _ rfl
            have h3 := hd ⟨3, .data⟩ (by simp) rfl _ rfl
            refine qe_callF (args := #[.int .i64 cut, .int .i64 (((rs.flatten.length : Nat) : Int) + 1)]) rfl (wanted_none rfl) rfl Try.func14 (args2 h0 h3) (HKN.out ▸ Within_any cut (((rs.flatten.length : Nat) : Int) + 1) (by omega) (by have := HFL.out; omega) HCUT.out _) ?_
            rintro e w2 ⟨rfl, rfl⟩
            exact ⟨_, rfl, QE.refl, rfl⟩
          · exact stq (fun E => ex_assign rfl (E.d 4))
          intro u17_0 hr
          have zu17_0 := hr.size
          have Cx45 := hid (hr.new (S := (fun _ => False)))
          clear hr
          refine QChain.nil fun vs hl hzz hrows hne => ?_
          obtain ⟨Z, hYZ, hZb, hV⟩ := hzz
          have f0 := fvi hV hl 0
          have f1 := fvi hV hl 1
          have f2 := fvi hV hl 2
          have f4 := fvi hV hl 4
          have f5 := fvi hV hl 5
          rw [show vs = [gw vs 0, gw vs 1, gw vs 2, gw vs 3, gw vs 4, gw vs 5] from (gw_eta hl).trans rfl]
          have ha0 := HA0.out
          subst ha0
          clear HA0 hV hYZ hZb hsz0 hrows hne oe1 oe6
          simp only [putAll, Act.put, List.setIfInBounds_toArray, List.set_cons_zero, List.set_cons_succ, f0, f1, f2, f4, f5]
          clear hl f0 f1 f2 f4 f5
          have HACAP := hid (show rs.flatten.length ≤ capa from ((HAL2.out.mod Cx45.out (fun _ _ h => h))).1.rd.len.2.1)
          have HFT := hid (show (rs.flatten.take kn).length ≤ 200 by rw [List.length_take]; have := HFL.out; omega)
          have HFD := hid (show (rs.flatten.drop kn).length ≤ 200 by rw [List.length_drop]; have := HFL.out; omega)
          have HT9 := hid (show (rowsB2 rs).length ≤ 900000 from by have h := txt_len (k := rs.length) H40.out (by omega); rw [List.take_length, show [((rs.length : Nat) : Int)] ++ (rs.map rowB).flatten = rowsB2 rs from rows_small hnl] at h; omega)
          go_upto_region 18 with (fail)
          generalize ha0 : Act.mk _ _ = a0
          have oe6 : a0.eval (.tmp 6) = .slice aoa (rs.flatten.length) capa := by rw [← ha0]; rfl
          have oe8 : a0.eval (.tmp 8) = .pointer (some ⟨qh, 0, none⟩) := by rw [← ha0]; rfl
          have oe9 : a0.eval (.tmp 9) = .slice aot (rowsB2 rs).length capt := by rw [← ha0]; rfl
          have oe11 : a0.eval (.tmp 11) = .int .i64 ((kn : Nat) : Int) := by rw [← ha0]; rfl
          have hsz0 : a0.tmps.size = 113 := by rw [← ha0]; rfl
          have HA0 := hid ha0
          clear ha0
          refine wp_region_Q0 113 hsz0 [72, 73, 74, 75, 76, 77, 78, 79, 80, 81, 82, 83, 84, 85, 86, 87, 88, 89, 90, 91, 92, 93, 94, 95, 96, 97, 98, 99, 100, 101, 102, 103, 104, 105, 106, 107, 108, 109, 110, 111, 112, 4] [qi (hv (shaF (rowsB2 rs))), qi (.slice aot (rowsB2 rs).length capt), qi (hv (shaF (rowsB2 rs))), qi (.bool true), qi (.bool true), qi (.slice aoa (rs.flatten.length) capa), qv 1, qi (hv (shaF (rowsB2 [rs.flatten]))), ql u17_0.heap.size 5 ([1].map bv).toArray, qi (.slice aoa (rs.flatten.length) capa), qv 3, qv 4, qi (hv (shaF (rowsB2 [rs.flatten]))), qi (.bool true), qi (.bool true), qi (.bool true), qi (.slice aoa (rs.flatten.length) capa), qi (.int .i64 ((kn : Nat) : Int)), qi (.slice aoa kn capa), qi (.slice aoa (rs.flatten.length) capa), qi (.int .i64 ((kn : Nat) : Int)), qi (frV aoa (rs.flatten.length) capa kn), qv 6, qi (hv (shaF (rowsB2 [(rs.flatten.take kn), (rs.flatten.drop kn)]))), ql u17_0.heap.size 5 ([2].map bv).toArray, qi (.slice aoa (rs.flatten.length) capa), qi (.int .i64 ((kn : Nat) : Int)), qi (.slice aoa kn capa), qv 8, qv 9, qi (.slice aoa (rs.flatten.length) capa), qi (.int .i64 ((kn : Nat) : Int)), qi (frV aoa (rs.flatten.length) capa kn), qv 10, qv 11, qi (hv (shaF (rowsB2 [(rs.flatten.take kn), (rs.flatten.drop kn)]))), qi (.bool true), qi (.bool true), qi (.bool true), qi (.bool true), qi (.bool true), qi (.bool true)] ⟨qi_stable, qi_stable, qi_stable, qi_stable, qi_stable, qi_stable, qv_stable, qi_stable, ql_stable, qi_stable, qv_stable, qv_stable, qi_stable, qi_stable, qi_stable, qi_stable, qi_stable, qi_stable, qi_stable, qi_stable, qi_stable, qi_stable, qv_stable, qi_stable, ql_stable, qi_stable, qi_stable, qi_stable, qv_stable, qv_stable, qi_stable, qi_stable, qi_stable, qv_stable, qv_stable, qi_stable, qi_stable, qi_stable, qi_stable, qi_stable, qi_stable, qi_stable, trivial⟩ [2, 6, 7, 10, 11, 12, 22, 23, 28, 29, 33, 34, 35, 39] ⟨?_, ?_, ?_, ?_, ?_, ?_, ?_, ?_, ?_, ?_, ?_, ?_, ?_, ?_, ?_, ?_, ?_, ?_, ?_, ?_, ?_, ?_, ?_, ?_, ?_, ?_, ?_, ?_, ?_, ?_, ?_, ?_, ?_, ?_, ?_, ?_, ?_, ?_, ?_, ?_, ?_, ?_, trivial⟩ ?_
          · exact stq (fun E => ex_loadA rfl Try.underlying26 rfl (off := 0) (cs := (shaF (rowsB2 rs)).map bv) (by rw [List.length_map, shaF_len]; exact size_hash) (E.v oe8) (Cs.whole ((HQH2.out.mod Cx45.out (fun h => h)).mod E.m.old (by intro h2; omega))))
          · exact stq (fun E => ex_move rfl (E.v oe9))
          · exact stepq_chain rfl
          · exact stq (fun E => ex_binE rfl (E.d 0) (E.d 2) (hv_guard2 _ _ _ _ _ _) (hv_eql (shaF_len _) (shaF_len _) _) (congrArg Value.bool (decide_eq_true rfl)))
          · exact stq (fun E => ex_move rfl (E.d 3))
          · refine stepq_env rfl rfl rfl fun _ _ _ _ _ _ _ hout hsz hd _ _ => ?_
            have h4 := hd ⟨4, .guard⟩ (by simp) rfl _ rfl
            refine qe_run rfl ((wanted_of rfl rfl (hsz 76 (by decide)) h4).trans rfl) (ex_move rfl ((hout 6 (by decide)).trans oe6)) QE.refl ?_
            rfl
          · exact stepq_chain rfl
          · exact stepq_chain rfl
          · refine stepq_env rfl rfl rfl fun _ tr _ _ hZ hm _ _ hsz hd _ _ => ?_
            have h4 := hd ⟨4, .guard⟩ (by simp) rfl _ rfl
            exact qe_run rfl ((wanted_of rfl rfl (hsz 76 (by decide)) h4).trans rfl) (ex_lit rfl Try.underlying22 (by kernel_rfl) (by decide) (C := ([1].map bv).toArray) (by simp only [List.map_toArray, List.map_cons, List.map_nil, Act.eval]; kernel_rfl)) (QE.still ((Mod.refl _ _).alloc _)) (ql_new (t := tr) (C := ([1].map bv).toArray) hm.size hZ)
          · refine stepq_env rfl rfl rfl fun _ _ _ _ _ _ _ hout hsz hd _ _ => ?_
            have h4 := hd ⟨4, .guard⟩ (by simp) rfl _ rfl
            refine qe_run rfl ((wanted_of rfl rfl (hsz 76 (by decide)) h4).trans rfl) (ex_move rfl ((hout 6 (by decide)).trans oe6)) QE.refl ?_
            rfl
          · exact stepq_chain rfl
          · exact stepq_chain rfl
          · exact stepq_chain rfl
          · refine stepq_env rfl rfl rfl fun _ _ _ _ _ _ _ _ hsz hd _ _ => ?_
            have h4 := hd ⟨4, .guard⟩ (by simp) rfl _ rfl
            have h7 := hd ⟨7, .data⟩ (by simp) rfl _ rfl
            have h12 := hd ⟨12, .data⟩ (by simp) rfl _ rfl
            refine qe_run rfl ((wanted_of rfl rfl (hsz 76 (by decide)) h4).trans rfl) (ex_binE rfl h7 h12 (hv_guard2 _ _ _ _ _ _) (hv_eql (shaF_len _) (shaF_len _) _) (congrArg Value.bool (decide_eq_true rfl))) QE.refl ?_
            rfl
          · exact stq (fun E => ex_pick rfl (E.d 4) (E.d 13) rfl)
          · exact stq (fun E => ex_move rfl (E.d 14))
          · refine stepq_env rfl rfl rfl fun _ _ _ _ _ _ _ hout hsz hd _ _ => ?_
            have h15 := hd ⟨15, .guard⟩ (by simp) rfl _ rfl
            refine qe_run rfl ((wanted_of rfl rfl (hsz 87 (by decide)) h15).trans rfl) (ex_move rfl ((hout 6 (by decide)).trans oe6)) QE.refl ?_
            rfl
          · refine stepq_env rfl rfl rfl fun _ _ _ _ _ _ _ hout hsz hd _ _ => ?_
            have h15 := hd ⟨15, .guard⟩ (by simp) rfl _ rfl
            refine qe_run rfl ((wanted_of rfl rfl (hsz 87 (by decide)) h15).trans rfl) (ex_move rfl ((hout 11 (by decide)).trans oe11)) QE.refl ?_
            rfl
          · refine stepq_env rfl rfl rfl fun _ _ _ _ _ _ _ _ hsz hd _ _ => ?_
            have h15 := hd ⟨15, .guard⟩ (by simp) rfl _ rfl
            have h16 := hd ⟨16, .data⟩ (by simp) rfl _ rfl
            have h17 := hd ⟨17, .data⟩ (by simp) rfl _ rfl
            refine qe_run rfl ((wanted_of rfl rfl (hsz 87 (by decide)) h15).trans rfl) (ex_sliceTo (i := kn) (s := 1) rfl Try.underlying22 (by kernel_rfl) h16 h17 (by have := HKL.out; have := HACAP.out; omega)) QE.refl ?_
            rfl
          · refine stepq_env rfl rfl rfl fun _ _ _ _ _ _ _ hout hsz hd _ _ => ?_
            have h15 := hd ⟨15, .guard⟩ (by simp) rfl _ rfl
            refine qe_run rfl ((wanted_of rfl rfl (hsz 87 (by decide)) h15).trans rfl) (ex_move rfl ((hout 6 (by decide)).trans oe6)) QE.refl ?_
            rfl
          · refine stepq_env rfl rfl rfl fun _ _ _ _ _ _ _ hout hsz hd _ _ => ?_
            have h15 := hd ⟨15, .guard⟩ (by simp) rfl _ rfl
            refine qe_run rfl ((wanted_of rfl rfl (hsz 87 (by decide)) h15).trans rfl) (ex_move rfl ((hout 11 (by decide)).trans oe11)) QE.refl ?_
            rfl
          · refine stepq_env rfl rfl rfl fun _ _ _ _ _ _ _ _ hsz hd _ _ => ?_
            have h15 := hd ⟨15, .guard⟩ (by simp) rfl _ rfl
            have h19 := hd ⟨19, .data⟩ (by simp) rfl _ rfl
            have h20 := hd ⟨20, .data⟩ (by simp) rfl _ rfl
            refine qe_run rfl ((wanted_of rfl rfl (hsz 87 (by decide)) h15).trans rfl) (ex_sliceFrom (i := kn) rfl Try.underlying22 (by kernel_rfl) h19 h20 HKL.out HACAP.out) QE.refl ?_
            rfl
          · exact stepq_chain rfl
          · exact stepq_chain rfl
          · refine stepq_env rfl rfl rfl fun _ tr _ _ hZ hm _ _ hsz hd _ _ => ?_
            have h15 := hd ⟨15, .guard⟩ (by simp) rfl _ rfl
            exact qe_run rfl ((wanted_of rfl rfl (hsz 87 (by decide)) h15).trans rfl) (ex_lit rfl Try.underlying22 (by kernel_rfl) (by decide) (C := ([2].map bv).toArray) (by simp only [List.map_toArray, List.map_cons, List.map_nil, Act.eval]; kernel_rfl)) (QE.still ((Mod.refl _ _).alloc _)) (ql_new (t := tr) (C := ([2].map bv).toArray) hm.size hZ)
          · refine stepq_env rfl rfl rfl fun _ _ _ _ _ _ _ hout hsz hd _ _ => ?_
            have h15 := hd ⟨15, .guard⟩ (by simp) rfl _ rfl
            refine qe_run rfl ((wanted_of rfl rfl (hsz 87 (by decide)) h15).trans rfl) (ex_move rfl ((hout 6 (by decide)).trans oe6)) QE.refl ?_
            rfl
          · refine stepq_env rfl rfl rfl fun _ _ _ _ _ _ _ hout hsz hd _ _ => ?_
            have h15 := hd ⟨15, .guard⟩ (by simp) rfl _ rfl
            refine qe_run rfl ((wanted_of rfl rfl (hsz 87 (by decide)) h15).trans rfl) (ex_move rfl ((hout 11 (by decide)).trans oe11)) QE.refl ?_
            rfl
          · refine stepq_env rfl rfl rfl fun _ _ _ _ _ _ _ _ hsz hd _ _ => ?_
            have h15 := hd ⟨15, .guard⟩ (by simp) rfl _ rfl
            have h25 := hd ⟨25, .data⟩ (by simp) rfl _ rfl
            have h26 := hd ⟨26, .data⟩ (by simp) rfl _ rfl
            refine qe_run rfl ((wanted_of rfl rfl (hsz 87 (by decide)) h15).trans rfl) (ex_sliceTo (i := kn) (s := 1) rfl Try.underlying22 (by kernel_rfl) h25 h26 (by have := HKL.out; have := HACAP.out; omega)) QE.refl ?_
            rfl
          · exact stepq_chain rfl
          · exact stepq_chain rfl
          · refine stepq_env rfl rfl rfl fun _ _ _ _ _ _ _ hout hsz hd _ _ => ?_
            have h15 := hd ⟨15, .guard⟩ (by simp) rfl _ rfl
            refine qe_run rfl ((wanted_of rfl rfl (hsz 87 (by decide)) h15).trans rfl) (ex_move rfl ((hout 6 (by decide)).trans oe6)) QE.refl ?_
            rfl
          · refine stepq_env rfl rfl rfl fun _ _ _ _ _ _ _ hout hsz hd _ _ => ?_
            have h15 := hd ⟨15, .guard⟩ (by simp) rfl _ rfl
            refine qe_run rfl ((wanted_of rfl rfl (hsz 87 (by decide)) h15).trans rfl) (ex_move rfl ((hout 11 (by decide)).trans oe11)) QE.refl ?_
            rfl
          · refine stepq_env rfl rfl rfl fun _ _ _ _ _ _ _ _ hsz hd _ _ => ?_
            have h15 := hd ⟨15, .guard⟩ (by simp) rfl _ rfl
            have h30 := hd ⟨30, .data⟩ (by simp) rfl _ rfl
            have h31 := hd ⟨31, .data⟩ (by simp) rfl _ rfl
            refine qe_run rfl ((wanted_of rfl rfl (hsz 87 (by decide)) h15).trans rfl) (ex_sliceFrom (i := kn) rfl Try.underlying22 (by kernel_rfl) h30 h31 HKL.out HACAP.out) QE.refl ?_
            rfl
          · exact stepq_chain rfl
          · exact stepq_chain rfl
          · exact stepq_chain rfl
          · refine stepq_env rfl rfl rfl fun _ _ _ _ _ _ _ _ hsz hd _ _ => ?_
            have h15 := hd ⟨15, .guard⟩ (by simp) rfl _ rfl
            have h23 := hd ⟨23, .data⟩ (by simp) rfl _ rfl
            have h35 := hd ⟨35, .data⟩ (by simp) rfl _ rfl
            refine qe_run rfl ((wanted_of rfl rfl (hsz 87 (by decide)) h15).trans rfl) (ex_binE rfl h23 h35 (hv_guard2 _ _ _ _ _ _) (hv_eql (shaF_len _) (shaF_len _) _) (congrArg Value.bool (decide_eq_true rfl))) QE.refl ?_
            rfl
          · exact stq (fun E => ex_pick rfl (E.d 15) (E.d 36) rfl)
          · exact stq (fun E => ex_move rfl (E.d 37))
          · exact stepq_chain rfl
          · exact stq (fun E => ex_pick rfl (E.d 38) (E.d 39) rfl)
          · exact stq (fun E => ex_assign rfl (E.d 40))
          intro u18_0 hr
          have zu18_0 := hr.size
          have Cx46 := hid (hr.new (S := (fun _ => False)))
          clear hr
          refine QChain.go fun Z act E => ?_
          refine qc_callF (args := #[.slice aot (rowsB2 rs).length capt]) rfl (wanted_none rfl) rfl Try.func16 (args1 (E.d 1)) (Sum_any _ (rowsB2 rs) _ ((HTX3.out.mod Cx45.out (fun _ _ h => h)).mod Cx46.out (fun _ _ h => h)).rd.1 HT9.out) ?_
          rintro e u18_1a ⟨rfl, hm⟩
          have zu18_1a := hm.size
          refine ⟨_, rfl, hm.mono (fun _ _ h => h.elim), (fun _ => rfl), ?_⟩
          intro u18_1 hr
          have zu18_1 := hr.size
          have Cx47 := hid (Cx46.out.go hm hr)
          clear Cx46 hm hr Z act E
          refine QChain.go fun Z act E => ?_
          have ea77 : act.eval (.tmp 77) = .slice aoa (rs.flatten.length) capa := (E.d 5)
          refine qc_rows rfl ((wanted_of rfl rfl (E.sz 76 (by decide)) (E.e 4 .guard)).trans rfl) rfl Try.underlying91 (by decide) (C := #[.slice aoa (rs.flatten.length) capa]) (by simp only [List.map_toArray, List.map_cons, List.map_nil, ea77]; kernel_rfl) ?_
          intro u18_2a qr1 hm
          have zl18_6 := qr1.lt
          have zu18_2a := hm.size
          refine ⟨hm.mono (fun _ _ h => h.elim), (fun _ => rfl), ?_⟩
          intro u18_2 hr
          have zu18_2 := hr.size
          have Hx48 := hid (qr1.mod hr (by intro h2; omega))
          have Cx49 := hid (Cx47.out.go hm hr)
          clear Cx47 hm hr Z act E qr1 ea77
          refine QChain.go fun Z act E => ?_
          refine qc_callF (args := #[.slice (some ⟨u18_1.heap.size, 0, none⟩) 1 1]) rfl ((wanted_of rfl rfl (E.sz 76 (by decide)) (E.e 4 .chain)).trans rfl) rfl Try.func35 (args1 (chv (v := .slice (some ⟨u18_1.heap.size, 0, none⟩) 1 1) (E.d 6))) (Rows_Q (RdS.single (R := (fun k => (PA k) ∨ (k = u18_1.heap.size))) Hx48.out ((BtR.mk ((HAL2.out.mod Cx45.out (fun _ _ h => h)).mod Cx49.out (fun _ _ h => h)).rd).widen (by intro k h1; first | omega | exact h1.elim | exact Or.inl h1 | exact Or.inr (h1))) (by first | exact Or.inr rfl | (right; omega))) (by intro a ha; simp only [List.mem_cons, List.not_mem_nil, or_false] at ha; subst ha; exact HFL.out) (by simp only [List.length_cons, List.length_nil]; decide)) ?_
          rintro e u18_3a ⟨rfl, hm⟩
          have zu18_3a := hm.size
          refine ⟨_, rfl, hm.mono (fun _ _ h => h.elim), (fun _ => rfl), ?_⟩
          intro u18_3 hr
          have zu18_3 := hr.size
          have hmr := Mod.after hm hr
          have Hx50 := hid (Hx48.out.mod hmr (by intro h2; omega))
          clear Hx48
          clear hmr
          have Cx51 := hid (Cx49.out.go hm hr)
          clear Cx49 hm hr Z act E
          refine QChain.go fun Z act E => ?_
          refine qc_callF (args := #[.slice aoa (rs.flatten.length) capa]) rfl ((wanted_of rfl rfl (E.sz 76 (by decide)) (E.e 4 .guard)).trans rfl) rfl Try.func37 (args1 (E.d 9)) (rowOf_Q ((HAL2.out.mod Cx45.out (fun _ _ h => h)).mod Cx51.out (fun _ _ h => h)).rd HFL.out) ?_
          rintro e u18_4a ⟨v_a1, rfl, qa1, hm⟩
          obtain ⟨ao_a1, cap_a1, rfl⟩ := qa1.shape
          have zu18_4a := hm.size
          refine ⟨_, rfl, hm.mono (fun _ _ h => h.elim), (fun _ => rfl), ?_⟩
          intro u18_4 hr
          have zu18_4 := hr.size
          have Hx52 := hid ((qa1.widen (R' := (fun k => (New u18_3 u18_4a k))) (fun _ h => h) (Nat.le_refl _)).mod hr (by intro k h1 h2; omega))
          have hmr := Mod.after hm hr
          have Hx53 := hid (Hx50.out.mod hmr (by intro h2; omega))
          clear Hx50
          clear hmr
          have Cx54 := hid (Cx51.out.go hm hr)
          clear Cx51 hm hr Z act E qa1
          refine QChain.go fun Z act E => ?_
          obtain ⟨gL, eL, -, -, mL, hL⟩ := E.d 8
          refine qc_appL rfl ((wanted_of rfl rfl (E.sz 76 (by decide)) (E.e 4 .guard)).trans rfl) rfl eL ⟨mL, hL⟩ (bs := [1]) rfl rfl (by unfold Bytes; decide) (chv (v := .slice ao_a1 (((encN rs.flatten.length ++ rs.flatten)).length) cap_a1) (E.d 10)) Hx52.out.rd (show 0 < (encN rs.flatten.length ++ rs.flatten).length by rw [List.length_append]; have := encN_pos (List.length rs.flatten); omega) (by have := HFL.out; simp only [List.length_append, List.length_cons, List.length_nil]; have := encN_small (rs.flatten).length (by omega); omega) ?_
          intro ao25 cap25 u18_5a qk2 hm
          clear eL hL
          have zu18_5a := hm.size
          refine ⟨hm.mono (fun _ _ h => h.elim), (fun _ => rfl), ?_⟩
          intro u18_5 hr
          have zu18_5 := hr.size
          have Hx55 := hid (qk2.mod hr (by intro k h1 h2; omega))
          have hmr := Mod.after hm hr
          have Hx56 := hid (Hx53.out.mod hmr (by intro h2; omega))
          have Hx57 := hid (Hx52.out.mod hmr (by intro k h1 h2; omega))
          clear Hx53 Hx52
          clear hmr
          have Cx58 := hid (Cx54.out.go hm hr)
          clear Cx54 hm hr Z act E qk2
          refine QChain.go fun Z act E => ?_
          refine qc_callF (args := #[.slice ao25 (1 + (encN rs.flatten.length ++ rs.flatten).length) cap25]) rfl ((wanted_of rfl rfl (E.sz 76 (by decide)) (E.e 4 .guard)).trans rfl) rfl Try.func16 (args1 (chv (v := .slice ao25 (1 + (encN rs.flatten.length ++ rs.flatten).length) cap25) (E.d 11))) (sum_eq (rowsB2_one _) (Sum_any _ _ _ Hx55.out.rd.1 (by have := HFL.out; simp only [List.length_append, List.length_cons, List.length_nil]; have := encN_small (rs.flatten).length (by omega); omega))) ?_
          rintro e u18_6a ⟨rfl, hm⟩
          have zu18_6a := hm.size
          refine ⟨_, rfl, hm.mono (fun _ _ h => h.elim), (fun _ => rfl), ?_⟩
          intro u18_6 hr
          have zu18_6 := hr.size
          have hmr := Mod.after hm hr
          have Hx59 := hid (Hx56.out.mod hmr (by intro h2; omega))
          have Hx60 := hid (Hx57.out.mod hmr (by intro k h1 h2; omega))
          have Hx61 := hid (Hx55.out.mod hmr (by intro k h1 h2; omega))
          clear Hx56 Hx57 Hx55
          clear hmr
          have Cx62 := hid (Cx58.out.go hm hr)
          clear Cx58 hm hr Z act E
          refine QChain.go fun Z act E => ?_
          have ea90 : act.eval (.tmp 90) = .slice aoa kn capa := (E.d 18)
          have ea93 : act.eval (.tmp 93) = frV aoa (rs.flatten.length) capa kn := (E.d 21)
          refine qc_rows rfl ((wanted_of rfl rfl (E.sz 87 (by decide)) (E.e 15 .guard)).trans rfl) rfl Try.underlying91 (by decide) (C := #[.slice aoa kn capa, frV aoa (rs.flatten.length) capa kn]) (by simp only [List.map_toArray, List.map_cons, List.map_nil, ea90, ea93]; kernel_rfl) ?_
          intro u18_7a qrow22 hm
          have zl18_22 := qrow22.lt
          have zu18_7a := hm.size
          refine ⟨hm.mono (fun _ _ h => h.elim), (fun _ => rfl), ?_⟩
          intro u18_7 hr
          have zu18_7 := hr.size
          have Hx63 := hid (qrow22.mod hr (by intro h2; omega))
          have hmr := Mod.after hm hr
          have Hx64 := hid (Hx59.out.mod hmr (by intro h2; omega))
          have Hx65 := hid (Hx60.out.mod hmr (by intro k h1 h2; omega))
          have Hx66 := hid (Hx61.out.mod hmr (by intro k h1 h2; omega))
          clear Hx59 Hx60 Hx61
          clear hmr
          have Cx67 := hid (Cx62.out.go hm hr)
          clear Cx62 hm hr Z act E qrow22 ea90 ea93
          refine QChain.go fun Z act E => ?_
          refine qc_callF (args := #[.slice (some ⟨u18_6.heap.size, 0, none⟩) 2 2]) rfl ((wanted_of rfl rfl (E.sz 87 (by decide)) (E.e 15 .chain)).trans rfl) rfl Try.func35 (args1 (chv (v := .slice (some ⟨u18_6.heap.size, 0, none⟩) 2 2) (E.d 22))) (Rows_Q (RdS_two (R := (fun k => (PA k) ∨ (k = u18_6.heap.size))) Hx63.out ((BtR.mk (((HAL2.out.mod Cx45.out (fun _ _ h => h)).mod Cx67.out (fun _ _ h => h)).rd.upto kn HKL.out)).widen (by intro k h1; first | omega | exact h1.elim | exact Or.inl h1 | exact Or.inr (h1))) ((BtR.mk (((HAL2.out.mod Cx45.out (fun _ _ h => h)).mod Cx67.out (fun _ _ h => h)).rd.from kn HKL.out)).widen (by intro k h1; first | omega | exact h1.elim | exact Or.inl h1 | exact Or.inr (h1))) (by first | exact Or.inr rfl | (right; omega))) (by intro a ha; simp only [List.mem_cons, List.not_mem_nil, or_false] at ha; rcases ha with rfl | rfl; exact HFT.out; exact HFD.out) (by simp only [List.length_cons, List.length_nil]; decide)) ?_
          rintro e u18_8a ⟨rfl, hm⟩
          have zu18_8a := hm.size
          refine ⟨_, rfl, hm.mono (fun _ _ h => h.elim), (fun _ => rfl), ?_⟩
          intro u18_8 hr
          have zu18_8 := hr.size
          have hmr := Mod.after hm hr
          have Hx68 := hid (Hx64.out.mod hmr (by intro h2; omega))
          have Hx69 := hid (Hx65.out.mod hmr (by intro k h1 h2; omega))
          have Hx70 := hid (Hx66.out.mod hmr (by intro k h1 h2; omega))
          have Hx71 := hid (Hx63.out.mod hmr (by intro h2; omega))
          clear Hx64 Hx65 Hx66 Hx63
          clear hmr
          have Cx72 := hid (Cx67.out.go hm hr)
          clear Cx67 hm hr Z act E
          refine QChain.go fun Z act E => ?_
          refine qc_callF (args := #[.slice aoa kn capa]) rfl ((wanted_of rfl rfl (E.sz 87 (by decide)) (E.e 15 .guard)).trans rfl) rfl Try.func37 (args1 (E.d 27)) (rowOf_Q (((HAL2.out.mod Cx45.out (fun _ _ h => h)).mod Cx72.out (fun _ _ h => h)).rd.upto kn HKL.out) HFT.out) ?_
          rintro e u18_9a ⟨v_a2, rfl, qa2, hm⟩
          obtain ⟨ao_a2, cap_a2, rfl⟩ := qa2.shape
          have zu18_9a := hm.size
          refine ⟨_, rfl, hm.mono (fun _ _ h => h.elim), (fun _ => rfl), ?_⟩
          intro u18_9 hr
          have zu18_9 := hr.size
          have Hx73 := hid ((qa2.widen (R' := (fun k => (New u18_8 u18_9a k))) (fun _ h => h) (Nat.le_refl _)).mod hr (by intro k h1 h2; omega))
          have hmr := Mod.after hm hr
          have Hx74 := hid (Hx68.out.mod hmr (by intro h2; omega))
          have Hx75 := hid (Hx69.out.mod hmr (by intro k h1 h2; omega))
          have Hx76 := hid (Hx70.out.mod hmr (by intro k h1 h2; omega))
          have Hx77 := hid (Hx71.out.mod hmr (by intro h2; omega))
          clear Hx68 Hx69 Hx70 Hx71
          clear hmr
          have Cx78 := hid (Cx72.out.go hm hr)
          clear Cx72 hm hr Z act E qa2
          refine QChain.go fun Z act E => ?_
          obtain ⟨gL, eL, -, -, mL, hL⟩ := E.d 24
          refine qc_appL rfl ((wanted_of rfl rfl (E.sz 87 (by decide)) (E.e 15 .guard)).trans rfl) rfl eL ⟨mL, hL⟩ (bs := [2]) rfl rfl (by unfold Bytes; decide) (chv (v := .slice ao_a2 (((encN (rs.flatten.take kn).length ++ (rs.flatten.take kn))).length) cap_a2) (E.d 28)) Hx73.out.rd (show 0 < (encN (rs.flatten.take kn).length ++ (rs.flatten.take kn)).length by rw [List.length_append]; have := encN_pos (List.length (rs.flatten.take kn)); omega) (by have := HFT.out; simp only [List.length_append, List.length_cons, List.length_nil]; have := encN_small ((rs.flatten.take kn)).length (by omega); omega) ?_
          intro ao35 cap35 u18_10a qk3 hm
          clear eL hL
          have zu18_10a := hm.size
          refine ⟨hm.mono (fun _ _ h => h.elim), (fun _ => rfl), ?_⟩
          intro u18_10 hr
          have zu18_10 := hr.size
          have Hx79 := hid (qk3.mod hr (by intro k h1 h2; omega))
          have hmr := Mod.after hm hr
          have Hx80 := hid (Hx74.out.mod hmr (by intro h2; omega))
          have Hx81 := hid (Hx75.out.mod hmr (by intro k h1 h2; omega))
          have Hx82 := hid (Hx76.out.mod hmr (by intro k h1 h2; omega))
          have Hx83 := hid (Hx77.out.mod hmr (by intro h2; omega))
          have Hx84 := hid (Hx73.out.mod hmr (by intro k h1 h2; omega))
          clear Hx74 Hx75 Hx76 Hx77 Hx73
          clear hmr
          have Cx85 := hid (Cx78.out.go hm hr)
          clear Cx78 hm hr Z act E qk3
          refine QChain.go fun Z act E => ?_
          refine qc_callF (args := #[frV aoa (rs.flatten.length) capa kn]) rfl ((wanted_of rfl rfl (E.sz 87 (by decide)) (E.e 15 .guard)).trans rfl) rfl Try.func37 (args1 (E.d 32)) (rowOf_Q (((HAL2.out.mod Cx45.out (fun _ _ h => h)).mod Cx85.out (fun _ _ h => h)).rd.from kn HKL.out) HFD.out) ?_
          rintro e u18_11a ⟨v_a3, rfl, qa3, hm⟩
          obtain ⟨ao_a3, cap_a3, rfl⟩ := qa3.shape
          have zu18_11a := hm.size
          refine ⟨_, rfl, hm.mono (fun _ _ h => h.elim), (fun _ => rfl), ?_⟩
          intro u18_11 hr
          have zu18_11 := hr.size
          have Hx86 := hid ((qa3.widen (R' := (fun k => (New u18_10 u18_11a k))) (fun _ h => h) (Nat.le_refl _)).mod hr (by intro k h1 h2; omega))
          have hmr := Mod.after hm hr
          have Hx87 := hid (Hx80.out.mod hmr (by intro h2; omega))
          have Hx88 := hid (Hx81.out.mod hmr (by intro k h1 h2; omega))
          have Hx89 := hid (Hx82.out.mod hmr (by intro k h1 h2; omega))
          have Hx90 := hid (Hx83.out.mod hmr (by intro h2; omega))
          have Hx91 := hid (Hx84.out.mod hmr (by intro k h1 h2; omega))
          have Hx92 := hid (Hx79.out.mod hmr (by intro k h1 h2; omega))
          clear Hx80 Hx81 Hx82 Hx83 Hx84 Hx79
          clear hmr
          have Cx93 := hid (Cx85.out.go hm hr)
          clear Cx85 hm hr Z act E qa3
          refine QChain.go fun Z act E => ?_
          refine qc_appR rfl ((wanted_of rfl rfl (E.sz 87 (by decide)) (E.e 15 .guard)).trans rfl) rfl (chv (v := .slice ao35 (1 + (encN (rs.flatten.take kn).length ++ (rs.flatten.take kn)).length) cap35) (E.d 29)) (chv (v := .slice ao_a3 (((encN (rs.flatten.drop kn).length ++ (rs.flatten.drop kn))).length) cap_a3) (E.d 33)) Hx92.out Hx86.out.rd (by have := HFT.out; have := HFD.out; simp only [List.length_append, List.length_cons, List.length_nil]; have := encN_small ((rs.flatten.take kn)).length (by omega); have := encN_small ((rs.flatten.drop kn)).length (by omega); omega) ?_
          intro ao39 cap39 u18_12a qk3 hm
          have zu18_12a := hm.size
          refine ⟨hm.mono (by intro k hk h; omega), (fun _ => rfl), ?_⟩
          intro u18_12 hr
          have zu18_12 := hr.size
          have Hx94 := hid ((qk3.widen (R' := (fun k => (New u18_9 u18_10a k) ∨ (New u18_11 u18_12a k))) (fun _ h => h) (Nat.le_refl _)).mod hr (by intro k h1 h2; omega))
          have hmr := hm.two hr
          have Hx95 := hid (Hx87.out.mod hmr (by intro h2; omega))
          have Hx96 := hid (Hx88.out.mod hmr (by intro k h1 h2; omega))
          have Hx97 := hid (Hx89.out.mod hmr (by intro k h1 h2; omega))
          have Hx98 := hid (Hx90.out.mod hmr (by intro h2; omega))
          have Hx99 := hid (Hx91.out.mod hmr (by intro k h1 h2; omega))
          have Hx100 := hid (Hx86.out.mod hmr (by intro k h1 h2; omega))
          clear Hx87 Hx88 Hx89 Hx90 Hx91 Hx86
          clear hmr
          have Cx101 := hid (Cx93.out.goM hm hr (by intro k h0 h2; omega))
          clear Cx93 hm hr Z act E qk3 Hx92
          refine QChain.go fun Z act E => ?_
          refine qc_callF (args := #[.slice ao39 ((([2] : List Int) ++ (encN (rs.flatten.take kn).length ++ (rs.flatten.take kn))).length + (encN (rs.flatten.drop kn).length ++ (rs.flatten.drop kn)).length) cap39]) rfl ((wanted_of rfl rfl (E.sz 87 (by decide)) (E.e 15 .guard)).trans rfl) rfl Try.func16 (args1 (chv (v := .slice ao39 ((([2] : List Int) ++ (encN (rs.flatten.take kn).length ++ (rs.flatten.take kn))).length + (encN (rs.flatten.drop kn).length ++ (rs.flatten.drop kn)).length) cap39) (E.d 34))) (sum_eq (rowsB2_two _ _) (Sum_any _ _ _ Hx94.out.rd.1 (by have := HFT.out; have := HFD.out; simp only [List.length_append, List.length_cons, List.length_nil]; have := encN_small ((rs.flatten.take kn)).length (by omega); have := encN_small ((rs.flatten.drop kn)).length (by omega); omega))) ?_
          rintro e u18_13a ⟨rfl, hm⟩
          have zu18_13a := hm.size
          refine ⟨_, rfl, hm.mono (fun _ _ h => h.elim), (fun _ => rfl), ?_⟩
          intro u18_13 hr
          have zu18_13 := hr.size
          have hmr := Mod.after hm hr
          have Hx102 := hid (Hx95.out.mod hmr (by intro h2; omega))
          have Hx103 := hid (Hx96.out.mod hmr (by intro k h1 h2; omega))
          have Hx104 := hid (Hx97.out.mod hmr (by intro k h1 h2; omega))
          have Hx105 := hid (Hx98.out.mod hmr (by intro h2; omega))
          have Hx106 := hid (Hx99.out.mod hmr (by intro k h1 h2; omega))
          have Hx107 := hid (Hx94.out.mod hmr (by intro k h1 h2; omega))
          have Hx108 := hid (Hx100.out.mod hmr (by intro k h1 h2; omega))
          clear Hx95 Hx96 Hx97 Hx98 Hx99 Hx94 Hx100
          clear hmr
          have Cx109 := hid (Cx101.out.go hm hr)
          clear Cx101 hm hr Z act E
          refine QChain.go fun Z act E => ?_
          refine qc_callF (args := #[]) rfl ((wanted_of rfl rfl (E.sz 110 (by decide)) (E.e 38 .chain)).trans rfl) rfl Try.func19 args0 (wakes02 _) ?_
          rintro e u18_14a ⟨rfl, hm⟩
          have zu18_14a := hm.size
          refine ⟨_, rfl, hm.mono (fun _ _ h => h.elim), (fun _ => rfl), ?_⟩
          intro u18_14 hr
          have zu18_14 := hr.size
          have hmr := Mod.after hm hr
          have Hx110 := hid (Hx102.out.mod hmr (by intro h2; omega))
          have Hx111 := hid (Hx103.out.mod hmr (by intro k h1 h2; omega))
          have Hx112 := hid (Hx104.out.mod hmr (by intro k h1 h2; omega))
          have Hx113 := hid (Hx105.out.mod hmr (by intro h2; omega))
          have Hx114 := hid (Hx106.out.mod hmr (by intro k h1 h2; omega))
          have Hx115 := hid (Hx107.out.mod hmr (by intro k h1 h2; omega))
          have Hx116 := hid (Hx108.out.mod hmr (by intro k h1 h2; omega))
          clear Hx102 Hx103 Hx104 Hx105 Hx106 Hx107 Hx108
          clear hmr
          have Cx117 := hid (Cx109.out.go hm hr)
          clear Cx109 hm hr Z act E
          refine QChain.nil fun vs hl hzz hrows hne => ?_
          obtain ⟨Z, hYZ, hZb, hV⟩ := hzz
          have f41 := fvi hV hl 41
          rw [show vs = [gw vs 0, gw vs 1, gw vs 2, gw vs 3, gw vs 4, gw vs 5, gw vs 6, gw vs 7, gw vs 8, gw vs 9, gw vs 10, gw vs 11, gw vs 12, gw vs 13, gw vs 14, gw vs 15, gw vs 16, gw vs 17, gw vs 18, gw vs 19, gw vs 20, gw vs 21, gw vs 22, gw vs 23, gw vs 24, gw vs 25, gw vs 26, gw vs 27, gw vs 28, gw vs 29, gw vs 30, gw vs 31, gw vs 32, gw vs 33, gw vs 34, gw vs 35, gw vs 36, gw vs 37, gw vs 38, gw vs 39, gw vs 40, gw vs 41] from (gw_eta hl).trans rfl]
          have ha0 := HA0.out
          subst ha0
          clear HA0 hV hYZ hZb hsz0 hrows hne oe6 oe8 oe9 oe11
          simp only [putAll, Act.put, List.setIfInBounds_toArray, List.set_cons_zero, List.set_cons_succ, f41]
          clear hl f41
          go_wp2
          go_ret
          exact ⟨rfl, ((HMM2.out.trans Cx45.out (fun _ _ h => h.elim)).trans Cx117.out (fun _ _ h => h.elim))⟩
end Go.Proofs.Ytfgepphankfbfaa

set_option maxRecDepth 100000
set_option linter.unusedVariables false
namespace Go.Proofs.Ytfgepphankfbfaa.shaRows
open Go Go.RowKit Go.Gv Go.ChangeShapes Go.WideShapes Go.ChangeAt
open Go.ChangeMaps (open_string shut_string)

theorem own : ownKnob Try.prog.godebug = none := by kernel_rfl
theorem laidOut : laidOutB Try.prog = true := by kernel_rfl

theorem lifted (os : Os) (started : os.Started) (H : Type) (enc : TypeId × Value → H) :
    ReturnsInHanded {} Try.checked os 11 .any (Rows.shaRowsSpec.pre6 enc Try.prog Try.f11 Rows.shaRowsRow.domain false) (Rows.shaRowsSpec.post enc Try.prog Try.f11 false true false false) := by
  refine returnsInHanded_of_change (C := Try.checked) own started (by kernel_rfl) Try.func11
    (ChangeSpec.witness6 (enc := enc) (C := Try.checked) false ⟨#[], #[.slice none 0 0, .int .i64 0], []⟩ 8 (by kernel_rfl) (by kernel_rfl) (by kernel_rfl) (by kernel_rfl)) ?_
  intro W base args ds gs before hval0 hW hcnd _
  have hval : ∀ (j : Nat) t v, Try.f11.params[j]? = some t → args[j]? = some v → Value.okWide Try.prog W .any base t v := hval0
  have hW' := hW
  obtain ⟨p, q, hA0, hV, rfl, hfz, hnd⟩ := hW
  have hA : DataW.TrodAll enc Try.prog W 0 (fun _ => true) true Try.f11.params.toList args.toList ds p := hA0
  rw [Try.params11] at hA hval
  obtain ⟨v0, vs0, d0, ds0, p0, q0, hargs, rfl, rfl, h0, r0⟩ := trodAll_cons hA
  obtain ⟨v1, vs1, d1, ds1, p1, q1, rfl, rfl, rfl, h1, r1⟩ := trodAll_cons r0
  obtain ⟨rfl, rfl, rfl⟩ := trodAll_nil r1
  obtain rfl : args = #[v0, v1] := by cases args; simp_all
  obtain ⟨rfl, rfl⟩ := trodVars_none hV
  have k0 := h0
  have lt0 : ∀ x ∈ p0, x.block < W.heap.size := by obtain ⟨m, hm⟩ := k0; exact DataW.trod_lt m _ _ _ hm
  have k1 := h1
  have lt1 : ∀ x ∈ p1, x.block < W.heap.size := by obtain ⟨m, hm⟩ := k1; exact DataW.trod_lt m _ _ _ hm
  obtain ⟨l0, e0, o0⟩ := rows_of_trod (hval 0 91 v0 rfl rfl) h0
  obtain ⟨a1, rfl, rfl, rfl, w1⟩ := open_int Try.underlying3 (hval 1 3 v1 rfl rfl) h1
  clear hA0 hval0
  refine (ShaRows_walk l0 a1 v0 W e0 o0 (i64_bd w1)).mono fun e W' ⟨he, hmod⟩ => ?_
  subst he
  have bel : Below W.heap.size W W' := hmod.below (Nat.le_refl _) (fun _ _ => id)
  exact ⟨_, rfl, _, _, _, [], _, [], hW', trodAll_mk1 (shut_bool Try.underlying4 _), (trodAll_cons_mk (Below.trod laidOut (by kernel_rfl) (of_decide_eq_true (by kernel_rfl)) k0 bel lt0) (trodAll_cons_mk (Below.trod laidOut (by kernel_rfl) (of_decide_eq_true (by kernel_rfl)) k1 bel lt1) trodAll_mk0)), rfl, bel.frame _, fun h => by cases h⟩

theorem over : Rows.shaRowsRow.holds Try.pinned (OpenSpec.ofChange Rows.shaRowsSpec) :=
  OpenClaim.holds_of_wide 11 Try.f11 rfl rfl rfl rfl rfl rfl rfl ⟨rfl, rfl, rfl, rfl, rfl⟩ rfl rfl rfl rfl rfl (by kernel_rfl) Try.func11 (by kernel_rfl)
    (of_decide_eq_true (by kernel_rfl)) (by unfold Func.isWrapper; first | (rw [if_pos (by decide +kernel)]; kernel_rfl) | (rw [if_neg (by decide +kernel)]; exact ⟨rfl, rfl⟩))
    (fun os started H enc _ => lifted os started H enc)

theorem proved : Rows.ShaRowsSaid := over
end Go.Proofs.Ytfgepphankfbfaa.shaRows
