/- ShaLess: the walk. -/
import Derived.Test.YtfgepphankfbfaaSha6
import Derived.Test.YtfgepphankfbfaaVal
import Derived.Deep.Cut
set_option maxRecDepth 100000
set_option linter.unusedVariables false
namespace Go.Proofs.Ytfgepphankfbfaa
open Go Go.RowKit Go.Gv

set_option maxHeartbeats 4000000 in
theorem ShaLess_walk (a b : List Int) (twin : Bool) (hla : a.length = 32) (hlb : b.length = 32) (hba : Bytes a) (hbb : Bytes b) (w : World) :
    Calls Try.prog 5 #[hv a, hv b, .bool twin] w fun e w' => e = .returned (.bool true) ∧ Mod (fun _ => False) w w' := by
  have HL_a := Lib.hid hla
  have HL_b := Lib.hid hlb
  have HB_a := Lib.hid hba
  have HB_b := Lib.hid hbb
  clear hla hlb hba hbb
  change Calls _ _ #[.agg (a.map bv).toArray, .agg (b.map bv).toArray, .bool twin] _ _
  go_enter Try.func5, Try.ntmps5
  go_upto_region 1 with (fail)
  obtain ⟨w1, hw1⟩ : ∃ x, x = (w.alloc (.cells (a.map bv).toArray 26)).alloc (.cells (b.map bv).toArray 26) := ⟨_, rfl⟩
  rw [← hw1]
  have KC_a := Lib.hid (show Cs w1 w.heap.size (a.map bv).toArray 26 by rw [hw1]; exact (Cs.new _ _ _).alloc _)
  have KC_b := Lib.hid (show Cs w1 (w.heap.size + 1) (b.map bv).toArray 26 by rw [hw1]; exact Cs_new1 _ _ _ _)
  have KM := Lib.hid (show Mod (fun _ => False) w w1 by rw [hw1]; exact ((Mod.refl _ _).alloc _).alloc _)
  clear hw1
  cases twin
  · skip
    go_wp2
    go_loopw [7, 11] (fun t7 t11 wr => ∃ (i : Nat), t11 = .int .i64 i ∧ t7 = .bool false ∧ i ≤ 32 ∧ a.take i = b.take i ∧ Cs wr w.heap.size (a.map bv).toArray 26 ∧ Cs wr (w.heap.size + 1) (b.map bv).toArray 26 ∧ Mod (fun _ => False) w wr) (fun _ t11 _ => 32 - (intOf t11).toNat)
    case atStart => exact ⟨0, rfl, rfl, by omega, rfl, KC_a.out, KC_b.out, KM.out⟩
    case round =>
      obtain ⟨wi, rfl⟩ : ∃ x, x = wr := ⟨_, rfl⟩
      obtain ⟨i, rfl, rfl, hi, htk, hA, hB, hM⟩ := hrel
      clear KC_a KC_b KM
      have KC_a := Lib.hid hA
      have KC_b := Lib.hid hB
      have KM := Lib.hid hM
      have HTK := Lib.hid htk
      clear hA hB hM htk
      by_cases hlt : i < 32
      · obtain ⟨x, hx⟩ : ∃ x, x = a.getD i 0 := ⟨_, rfl⟩
        obtain ⟨y, hy⟩ : ∃ y, y = b.getD i 0 := ⟨_, rfl⟩
        have ca : wi.cell? ⟨w.heap.size, i, none⟩ = some (.int .u8 x) := by rw [KC_a.out.cell, hx]; simp [List.getD, List.getElem?_eq_getElem (show i < a.length by rw [HL_a.out]; omega)]
        have cb : wi.cell? ⟨w.heap.size + 1, i, none⟩ = some (.int .u8 y) := by rw [KC_b.out.cell, hy]; simp [List.getD, List.getElem?_eq_getElem (show i < b.length by rw [HL_b.out]; omega)]
        have HX := Lib.hid hx
        have HY := Lib.hid hy
        clear hx hy
        go_wp2_with fail
        go_quiet (fail)
        obtain ⟨w2, hw2⟩ : ∃ x, x = wi.drewN nq := ⟨_, rfl⟩
        have hm := mod_of_drewN ⟨nq, hw2⟩ (fun _ => False)
        rw [← hw2]
        have ca2 : w2.cell? ⟨w.heap.size, i, none⟩ = some (.int .u8 x) := by rw [hw2]; exact ca
        have cb2 : w2.cell? ⟨w.heap.size + 1, i, none⟩ = some (.int .u8 y) := by rw [hw2]; exact cb
        have KA2 := Lib.hid (KC_a.out.mod hm (fun h => h))
        have KB2 := Lib.hid (KC_b.out.mod hm (fun h => h))
        have KM2 := Lib.hid (KM.out.trans hm (fun _ _ h => h))
        clear hw2 hm ca cb KC_a KC_b KM
        by_cases hxy : x = y
        · subst hxy
          clear ca2 cb2
          go_wp2
          go_roundw
          case rel =>
            refine ⟨i + 1, by go_num, rfl, by omega, ?_, KA2.out, KB2.out, KM2.out⟩
            have ha := HL_a.out
            have hb := HL_b.out
            have h1 := HX.out
            have h2 := HY.out
            rw [List.getD, List.getElem?_eq_getElem (by omega), Option.getD_some] at h1 h2
            rw [List.take_succ_eq_append_getElem (by omega), List.take_succ_eq_append_getElem (by omega), HTK.out, ← h1, ← h2]
          case measure => first | (simp [intOf]; done) | (simp [intOf]; omega)
        · have hcm := cmpI_at i a b HTK.out (by rw [HL_a.out]; omega) (by rw [HL_b.out]; omega) (by rw [← HX.out, ← HY.out]; exact hxy)
          rw [← HX.out, ← HY.out] at hcm
          have hsw := cmpI_swap a b
          have hne : a ≠ b := by intro e; apply hxy; rw [HX.out, HY.out, e]
          have hz := cmpI_zero a b
          have EQ := Lib.hid (show decide (a = b) = false from decide_eq_false hne)
          have HCM := Lib.hid hcm
          have HSW := Lib.hid hsw
          have HZ := Lib.hid hz
          have HNE := Lib.hid hne
          clear hcm hsw hz hne
          by_cases hlxy : x < y
          · go_wp2_with fail
            go_quiet (fail)
            obtain ⟨w4, hw4⟩ : ∃ x, x = w2.drewN nq := ⟨_, rfl⟩
            have hm := mod_of_drewN ⟨nq, hw4⟩ (fun _ => False)
            rw [← hw4]
            have KC_a := Lib.hid (KA2.out.mod hm (fun h => h))
            have KC_b := Lib.hid (KB2.out.mod hm (fun h => h))
            have KM := Lib.hid (KM2.out.trans hm (fun _ _ h => h))
            have RAB := Lib.hid (show decide (cmpI a b < 0) = true from decide_eq_true (HCM.out.2 hlxy))
            have RBA := Lib.hid (show decide (cmpI b a < 0) = false from decide_eq_false (by have := HSW.out; have := HCM.out.2 hlxy; omega))
            clear hw4 hm KA2 KB2 KM2 ca2 cb2
            go_upto_region 10 with (fail)
            generalize ha0 : Act.mk _ _ = a0
            have oe3 : a0.eval (.tmp 3) = .pointer (some ⟨w.heap.size, 0, none⟩) := by rw [← ha0]; rfl
            have oe4 : a0.eval (.tmp 4) = .pointer (some ⟨w.heap.size + 1, 0, none⟩) := by rw [← ha0]; rfl
            have oe7 : a0.eval (.tmp 7) = .bool true := by rw [← ha0]; rfl
            have hsz0 : a0.tmps.size = 50 := by rw [← ha0]; rfl
            have HA0 := Lib.hid ha0
            clear ha0
            refine wp_region_L (by kernel_rfl) (by kernel_rfl) [29, 30, 31, 32, 33, 34, 35, 36, 37, 38, 39, 40, 41, 42, 43, 44, 45, 46, 47, 48, 49, 6] rfl (by decide) (by rw [hsz0]; decide) [isv (hv a), isv (hv b), isv (.bool true), isv (.bool true), isv (.bool true), isv (.bool true), isv (hv a), isv (hv b), isv (.bool false), isv (.bool false), isv (hv b), isv (hv a), isv (.bool false), isv (.bool true), isv (.bool false), isv (.bool true), isv (.bool true), isv (.bool true), isv (.bool true), isv (.bool true), isv (.bool true), isv (.bool true)] ⟨isv_stable, isv_stable, isv_stable, isv_stable, isv_stable, isv_stable, isv_stable, isv_stable, isv_stable, isv_stable, isv_stable, isv_stable, isv_stable, isv_stable, isv_stable, isv_stable, isv_stable, isv_stable, isv_stable, isv_stable, isv_stable, isv_stable, trivial⟩ ⟨?_, ?_, ?_, ?_, ?_, ?_, ?_, ?_, ?_, ?_, ?_, ?_, ?_, ?_, ?_, ?_, ?_, ?_, ?_, ?_, ?_, ?_, trivial⟩ ?_
            · intro act w' hm hout hsz hd
              exact lv_run rfl (wanted_none rfl) (ex_loadA rfl Try.underlying26 rfl (off := 0) (cs := a.map bv) (by rw [List.length_map, HL_a.out]; exact size_hash) ((hout 3 (by decide)).trans oe3) (fun j u hu => by rw [Nat.zero_add, (KC_a.out.mod hm (fun h => h)).cell]; simpa using hu)) (Mod.refl _ _) rfl
            · intro act w' hm hout hsz hd
              exact lv_run rfl (wanted_none rfl) (ex_loadA rfl Try.underlying26 rfl (off := 0) (cs := b.map bv) (by rw [List.length_map, HL_b.out]; exact size_hash) ((hout 4 (by decide)).trans oe4) (fun j u hu => by rw [Nat.zero_add, (KC_b.out.mod hm (fun h => h)).cell]; simpa using hu)) (Mod.refl _ _) rfl
            · intro act w' hm hout hsz hd
              have h0 := hd ⟨0, .data⟩ (by simp) rfl
              have h1 := hd ⟨1, .data⟩ (by simp) rfl
              refine lv_call (args := #[hv a, hv b]) rfl (wanted_none rfl) (by rw [ex_callF rfl Try.func20 (by kernel_rfl) (by kernel_rfl)]; exact congrArg (fun z => Result.ok (Next.enter _ z) _) (by simp only [List.map_toArray, List.map_cons, List.map_nil, show act.eval (.tmp 29) = _ from h0, show act.eval (.tmp 30) = _ from h1])) (Less_any a b HL_a.out HL_b.out HB_a.out HB_b.out _) ?_
              rintro e w2 ⟨rfl, hm2⟩
              exact ⟨_, rfl, hm2, congrArg Value.bool RAB.out⟩
            · intro act w' hm hout hsz hd
              exact lv_run rfl (wanted_none rfl) (ex_move rfl ((hout 7 (by decide)).trans oe7)) (Mod.refl _ _) rfl
            · intro act w' hm hout hsz hd
              have h2 := hd ⟨2, .data⟩ (by simp) rfl
              have h3 := hd ⟨3, .data⟩ (by simp) rfl
              exact lv_run rfl (wanted_none rfl) (ex_bin rfl h2 h3 (guard_bools _ _ _ _ _ _) (run_eql_bools _ _ _ Try.underlying4)) (Mod.refl _ _) rfl
            · intro act w' hm hout hsz hd
              have h4 := hd ⟨4, .data⟩ (by simp) rfl
              exact lv_run rfl (wanted_none rfl) (ex_move rfl h4) (Mod.refl _ _) rfl
            · intro act w' hm hout hsz hd
              have h5 := hd ⟨5, .guard⟩ (by simp) rfl
              exact lv_run rfl ((wanted_of rfl rfl (hsz 34 (by decide)) h5).trans rfl) (ex_loadA rfl Try.underlying26 rfl (off := 0) (cs := a.map bv) (by rw [List.length_map, HL_a.out]; exact size_hash) ((hout 3 (by decide)).trans oe3) (fun j u hu => by rw [Nat.zero_add, (KC_a.out.mod hm (fun h => h)).cell]; simpa using hu)) (Mod.refl _ _) rfl
            · intro act w' hm hout hsz hd
              have h5 := hd ⟨5, .guard⟩ (by simp) rfl
              exact lv_run rfl ((wanted_of rfl rfl (hsz 34 (by decide)) h5).trans rfl) (ex_loadA rfl Try.underlying26 rfl (off := 0) (cs := b.map bv) (by rw [List.length_map, HL_b.out]; exact size_hash) ((hout 4 (by decide)).trans oe4) (fun j u hu => by rw [Nat.zero_add, (KC_b.out.mod hm (fun h => h)).cell]; simpa using hu)) (Mod.refl _ _) rfl
            · intro act w' hm hout hsz hd
              have h5 := hd ⟨5, .guard⟩ (by simp) rfl
              have h6 := hd ⟨6, .data⟩ (by simp) rfl
              have h7 := hd ⟨7, .data⟩ (by simp) rfl
              exact lv_run rfl ((wanted_of rfl rfl (hsz 34 (by decide)) h5).trans rfl) (ex_bin rfl h6 h7 (hv_guard2 _ _ _ _ _ _) (run_eql_ints _ 26 5 32 Try.underlying26 Try.underlying5 (by kernel_rfl) a b HL_a.out HL_b.out)) (Mod.refl _ _) (congrArg Value.bool EQ.out)
            · intro act w' hm hout hsz hd
              have h5 := hd ⟨5, .guard⟩ (by simp) rfl
              have h8 := hd ⟨8, .data⟩ (by simp) rfl
              exact lv_run rfl ((wanted_of rfl rfl (hsz 34 (by decide)) h5).trans rfl) (ex_move rfl h8) (Mod.refl _ _) rfl
            · intro act w' hm hout hsz hd
              have h9 := hd ⟨9, .guard⟩ (by simp) rfl
              exact lv_run rfl ((wanted_of rfl rfl (hsz 38 (by decide)) h9).trans rfl) (ex_loadA rfl Try.underlying26 rfl (off := 0) (cs := b.map bv) (by rw [List.length_map, HL_b.out]; exact size_hash) ((hout 4 (by decide)).trans oe4) (fun j u hu => by rw [Nat.zero_add, (KC_b.out.mod hm (fun h => h)).cell]; simpa using hu)) (Mod.refl _ _) rfl
            · intro act w' hm hout hsz hd
              have h9 := hd ⟨9, .guard⟩ (by simp) rfl
              exact lv_run rfl ((wanted_of rfl rfl (hsz 38 (by decide)) h9).trans rfl) (ex_loadA rfl Try.underlying26 rfl (off := 0) (cs := a.map bv) (by rw [List.length_map, HL_a.out]; exact size_hash) ((hout 3 (by decide)).trans oe3) (fun j u hu => by rw [Nat.zero_add, (KC_a.out.mod hm (fun h => h)).cell]; simpa using hu)) (Mod.refl _ _) rfl
            · intro act w' hm hout hsz hd
              have h9 := hd ⟨9, .guard⟩ (by simp) rfl
              have h10 := hd ⟨10, .data⟩ (by simp) rfl
              have h11 := hd ⟨11, .data⟩ (by simp) rfl
              refine lv_call (args := #[hv b, hv a]) rfl ((wanted_of rfl rfl (hsz 38 (by decide)) h9).trans rfl) (by rw [ex_callF rfl Try.func20 (by kernel_rfl) (by kernel_rfl)]; exact congrArg (fun z => Result.ok (Next.enter _ z) _) (by simp only [List.map_toArray, List.map_cons, List.map_nil, show act.eval (.tmp 39) = _ from h10, show act.eval (.tmp 40) = _ from h11])) (Less_any b a HL_b.out HL_a.out HB_b.out HB_a.out _) ?_
              rintro e w2 ⟨rfl, hm2⟩
              exact ⟨_, rfl, hm2, congrArg Value.bool RBA.out⟩
            · intro act w' hm hout hsz hd
              have h9 := hd ⟨9, .guard⟩ (by simp) rfl
              exact lv_run rfl ((wanted_of rfl rfl (hsz 38 (by decide)) h9).trans rfl) (ex_move rfl ((hout 7 (by decide)).trans oe7)) (Mod.refl _ _) rfl
            · intro act w' hm hout hsz hd
              have h9 := hd ⟨9, .guard⟩ (by simp) rfl
              have h13 := hd ⟨13, .data⟩ (by simp) rfl
              exact lv_run rfl ((wanted_of rfl rfl (hsz 38 (by decide)) h9).trans rfl) (ex_not rfl h13) (Mod.refl _ _) rfl
            · intro act w' hm hout hsz hd
              have h9 := hd ⟨9, .guard⟩ (by simp) rfl
              have h12 := hd ⟨12, .data⟩ (by simp) rfl
              have h14 := hd ⟨14, .data⟩ (by simp) rfl
              exact lv_run rfl ((wanted_of rfl rfl (hsz 38 (by decide)) h9).trans rfl) (ex_bin rfl h12 h14 (guard_bools _ _ _ _ _ _) (run_eql_bools _ _ _ Try.underlying4)) (Mod.refl _ _) rfl
            · intro act w' hm hout hsz hd
              have h5 := hd ⟨5, .guard⟩ (by simp) rfl
              have h9 := hd ⟨9, .data⟩ (by simp) rfl
              have h15 := hd ⟨15, .data⟩ (by simp) rfl
              exact lv_run rfl ((wanted_of rfl rfl (hsz 34 (by decide)) h5).trans rfl) (ex_pick rfl h9 rfl h15) (Mod.refl _ _) rfl
            · intro act w' hm hout hsz hd
              have h5 := hd ⟨5, .data⟩ (by simp) rfl
              have h16 := hd ⟨16, .data⟩ (by simp) rfl
              exact lv_run rfl (wanted_none rfl) (ex_pick rfl h5 h16 rfl) (Mod.refl _ _) rfl
            · intro act w' hm hout hsz hd
              have h17 := hd ⟨17, .data⟩ (by simp) rfl
              exact lv_run rfl (wanted_none rfl) (ex_move rfl h17) (Mod.refl _ _) rfl
            · intro act w' hm hout hsz hd
              have h18 := hd ⟨18, .guard⟩ (by simp) rfl
              refine lv_call (args := #[]) rfl ((wanted_of rfl rfl (hsz 47 (by decide)) h18).trans rfl) (by rw [ex_callF rfl Try.func19 (by kernel_rfl) (by kernel_rfl)]; simp) (wakes02 _) ?_
              rintro e w2 ⟨rfl, hm2⟩
              exact ⟨_, rfl, hm2, rfl⟩
            · intro act w' hm hout hsz hd
              have h18 := hd ⟨18, .data⟩ (by simp) rfl
              have h19 := hd ⟨19, .data⟩ (by simp) rfl
              exact lv_run rfl (wanted_none rfl) (ex_pick rfl h18 h19 rfl) (Mod.refl _ _) rfl
            · intro act w' hm hout hsz hd
              have h20 := hd ⟨20, .data⟩ (by simp) rfl
              exact lv_run rfl (wanted_none rfl) (ex_assign rfl h20) (Mod.refl _ _) rfl
            intro vs w3 hl hm hV
            obtain ⟨v0q, vs0, rfl, hl0⟩ := list_cons hl
            obtain ⟨v1q, vs1, rfl, hl1⟩ := list_cons hl0
            obtain ⟨v2q, vs2, rfl, hl2⟩ := list_cons hl1
            obtain ⟨v3q, vs3, rfl, hl3⟩ := list_cons hl2
            obtain ⟨v4q, vs4, rfl, hl4⟩ := list_cons hl3
            obtain ⟨v5q, vs5, rfl, hl5⟩ := list_cons hl4
            obtain ⟨v6q, vs6, rfl, hl6⟩ := list_cons hl5
            obtain ⟨v7q, vs7, rfl, hl7⟩ := list_cons hl6
            obtain ⟨v8q, vs8, rfl, hl8⟩ := list_cons hl7
            obtain ⟨v9q, vs9, rfl, hl9⟩ := list_cons hl8
            obtain ⟨v10q, vs10, rfl, hl10⟩ := list_cons hl9
            obtain ⟨v11q, vs11, rfl, hl11⟩ := list_cons hl10
            obtain ⟨v12q, vs12, rfl, hl12⟩ := list_cons hl11
            obtain ⟨v13q, vs13, rfl, hl13⟩ := list_cons hl12
            obtain ⟨v14q, vs14, rfl, hl14⟩ := list_cons hl13
            obtain ⟨v15q, vs15, rfl, hl15⟩ := list_cons hl14
            obtain ⟨v16q, vs16, rfl, hl16⟩ := list_cons hl15
            obtain ⟨v17q, vs17, rfl, hl17⟩ := list_cons hl16
            obtain ⟨v18q, vs18, rfl, hl18⟩ := list_cons hl17
            obtain ⟨v19q, vs19, rfl, hl19⟩ := list_cons hl18
            obtain ⟨v20q, vs20, rfl, hl20⟩ := list_cons hl19
            obtain ⟨v21q, vs21, rfl, hl21⟩ := list_cons hl20
            obtain rfl := list_nil hl21
            clear hl hl0 hl1 hl2 hl3 hl4 hl5 hl6 hl7 hl8 hl9 hl10 hl11 hl12 hl13 hl14 hl15 hl16 hl17 hl18 hl19 hl20 hl21
            obtain rfl : v21q = .bool true := hV 21 _ rfl
            have ha0 := HA0.out
            subst ha0
            clear HA0 hV hsz0 oe3 oe4 oe7
            simp only [putAll, Act.put, List.setIfInBounds_toArray, List.set_cons_zero, List.set_cons_succ]
            have KM3 := Lib.hid (KM.out.trans hm (fun _ _ h => h))
            go_wp2
            go_ret
            exact ⟨rfl, KM3.out⟩
          · have hnl0 : ¬ cmpI a b < 0 := fun h => hlxy (HCM.out.1 h)
            have HNL := Lib.hid hnl0
            have hdl : decide (x < y) = false := decide_eq_false hlxy
            clear hnl0
            go_wp2_with fail
            go_quiet (fail)
            clear hdl
            obtain ⟨w4, hw4⟩ : ∃ x, x = w2.drewN nq := ⟨_, rfl⟩
            have hm := mod_of_drewN ⟨nq, hw4⟩ (fun _ => False)
            rw [← hw4]
            have KC_a := Lib.hid (KA2.out.mod hm (fun h => h))
            have KC_b := Lib.hid (KB2.out.mod hm (fun h => h))
            have KM := Lib.hid (KM2.out.trans hm (fun _ _ h => h))
            have hnl : ¬ cmpI a b < 0 := by have := HNL.out; omega
            have RAB := Lib.hid (show decide (cmpI a b < 0) = false from decide_eq_false hnl)
            have RBA := Lib.hid (show decide (cmpI b a < 0) = true from decide_eq_true (by have := HSW.out; have h0 : cmpI a b ≠ 0 := fun h => HNE.out (HZ.out h); omega))
            clear hw4 hm KA2 KB2 KM2 ca2 cb2 hnl
            go_upto_region 10 with (fail)
            generalize ha0 : Act.mk _ _ = a0
            have oe3 : a0.eval (.tmp 3) = .pointer (some ⟨w.heap.size, 0, none⟩) := by rw [← ha0]; rfl
            have oe4 : a0.eval (.tmp 4) = .pointer (some ⟨w.heap.size + 1, 0, none⟩) := by rw [← ha0]; rfl
            have oe7 : a0.eval (.tmp 7) = .bool false := by rw [← ha0]; rfl
            have hsz0 : a0.tmps.size = 50 := by rw [← ha0]; rfl
            have HA0 := Lib.hid ha0
            clear ha0
            refine wp_region_L (by kernel_rfl) (by kernel_rfl) [29, 30, 31, 32, 33, 34, 35, 36, 37, 38, 39, 40, 41, 42, 43, 44, 45, 46, 47, 48, 49, 6] rfl (by decide) (by rw [hsz0]; decide) [isv (hv a), isv (hv b), isv (.bool false), isv (.bool false), isv (.bool true), isv (.bool true), isv (hv a), isv (hv b), isv (.bool false), isv (.bool false), isv (hv b), isv (hv a), isv (.bool true), isv (.bool false), isv (.bool true), isv (.bool true), isv (.bool true), isv (.bool true), isv (.bool true), isv (.bool true), isv (.bool true), isv (.bool true)] ⟨isv_stable, isv_stable, isv_stable, isv_stable, isv_stable, isv_stable, isv_stable, isv_stable, isv_stable, isv_stable, isv_stable, isv_stable, isv_stable, isv_stable, isv_stable, isv_stable, isv_stable, isv_stable, isv_stable, isv_stable, isv_stable, isv_stable, trivial⟩ ⟨?_, ?_, ?_, ?_, ?_, ?_, ?_, ?_, ?_, ?_, ?_, ?_, ?_, ?_, ?_, ?_, ?_, ?_, ?_, ?_, ?_, ?_, trivial⟩ ?_
            · intro act w' hm hout hsz hd
              exact lv_run rfl (wanted_none rfl) (ex_loadA rfl Try.underlying26 rfl (off := 0) (cs := a.map bv) (by rw [List.length_map, HL_a.out]; exact size_hash) ((hout 3 (by decide)).trans oe3) (fun j u hu => by rw [Nat.zero_add, (KC_a.out.mod hm (fun h => h)).cell]; simpa using hu)) (Mod.refl _ _) rfl
            · intro act w' hm hout hsz hd
              exact lv_run rfl (wanted_none rfl) (ex_loadA rfl Try.underlying26 rfl (off := 0) (cs := b.map bv) (by rw [List.length_map, HL_b.out]; exact size_hash) ((hout 4 (by decide)).trans oe4) (fun j u hu => by rw [Nat.zero_add, (KC_b.out.mod hm (fun h => h)).cell]; simpa using hu)) (Mod.refl _ _) rfl
            · intro act w' hm hout hsz hd
              have h0 := hd ⟨0, .data⟩ (by simp) rfl
              have h1 := hd ⟨1, .data⟩ (by simp) rfl
              refine lv_call (args := #[hv a, hv b]) rfl (wanted_none rfl) (by rw [ex_callF rfl Try.func20 (by kernel_rfl) (by kernel_rfl)]; exact congrArg (fun z => Result.ok (Next.enter _ z) _) (by simp only [List.map_toArray, List.map_cons, List.map_nil, show act.eval (.tmp 29) = _ from h0, show act.eval (.tmp 30) = _ from h1])) (Less_any a b HL_a.out HL_b.out HB_a.out HB_b.out _) ?_
              rintro e w2 ⟨rfl, hm2⟩
              exact ⟨_, rfl, hm2, congrArg Value.bool RAB.out⟩
            · intro act w' hm hout hsz hd
              exact lv_run rfl (wanted_none rfl) (ex_move rfl ((hout 7 (by decide)).trans oe7)) (Mod.refl _ _) rfl
            · intro act w' hm hout hsz hd
              have h2 := hd ⟨2, .data⟩ (by simp) rfl
              have h3 := hd ⟨3, .data⟩ (by simp) rfl
              exact lv_run rfl (wanted_none rfl) (ex_bin rfl h2 h3 (guard_bools _ _ _ _ _ _) (run_eql_bools _ _ _ Try.underlying4)) (Mod.refl _ _) rfl
            · intro act w' hm hout hsz hd
              have h4 := hd ⟨4, .data⟩ (by simp) rfl
              exact lv_run rfl (wanted_none rfl) (ex_move rfl h4) (Mod.refl _ _) rfl
            · intro act w' hm hout hsz hd
              have h5 := hd ⟨5, .guard⟩ (by simp) rfl
              exact lv_run rfl ((wanted_of rfl rfl (hsz 34 (by decide)) h5).trans rfl) (ex_loadA rfl Try.underlying26 rfl (off := 0) (cs := a.map bv) (by rw [List.length_map, HL_a.out]; exact size_hash) ((hout 3 (by decide)).trans oe3) (fun j u hu => by rw [Nat.zero_add, (KC_a.out.mod hm (fun h => h)).cell]; simpa using hu)) (Mod.refl _ _) rfl
            · intro act w' hm hout hsz hd
              have h5 := hd ⟨5, .guard⟩ (by simp) rfl
              exact lv_run rfl ((wanted_of rfl rfl (hsz 34 (by decide)) h5).trans rfl) (ex_loadA rfl Try.underlying26 rfl (off := 0) (cs := b.map bv) (by rw [List.length_map, HL_b.out]; exact size_hash) ((hout 4 (by decide)).trans oe4) (fun j u hu => by rw [Nat.zero_add, (KC_b.out.mod hm (fun h => h)).cell]; simpa using hu)) (Mod.refl _ _) rfl
            · intro act w' hm hout hsz hd
              have h5 := hd ⟨5, .guard⟩ (by simp) rfl
              have h6 := hd ⟨6, .data⟩ (by simp) rfl
              have h7 := hd ⟨7, .data⟩ (by simp) rfl
              exact lv_run rfl ((wanted_of rfl rfl (hsz 34 (by decide)) h5).trans rfl) (ex_bin rfl h6 h7 (hv_guard2 _ _ _ _ _ _) (run_eql_ints _ 26 5 32 Try.underlying26 Try.underlying5 (by kernel_rfl) a b HL_a.out HL_b.out)) (Mod.refl _ _) (congrArg Value.bool EQ.out)
            · intro act w' hm hout hsz hd
              have h5 := hd ⟨5, .guard⟩ (by simp) rfl
              have h8 := hd ⟨8, .data⟩ (by simp) rfl
              exact lv_run rfl ((wanted_of rfl rfl (hsz 34 (by decide)) h5).trans rfl) (ex_move rfl h8) (Mod.refl _ _) rfl
            · intro act w' hm hout hsz hd
              have h9 := hd ⟨9, .guard⟩ (by simp) rfl
              exact lv_run rfl ((wanted_of rfl rfl (hsz 38 (by decide)) h9).trans rfl) (ex_loadA rfl Try.underlying26 rfl (off := 0) (cs := b.map bv) (by rw [List.length_map, HL_b.out]; exact size_hash) ((hout 4 (by decide)).trans oe4) (fun j u hu => by rw [Nat.zero_add, (KC_b.out.mod hm (fun h => h)).cell]; simpa using hu)) (Mod.refl _ _) rfl
            · intro act w' hm hout hsz hd
              have h9 := hd ⟨9, .guard⟩ (by simp) rfl
              exact lv_run rfl ((wanted_of rfl rfl (hsz 38 (by decide)) h9).trans rfl) (ex_loadA rfl Try.underlying26 rfl (off := 0) (cs := a.map bv) (by rw [List.length_map, HL_a.out]; exact size_hash) ((hout 3 (by decide)).trans oe3) (fun j u hu => by rw [Nat.zero_add, (KC_a.out.mod hm (fun h => h)).cell]; simpa using hu)) (Mod.refl _ _) rfl
            · intro act w' hm hout hsz hd
              have h9 := hd ⟨9, .guard⟩ (by simp) rfl
              have h10 := hd ⟨10, .data⟩ (by simp) rfl
              have h11 := hd ⟨11, .data⟩ (by simp) rfl
              refine lv_call (args := #[hv b, hv a]) rfl ((wanted_of rfl rfl (hsz 38 (by decide)) h9).trans rfl) (by rw [ex_callF rfl Try.func20 (by kernel_rfl) (by kernel_rfl)]; exact congrArg (fun z => Result.ok (Next.enter _ z) _) (by simp only [List.map_toArray, List.map_cons, List.map_nil, show act.eval (.tmp 39) = _ from h10, show act.eval (.tmp 40) = _ from h11])) (Less_any b a HL_b.out HL_a.out HB_b.out HB_a.out _) ?_
              rintro e w2 ⟨rfl, hm2⟩
              exact ⟨_, rfl, hm2, congrArg Value.bool RBA.out⟩
            · intro act w' hm hout hsz hd
              have h9 := hd ⟨9, .guard⟩ (by simp) rfl
              exact lv_run rfl ((wanted_of rfl rfl (hsz 38 (by decide)) h9).trans rfl) (ex_move rfl ((hout 7 (by decide)).trans oe7)) (Mod.refl _ _) rfl
            · intro act w' hm hout hsz hd
              have h9 := hd ⟨9, .guard⟩ (by simp) rfl
              have h13 := hd ⟨13, .data⟩ (by simp) rfl
              exact lv_run rfl ((wanted_of rfl rfl (hsz 38 (by decide)) h9).trans rfl) (ex_not rfl h13) (Mod.refl _ _) rfl
            · intro act w' hm hout hsz hd
              have h9 := hd ⟨9, .guard⟩ (by simp) rfl
              have h12 := hd ⟨12, .data⟩ (by simp) rfl
              have h14 := hd ⟨14, .data⟩ (by simp) rfl
              exact lv_run rfl ((wanted_of rfl rfl (hsz 38 (by decide)) h9).trans rfl) (ex_bin rfl h12 h14 (guard_bools _ _ _ _ _ _) (run_eql_bools _ _ _ Try.underlying4)) (Mod.refl _ _) rfl
            · intro act w' hm hout hsz hd
              have h5 := hd ⟨5, .guard⟩ (by simp) rfl
              have h9 := hd ⟨9, .data⟩ (by simp) rfl
              have h15 := hd ⟨15, .data⟩ (by simp) rfl
              exact lv_run rfl ((wanted_of rfl rfl (hsz 34 (by decide)) h5).trans rfl) (ex_pick rfl h9 rfl h15) (Mod.refl _ _) rfl
            · intro act w' hm hout hsz hd
              have h5 := hd ⟨5, .data⟩ (by simp) rfl
              have h16 := hd ⟨16, .data⟩ (by simp) rfl
              exact lv_run rfl (wanted_none rfl) (ex_pick rfl h5 h16 rfl) (Mod.refl _ _) rfl
            · intro act w' hm hout hsz hd
              have h17 := hd ⟨17, .data⟩ (by simp) rfl
              exact lv_run rfl (wanted_none rfl) (ex_move rfl h17) (Mod.refl _ _) rfl
            · intro act w' hm hout hsz hd
              have h18 := hd ⟨18, .guard⟩ (by simp) rfl
              refine lv_call (args := #[]) rfl ((wanted_of rfl rfl (hsz 47 (by decide)) h18).trans rfl) (by rw [ex_callF rfl Try.func19 (by kernel_rfl) (by kernel_rfl)]; simp) (wakes02 _) ?_
              rintro e w2 ⟨rfl, hm2⟩
              exact ⟨_, rfl, hm2, rfl⟩
            · intro act w' hm hout hsz hd
              have h18 := hd ⟨18, .data⟩ (by simp) rfl
              have h19 := hd ⟨19, .data⟩ (by simp) rfl
              exact lv_run rfl (wanted_none rfl) (ex_pick rfl h18 h19 rfl) (Mod.refl _ _) rfl
            · intro act w' hm hout hsz hd
              have h20 := hd ⟨20, .data⟩ (by simp) rfl
              exact lv_run rfl (wanted_none rfl) (ex_assign rfl h20) (Mod.refl _ _) rfl
            intro vs w3 hl hm hV
            obtain ⟨v0q, vs0, rfl, hl0⟩ := list_cons hl
            obtain ⟨v1q, vs1, rfl, hl1⟩ := list_cons hl0
            obtain ⟨v2q, vs2, rfl, hl2⟩ := list_cons hl1
            obtain ⟨v3q, vs3, rfl, hl3⟩ := list_cons hl2
            obtain ⟨v4q, vs4, rfl, hl4⟩ := list_cons hl3
            obtain ⟨v5q, vs5, rfl, hl5⟩ := list_cons hl4
            obtain ⟨v6q, vs6, rfl, hl6⟩ := list_cons hl5
            obtain ⟨v7q, vs7, rfl, hl7⟩ := list_cons hl6
            obtain ⟨v8q, vs8, rfl, hl8⟩ := list_cons hl7
            obtain ⟨v9q, vs9, rfl, hl9⟩ := list_cons hl8
            obtain ⟨v10q, vs10, rfl, hl10⟩ := list_cons hl9
            obtain ⟨v11q, vs11, rfl, hl11⟩ := list_cons hl10
            obtain ⟨v12q, vs12, rfl, hl12⟩ := list_cons hl11
            obtain ⟨v13q, vs13, rfl, hl13⟩ := list_cons hl12
            obtain ⟨v14q, vs14, rfl, hl14⟩ := list_cons hl13
            obtain ⟨v15q, vs15, rfl, hl15⟩ := list_cons hl14
            obtain ⟨v16q, vs16, rfl, hl16⟩ := list_cons hl15
            obtain ⟨v17q, vs17, rfl, hl17⟩ := list_cons hl16
            obtain ⟨v18q, vs18, rfl, hl18⟩ := list_cons hl17
            obtain ⟨v19q, vs19, rfl, hl19⟩ := list_cons hl18
            obtain ⟨v20q, vs20, rfl, hl20⟩ := list_cons hl19
            obtain ⟨v21q, vs21, rfl, hl21⟩ := list_cons hl20
            obtain rfl := list_nil hl21
            clear hl hl0 hl1 hl2 hl3 hl4 hl5 hl6 hl7 hl8 hl9 hl10 hl11 hl12 hl13 hl14 hl15 hl16 hl17 hl18 hl19 hl20 hl21
            obtain rfl : v21q = .bool true := hV 21 _ rfl
            have ha0 := HA0.out
            subst ha0
            clear HA0 hV hsz0 oe3 oe4 oe7
            simp only [putAll, Act.put, List.setIfInBounds_toArray, List.set_cons_zero, List.set_cons_succ]
            have KM3 := Lib.hid (KM.out.trans hm (fun _ _ h => h))
            go_wp2
            go_ret
            exact ⟨rfl, KM3.out⟩
      · obtain rfl : i = 32 := by omega
        have hab : a = b := by have := HTK.out; rwa [List.take_of_length_le (by rw [HL_a.out]; omega), List.take_of_length_le (by rw [HL_b.out]; omega)] at this
        have EQ := Lib.hid (show decide (a = b) = true from decide_eq_true hab)
        have RAB := Lib.hid (show decide (cmpI a b < 0) = false by rw [← hab, cmpI_self]; rfl)
        have RBA := Lib.hid (show decide (cmpI b a < 0) = false by rw [← hab, cmpI_self]; rfl)
        clear hab
        go_upto_region 10 with (fail)
        generalize ha0 : Act.mk _ _ = a0
        have oe3 : a0.eval (.tmp 3) = .pointer (some ⟨w.heap.size, 0, none⟩) := by rw [← ha0]; rfl
        have oe4 : a0.eval (.tmp 4) = .pointer (some ⟨w.heap.size + 1, 0, none⟩) := by rw [← ha0]; rfl
        have oe7 : a0.eval (.tmp 7) = .bool false := by rw [← ha0]; rfl
        have hsz0 : a0.tmps.size = 50 := by rw [← ha0]; rfl
        have HA0 := Lib.hid ha0
        clear ha0
        refine wp_region_L (by kernel_rfl) (by kernel_rfl) [29, 30, 31, 32, 33, 34, 35, 36, 37, 38, 39, 40, 41, 42, 43, 44, 45, 46, 47, 48, 49, 6] rfl (by decide) (by rw [hsz0]; decide) [isv (hv a), isv (hv b), isv (.bool false), isv (.bool false), isv (.bool true), isv (.bool true), isv (hv a), isv (hv b), isv (.bool true), isv (.bool true), isv (undef), isv (undef), isv (undef), isv (undef), isv (undef), isv (undef), isv (.bool true), isv (.bool true), isv (.bool true), isv (.bool true), isv (.bool true), isv (.bool true)] ⟨isv_stable, isv_stable, isv_stable, isv_stable, isv_stable, isv_stable, isv_stable, isv_stable, isv_stable, isv_stable, isv_stable, isv_stable, isv_stable, isv_stable, isv_stable, isv_stable, isv_stable, isv_stable, isv_stable, isv_stable, isv_stable, isv_stable, trivial⟩ ⟨?_, ?_, ?_, ?_, ?_, ?_, ?_, ?_, ?_, ?_, ?_, ?_, ?_, ?_, ?_, ?_, ?_, ?_, ?_, ?_, ?_, ?_, trivial⟩ ?_
        · intro act w' hm hout hsz hd
          exact lv_run rfl (wanted_none rfl) (ex_loadA rfl Try.underlying26 rfl (off := 0) (cs := a.map bv) (by rw [List.length_map, HL_a.out]; exact size_hash) ((hout 3 (by decide)).trans oe3) (fun j u hu => by rw [Nat.zero_add, (KC_a.out.mod hm (fun h => h)).cell]; simpa using hu)) (Mod.refl _ _) rfl
        · intro act w' hm hout hsz hd
          exact lv_run rfl (wanted_none rfl) (ex_loadA rfl Try.underlying26 rfl (off := 0) (cs := b.map bv) (by rw [List.length_map, HL_b.out]; exact size_hash) ((hout 4 (by decide)).trans oe4) (fun j u hu => by rw [Nat.zero_add, (KC_b.out.mod hm (fun h => h)).cell]; simpa using hu)) (Mod.refl _ _) rfl
        · intro act w' hm hout hsz hd
          have h0 := hd ⟨0, .data⟩ (by simp) rfl
          have h1 := hd ⟨1, .data⟩ (by simp) rfl
          refine lv_call (args := #[hv a, hv b]) rfl (wanted_none rfl) (by rw [ex_callF rfl Try.func20 (by kernel_rfl) (by kernel_rfl)]; exact congrArg (fun z => Result.ok (Next.enter _ z) _) (by simp only [List.map_toArray, List.map_cons, List.map_nil, show act.eval (.tmp 29) = _ from h0, show act.eval (.tmp 30) = _ from h1])) (Less_any a b HL_a.out HL_b.out HB_a.out HB_b.out _) ?_
          rintro e w2 ⟨rfl, hm2⟩
          exact ⟨_, rfl, hm2, congrArg Value.bool RAB.out⟩
        · intro act w' hm hout hsz hd
          exact lv_run rfl (wanted_none rfl) (ex_move rfl ((hout 7 (by decide)).trans oe7)) (Mod.refl _ _) rfl
        · intro act w' hm hout hsz hd
          have h2 := hd ⟨2, .data⟩ (by simp) rfl
          have h3 := hd ⟨3, .data⟩ (by simp) rfl
          exact lv_run rfl (wanted_none rfl) (ex_bin rfl h2 h3 (guard_bools _ _ _ _ _ _) (run_eql_bools _ _ _ Try.underlying4)) (Mod.refl _ _) rfl
        · intro act w' hm hout hsz hd
          have h4 := hd ⟨4, .data⟩ (by simp) rfl
          exact lv_run rfl (wanted_none rfl) (ex_move rfl h4) (Mod.refl _ _) rfl
        · intro act w' hm hout hsz hd
          have h5 := hd ⟨5, .guard⟩ (by simp) rfl
          exact lv_run rfl ((wanted_of rfl rfl (hsz 34 (by decide)) h5).trans rfl) (ex_loadA rfl Try.underlying26 rfl (off := 0) (cs := a.map bv) (by rw [List.length_map, HL_a.out]; exact size_hash) ((hout 3 (by decide)).trans oe3) (fun j u hu => by rw [Nat.zero_add, (KC_a.out.mod hm (fun h => h)).cell]; simpa using hu)) (Mod.refl _ _) rfl
        · intro act w' hm hout hsz hd
          have h5 := hd ⟨5, .guard⟩ (by simp) rfl
          exact lv_run rfl ((wanted_of rfl rfl (hsz 34 (by decide)) h5).trans rfl) (ex_loadA rfl Try.underlying26 rfl (off := 0) (cs := b.map bv) (by rw [List.length_map, HL_b.out]; exact size_hash) ((hout 4 (by decide)).trans oe4) (fun j u hu => by rw [Nat.zero_add, (KC_b.out.mod hm (fun h => h)).cell]; simpa using hu)) (Mod.refl _ _) rfl
        · intro act w' hm hout hsz hd
          have h5 := hd ⟨5, .guard⟩ (by simp) rfl
          have h6 := hd ⟨6, .data⟩ (by simp) rfl
          have h7 := hd ⟨7, .data⟩ (by simp) rfl
          exact lv_run rfl ((wanted_of rfl rfl (hsz 34 (by decide)) h5).trans rfl) (ex_bin rfl h6 h7 (hv_guard2 _ _ _ _ _ _) (run_eql_ints _ 26 5 32 Try.underlying26 Try.underlying5 (by kernel_rfl) a b HL_a.out HL_b.out)) (Mod.refl _ _) (congrArg Value.bool EQ.out)
        · intro act w' hm hout hsz hd
          have h5 := hd ⟨5, .guard⟩ (by simp) rfl
          have h8 := hd ⟨8, .data⟩ (by simp) rfl
          exact lv_run rfl ((wanted_of rfl rfl (hsz 34 (by decide)) h5).trans rfl) (ex_move rfl h8) (Mod.refl _ _) rfl
        · intro act w' hm hout hsz hd
          have h9 := hd ⟨9, .guard⟩ (by simp) rfl
          exact lv_skip rfl ((wanted_of rfl rfl (hsz 38 (by decide)) h9).trans rfl) rfl
        · intro act w' hm hout hsz hd
          have h9 := hd ⟨9, .guard⟩ (by simp) rfl
          exact lv_skip rfl ((wanted_of rfl rfl (hsz 38 (by decide)) h9).trans rfl) rfl
        · intro act w' hm hout hsz hd
          have h9 := hd ⟨9, .guard⟩ (by simp) rfl
          exact lv_skip rfl ((wanted_of rfl rfl (hsz 38 (by decide)) h9).trans rfl) rfl
        · intro act w' hm hout hsz hd
          have h9 := hd ⟨9, .guard⟩ (by simp) rfl
          exact lv_skip rfl ((wanted_of rfl rfl (hsz 38 (by decide)) h9).trans rfl) rfl
        · intro act w' hm hout hsz hd
          have h9 := hd ⟨9, .guard⟩ (by simp) rfl
          exact lv_skip rfl ((wanted_of rfl rfl (hsz 38 (by decide)) h9).trans rfl) rfl
        · intro act w' hm hout hsz hd
          have h9 := hd ⟨9, .guard⟩ (by simp) rfl
          exact lv_skip rfl ((wanted_of rfl rfl (hsz 38 (by decide)) h9).trans rfl) rfl
        · intro act w' hm hout hsz hd
          have h5 := hd ⟨5, .guard⟩ (by simp) rfl
          have h9 := hd ⟨9, .data⟩ (by simp) rfl
          have h15 := hd ⟨15, .data⟩ (by simp) rfl
          exact lv_run rfl ((wanted_of rfl rfl (hsz 34 (by decide)) h5).trans rfl) (ex_pick rfl h9 rfl h15) (Mod.refl _ _) rfl
        · intro act w' hm hout hsz hd
          have h5 := hd ⟨5, .data⟩ (by simp) rfl
          have h16 := hd ⟨16, .data⟩ (by simp) rfl
          exact lv_run rfl (wanted_none rfl) (ex_pick rfl h5 h16 rfl) (Mod.refl _ _) rfl
        · intro act w' hm hout hsz hd
          have h17 := hd ⟨17, .data⟩ (by simp) rfl
          exact lv_run rfl (wanted_none rfl) (ex_move rfl h17) (Mod.refl _ _) rfl
        · intro act w' hm hout hsz hd
          have h18 := hd ⟨18, .guard⟩ (by simp) rfl
          refine lv_call (args := #[]) rfl ((wanted_of rfl rfl (hsz 47 (by decide)) h18).trans rfl) (by rw [ex_callF rfl Try.func19 (by kernel_rfl) (by kernel_rfl)]; simp) (wakes02 _) ?_
          rintro e w2 ⟨rfl, hm2⟩
          exact ⟨_, rfl, hm2, rfl⟩
        · intro act w' hm hout hsz hd
          have h18 := hd ⟨18, .data⟩ (by simp) rfl
          have h19 := hd ⟨19, .data⟩ (by simp) rfl
          exact lv_run rfl (wanted_none rfl) (ex_pick rfl h18 h19 rfl) (Mod.refl _ _) rfl
        · intro act w' hm hout hsz hd
          have h20 := hd ⟨20, .data⟩ (by simp) rfl
          exact lv_run rfl (wanted_none rfl) (ex_assign rfl h20) (Mod.refl _ _) rfl
        intro vs w3 hl hm hV
        obtain ⟨v0q, vs0, rfl, hl0⟩ := list_cons hl
        obtain ⟨v1q, vs1, rfl, hl1⟩ := list_cons hl0
        obtain ⟨v2q, vs2, rfl, hl2⟩ := list_cons hl1
        obtain ⟨v3q, vs3, rfl, hl3⟩ := list_cons hl2
        obtain ⟨v4q, vs4, rfl, hl4⟩ := list_cons hl3
        obtain ⟨v5q, vs5, rfl, hl5⟩ := list_cons hl4
        obtain ⟨v6q, vs6, rfl, hl6⟩ := list_cons hl5
        obtain ⟨v7q, vs7, rfl, hl7⟩ := list_cons hl6
        obtain ⟨v8q, vs8, rfl, hl8⟩ := list_cons hl7
        obtain ⟨v9q, vs9, rfl, hl9⟩ := list_cons hl8
        obtain ⟨v10q, vs10, rfl, hl10⟩ := list_cons hl9
        obtain ⟨v11q, vs11, rfl, hl11⟩ := list_cons hl10
        obtain ⟨v12q, vs12, rfl, hl12⟩ := list_cons hl11
        obtain ⟨v13q, vs13, rfl, hl13⟩ := list_cons hl12
        obtain ⟨v14q, vs14, rfl, hl14⟩ := list_cons hl13
        obtain ⟨v15q, vs15, rfl, hl15⟩ := list_cons hl14
        obtain ⟨v16q, vs16, rfl, hl16⟩ := list_cons hl15
        obtain ⟨v17q, vs17, rfl, hl17⟩ := list_cons hl16
        obtain ⟨v18q, vs18, rfl, hl18⟩ := list_cons hl17
        obtain ⟨v19q, vs19, rfl, hl19⟩ := list_cons hl18
        obtain ⟨v20q, vs20, rfl, hl20⟩ := list_cons hl19
        obtain ⟨v21q, vs21, rfl, hl21⟩ := list_cons hl20
        obtain rfl := list_nil hl21
        clear hl hl0 hl1 hl2 hl3 hl4 hl5 hl6 hl7 hl8 hl9 hl10 hl11 hl12 hl13 hl14 hl15 hl16 hl17 hl18 hl19 hl20 hl21
        obtain rfl : v21q = .bool true := hV 21 _ rfl
        have ha0 := HA0.out
        subst ha0
        clear HA0 hV hsz0 oe3 oe4 oe7
        simp only [putAll, Act.put, List.setIfInBounds_toArray, List.set_cons_zero, List.set_cons_succ]
        have KM3 := Lib.hid (KM.out.trans hm (fun _ _ h => h))
        go_wp2
        go_ret
        exact ⟨rfl, KM3.out⟩
  · go_upto_region 2 with (fail)
    go_step
    refine wpList_loadA rfl 26 (.tmp 3) rfl Try.underlying26 rfl (g := w.heap.size) (off := 0) (cs := a.map bv) (by rw [List.length_map, HL_a.out]; exact size_hash) rfl (fun k u hu => by rw [Nat.zero_add, KC_a.out.cell]; simpa using hu) ?_
    simp only [Act.put, List.setIfInBounds_toArray, List.set_cons_zero, List.set_cons_succ]
    refine wpList_storeA rfl 26 (.tmp 4) (.tmp 10) rfl KC_b.out (off := 0) (vs := a.map bv) (by rw [List.length_map, HL_a.out]; exact size_hash) (ints_oneCell .u8 _) (by simp [HL_a.out, HL_b.out]) rfl rfl ?_
    intro w2 hc2 hm2
    rw [lay_whole _ _ (by simp [HL_a.out, HL_b.out])] at hc2
    have KA2 := Lib.hid (KC_a.out.mod hm2 (by omega))
    have KM2 := Lib.hid (KM.out.trans hm2 (by intro k h1 h2; omega))
    obtain ⟨c, hc⟩ : ∃ c, c = a := ⟨_, rfl⟩
    have HL_c := Lib.hid (show c.length = 32 by rw [hc]; exact HL_a.out)
    have HB_c := Lib.hid (show Bytes c by rw [hc]; exact HB_a.out)
    rw [show (a.map bv).toArray = (c.map bv).toArray by rw [hc]] at hc2
    clear KC_a KC_b KM hm2 hc
    have KC_a := Lib.hid KA2.out
    have KC_c := Lib.hid hc2
    have KM := Lib.hid KM2.out
    clear KA2 KM2 hc2
    go_wp2
    go_loopw [7, 11] (fun t7 t11 wr => ∃ (i : Nat), t11 = .int .i64 i ∧ t7 = .bool false ∧ i ≤ 32 ∧ a.take i = c.take i ∧ Cs wr w.heap.size (a.map bv).toArray 26 ∧ Cs wr (w.heap.size + 1) (c.map bv).toArray 26 ∧ Mod (fun _ => False) w wr) (fun _ t11 _ => 32 - (intOf t11).toNat)
    case atStart => exact ⟨0, rfl, rfl, by omega, rfl, KC_a.out, KC_c.out, KM.out⟩
    case round =>
      obtain ⟨wi, rfl⟩ : ∃ x, x = wr := ⟨_, rfl⟩
      obtain ⟨i, rfl, rfl, hi, htk, hA, hB, hM⟩ := hrel
      clear KC_a KC_c KM
      have KC_a := Lib.hid hA
      have KC_c := Lib.hid hB
      have KM := Lib.hid hM
      have HTK := Lib.hid htk
      clear hA hB hM htk
      by_cases hlt : i < 32
      · obtain ⟨x, hx⟩ : ∃ x, x = a.getD i 0 := ⟨_, rfl⟩
        obtain ⟨y, hy⟩ : ∃ y, y = c.getD i 0 := ⟨_, rfl⟩
        have ca : wi.cell? ⟨w.heap.size, i, none⟩ = some (.int .u8 x) := by rw [KC_a.out.cell, hx]; simp [List.getD, List.getElem?_eq_getElem (show i < a.length by rw [HL_a.out]; omega)]
        have cb : wi.cell? ⟨w.heap.size + 1, i, none⟩ = some (.int .u8 y) := by rw [KC_c.out.cell, hy]; simp [List.getD, List.getElem?_eq_getElem (show i < c.length by rw [HL_c.out]; omega)]
        have HX := Lib.hid hx
        have HY := Lib.hid hy
        clear hx hy
        go_wp2_with fail
        go_quiet (fail)
        obtain ⟨w2, hw2⟩ : ∃ x, x = wi.drewN nq := ⟨_, rfl⟩
        have hm := mod_of_drewN ⟨nq, hw2⟩ (fun _ => False)
        rw [← hw2]
        have ca2 : w2.cell? ⟨w.heap.size, i, none⟩ = some (.int .u8 x) := by rw [hw2]; exact ca
        have cb2 : w2.cell? ⟨w.heap.size + 1, i, none⟩ = some (.int .u8 y) := by rw [hw2]; exact cb
        have KA2 := Lib.hid (KC_a.out.mod hm (fun h => h))
        have KB2 := Lib.hid (KC_c.out.mod hm (fun h => h))
        have KM2 := Lib.hid (KM.out.trans hm (fun _ _ h => h))
        clear hw2 hm ca cb KC_a KC_c KM
        by_cases hxy : x = y
        · subst hxy
          clear ca2 cb2
          go_wp2
          go_roundw
          case rel =>
            refine ⟨i + 1, by go_num, rfl, by omega, ?_, KA2.out, KB2.out, KM2.out⟩
            have ha := HL_a.out
            have hb := HL_c.out
            have h1 := HX.out
            have h2 := HY.out
            rw [List.getD, List.getElem?_eq_getElem (by omega), Option.getD_some] at h1 h2
            rw [List.take_succ_eq_append_getElem (by omega), List.take_succ_eq_append_getElem (by omega), HTK.out, ← h1, ← h2]
          case measure => first | (simp [intOf]; done) | (simp [intOf]; omega)
        · have hcm := cmpI_at i a c HTK.out (by rw [HL_a.out]; omega) (by rw [HL_c.out]; omega) (by rw [← HX.out, ← HY.out]; exact hxy)
          rw [← HX.out, ← HY.out] at hcm
          have hsw := cmpI_swap a c
          have hne : a ≠ c := by intro e; apply hxy; rw [HX.out, HY.out, e]
          have hz := cmpI_zero a c
          have EQ := Lib.hid (show decide (a = c) = false from decide_eq_false hne)
          have HCM := Lib.hid hcm
          have HSW := Lib.hid hsw
          have HZ := Lib.hid hz
          have HNE := Lib.hid hne
          clear hcm hsw hz hne
          by_cases hlxy : x < y
          · go_wp2_with fail
            go_quiet (fail)
            obtain ⟨w4, hw4⟩ : ∃ x, x = w2.drewN nq := ⟨_, rfl⟩
            have hm := mod_of_drewN ⟨nq, hw4⟩ (fun _ => False)
            rw [← hw4]
            have KC_a := Lib.hid (KA2.out.mod hm (fun h => h))
            have KC_c := Lib.hid (KB2.out.mod hm (fun h => h))
            have KM := Lib.hid (KM2.out.trans hm (fun _ _ h => h))
            have RAB := Lib.hid (show decide (cmpI a c < 0) = true from decide_eq_true (HCM.out.2 hlxy))
            have RBA := Lib.hid (show decide (cmpI c a < 0) = false from decide_eq_false (by have := HSW.out; have := HCM.out.2 hlxy; omega))
            clear hw4 hm KA2 KB2 KM2 ca2 cb2
            go_upto_region 10 with (fail)
            generalize ha0 : Act.mk _ _ = a0
            have oe3 : a0.eval (.tmp 3) = .pointer (some ⟨w.heap.size, 0, none⟩) := by rw [← ha0]; rfl
            have oe4 : a0.eval (.tmp 4) = .pointer (some ⟨w.heap.size + 1, 0, none⟩) := by rw [← ha0]; rfl
            have oe7 : a0.eval (.tmp 7) = .bool true := by rw [← ha0]; rfl
            have hsz0 : a0.tmps.size = 50 := by rw [← ha0]; rfl
            have HA0 := Lib.hid ha0
            clear ha0
            refine wp_region_L (by kernel_rfl) (by kernel_rfl) [29, 30, 31, 32, 33, 34, 35, 36, 37, 38, 39, 40, 41, 42, 43, 44, 45, 46, 47, 48, 49, 6] rfl (by decide) (by rw [hsz0]; decide) [isv (hv a), isv (hv c), isv (.bool true), isv (.bool true), isv (.bool true), isv (.bool true), isv (hv a), isv (hv c), isv (.bool false), isv (.bool false), isv (hv c), isv (hv a), isv (.bool false), isv (.bool true), isv (.bool false), isv (.bool true), isv (.bool true), isv (.bool true), isv (.bool true), isv (.bool true), isv (.bool true), isv (.bool true)] ⟨isv_stable, isv_stable, isv_stable, isv_stable, isv_stable, isv_stable, isv_stable, isv_stable, isv_stable, isv_stable, isv_stable, isv_stable, isv_stable, isv_stable, isv_stable, isv_stable, isv_stable, isv_stable, isv_stable, isv_stable, isv_stable, isv_stable, trivial⟩ ⟨?_, ?_, ?_, ?_, ?_, ?_, ?_, ?_, ?_, ?_, ?_, ?_, ?_, ?_, ?_, ?_, ?_, ?_, ?_, ?_, ?_, ?_, trivial⟩ ?_
            · intro act w' hm hout hsz hd
              exact lv_run rfl (wanted_none rfl) (ex_loadA rfl Try.underlying26 rfl (off := 0) (cs := a.map bv) (by rw [List.length_map, HL_a.out]; exact size_hash) ((hout 3 (by decide)).trans oe3) (fun j u hu => by rw [Nat.zero_add, (KC_a.out.mod hm (fun h => h)).cell]; simpa using hu)) (Mod.refl _ _) rfl
            · intro act w' hm hout hsz hd
              exact lv_run rfl (wanted_none rfl) (ex_loadA rfl Try.underlying26 rfl (off := 0) (cs := c.map bv) (by rw [List.length_map, HL_c.out]; exact size_hash) ((hout 4 (by decide)).trans oe4) (fun j u hu => by rw [Nat.zero_add, (KC_c.out.mod hm (fun h => h)).cell]; simpa using hu)) (Mod.refl _ _) rfl
            · intro act w' hm hout hsz hd
              have h0 := hd ⟨0, .data⟩ (by simp) rfl
              have h1 := hd ⟨1, .data⟩ (by simp) rfl
              refine lv_call (args := #[hv a, hv c]) rfl (wanted_none rfl) (by rw [ex_callF rfl Try.func20 (by kernel_rfl) (by kernel_rfl)]; exact congrArg (fun z => Result.ok (Next.enter _ z) _) (by simp only [List.map_toArray, List.map_cons, List.map_nil, show act.eval (.tmp 29) = _ from h0, show act.eval (.tmp 30) = _ from h1])) (Less_any a c HL_a.out HL_c.out HB_a.out HB_c.out _) ?_
              rintro e w2 ⟨rfl, hm2⟩
              exact ⟨_, rfl, hm2, congrArg Value.bool RAB.out⟩
            · intro act w' hm hout hsz hd
              exact lv_run rfl (wanted_none rfl) (ex_move rfl ((hout 7 (by decide)).trans oe7)) (Mod.refl _ _) rfl
            · intro act w' hm hout hsz hd
              have h2 := hd ⟨2, .data⟩ (by simp) rfl
              have h3 := hd ⟨3, .data⟩ (by simp) rfl
              exact lv_run rfl (wanted_none rfl) (ex_bin rfl h2 h3 (guard_bools _ _ _ _ _ _) (run_eql_bools _ _ _ Try.underlying4)) (Mod.refl _ _) rfl
            · intro act w' hm hout hsz hd
              have h4 := hd ⟨4, .data⟩ (by simp) rfl
              exact lv_run rfl (wanted_none rfl) (ex_move rfl h4) (Mod.refl _ _) rfl
            · intro act w' hm hout hsz hd
              have h5 := hd ⟨5, .guard⟩ (by simp) rfl
              exact lv_run rfl ((wanted_of rfl rfl (hsz 34 (by decide)) h5).trans rfl) (ex_loadA rfl Try.underlying26 rfl (off := 0) (cs := a.map bv) (by rw [List.length_map, HL_a.out]; exact size_hash) ((hout 3 (by decide)).trans oe3) (fun j u hu => by rw [Nat.zero_add, (KC_a.out.mod hm (fun h => h)).cell]; simpa using hu)) (Mod.refl _ _) rfl
            · intro act w' hm hout hsz hd
              have h5 := hd ⟨5, .guard⟩ (by simp) rfl
              exact lv_run rfl ((wanted_of rfl rfl (hsz 34 (by decide)) h5).trans rfl) (ex_loadA rfl Try.underlying26 rfl (off := 0) (cs := c.map bv) (by rw [List.length_map, HL_c.out]; exact size_hash) ((hout 4 (by decide)).trans oe4) (fun j u hu => by rw [Nat.zero_add, (KC_c.out.mod hm (fun h => h)).cell]; simpa using hu)) (Mod.refl _ _) rfl
            · intro act w' hm hout hsz hd
              have h5 := hd ⟨5, .guard⟩ (by simp) rfl
              have h6 := hd ⟨6, .data⟩ (by simp) rfl
              have h7 := hd ⟨7, .data⟩ (by simp) rfl
              exact lv_run rfl ((wanted_of rfl rfl (hsz 34 (by decide)) h5).trans rfl) (ex_bin rfl h6 h7 (hv_guard2 _ _ _ _ _ _) (run_eql_ints _ 26 5 32 Try.underlying26 Try.underlying5 (by kernel_rfl) a c HL_a.out HL_c.out)) (Mod.refl _ _) (congrArg Value.bool EQ.out)
            · intro act w' hm hout hsz hd
              have h5 := hd ⟨5, .guard⟩ (by simp) rfl
              have h8 := hd ⟨8, .data⟩ (by simp) rfl
              exact lv_run rfl ((wanted_of rfl rfl (hsz 34 (by decide)) h5).trans rfl) (ex_move rfl h8) (Mod.refl _ _) rfl
            · intro act w' hm hout hsz hd
              have h9 := hd ⟨9, .guard⟩ (by simp) rfl
              exact lv_run rfl ((wanted_of rfl rfl (hsz 38 (by decide)) h9).trans rfl) (ex_loadA rfl Try.underlying26 rfl (off := 0) (cs := c.map bv) (by rw [List.length_map, HL_c.out]; exact size_hash) ((hout 4 (by decide)).trans oe4) (fun j u hu => by rw [Nat.zero_add, (KC_c.out.mod hm (fun h => h)).cell]; simpa using hu)) (Mod.refl _ _) rfl
            · intro act w' hm hout hsz hd
              have h9 := hd ⟨9, .guard⟩ (by simp) rfl
              exact lv_run rfl ((wanted_of rfl rfl (hsz 38 (by decide)) h9).trans rfl) (ex_loadA rfl Try.underlying26 rfl (off := 0) (cs := a.map bv) (by rw [List.length_map, HL_a.out]; exact size_hash) ((hout 3 (by decide)).trans oe3) (fun j u hu => by rw [Nat.zero_add, (KC_a.out.mod hm (fun h => h)).cell]; simpa using hu)) (Mod.refl _ _) rfl
            · intro act w' hm hout hsz hd
              have h9 := hd ⟨9, .guard⟩ (by simp) rfl
              have h10 := hd ⟨10, .data⟩ (by simp) rfl
              have h11 := hd ⟨11, .data⟩ (by simp) rfl
              refine lv_call (args := #[hv c, hv a]) rfl ((wanted_of rfl rfl (hsz 38 (by decide)) h9).trans rfl) (by rw [ex_callF rfl Try.func20 (by kernel_rfl) (by kernel_rfl)]; exact congrArg (fun z => Result.ok (Next.enter _ z) _) (by simp only [List.map_toArray, List.map_cons, List.map_nil, show act.eval (.tmp 39) = _ from h10, show act.eval (.tmp 40) = _ from h11])) (Less_any c a HL_c.out HL_a.out HB_c.out HB_a.out _) ?_
              rintro e w2 ⟨rfl, hm2⟩
              exact ⟨_, rfl, hm2, congrArg Value.bool RBA.out⟩
            · intro act w' hm hout hsz hd
              have h9 := hd ⟨9, .guard⟩ (by simp) rfl
              exact lv_run rfl ((wanted_of rfl rfl (hsz 38 (by decide)) h9).trans rfl) (ex_move rfl ((hout 7 (by decide)).trans oe7)) (Mod.refl _ _) rfl
            · intro act w' hm hout hsz hd
              have h9 := hd ⟨9, .guard⟩ (by simp) rfl
              have h13 := hd ⟨13, .data⟩ (by simp) rfl
              exact lv_run rfl ((wanted_of rfl rfl (hsz 38 (by decide)) h9).trans rfl) (ex_not rfl h13) (Mod.refl _ _) rfl
            · intro act w' hm hout hsz hd
              have h9 := hd ⟨9, .guard⟩ (by simp) rfl
              have h12 := hd ⟨12, .data⟩ (by simp) rfl
              have h14 := hd ⟨14, .data⟩ (by simp) rfl
              exact lv_run rfl ((wanted_of rfl rfl (hsz 38 (by decide)) h9).trans rfl) (ex_bin rfl h12 h14 (guard_bools _ _ _ _ _ _) (run_eql_bools _ _ _ Try.underlying4)) (Mod.refl _ _) rfl
            · intro act w' hm hout hsz hd
              have h5 := hd ⟨5, .guard⟩ (by simp) rfl
              have h9 := hd ⟨9, .data⟩ (by simp) rfl
              have h15 := hd ⟨15, .data⟩ (by simp) rfl
              exact lv_run rfl ((wanted_of rfl rfl (hsz 34 (by decide)) h5).trans rfl) (ex_pick rfl h9 rfl h15) (Mod.refl _ _) rfl
            · intro act w' hm hout hsz hd
              have h5 := hd ⟨5, .data⟩ (by simp) rfl
              have h16 := hd ⟨16, .data⟩ (by simp) rfl
              exact lv_run rfl (wanted_none rfl) (ex_pick rfl h5 h16 rfl) (Mod.refl _ _) rfl
            · intro act w' hm hout hsz hd
              have h17 := hd ⟨17, .data⟩ (by simp) rfl
              exact lv_run rfl (wanted_none rfl) (ex_move rfl h17) (Mod.refl _ _) rfl
            · intro act w' hm hout hsz hd
              have h18 := hd ⟨18, .guard⟩ (by simp) rfl
              refine lv_call (args := #[]) rfl ((wanted_of rfl rfl (hsz 47 (by decide)) h18).trans rfl) (by rw [ex_callF rfl Try.func19 (by kernel_rfl) (by kernel_rfl)]; simp) (wakes02 _) ?_
              rintro e w2 ⟨rfl, hm2⟩
              exact ⟨_, rfl, hm2, rfl⟩
            · intro act w' hm hout hsz hd
              have h18 := hd ⟨18, .data⟩ (by simp) rfl
              have h19 := hd ⟨19, .data⟩ (by simp) rfl
              exact lv_run rfl (wanted_none rfl) (ex_pick rfl h18 h19 rfl) (Mod.refl _ _) rfl
            · intro act w' hm hout hsz hd
              have h20 := hd ⟨20, .data⟩ (by simp) rfl
              exact lv_run rfl (wanted_none rfl) (ex_assign rfl h20) (Mod.refl _ _) rfl
            intro vs w3 hl hm hV
            obtain ⟨v0q, vs0, rfl, hl0⟩ := list_cons hl
            obtain ⟨v1q, vs1, rfl, hl1⟩ := list_cons hl0
            obtain ⟨v2q, vs2, rfl, hl2⟩ := list_cons hl1
            obtain ⟨v3q, vs3, rfl, hl3⟩ := list_cons hl2
            obtain ⟨v4q, vs4, rfl, hl4⟩ := list_cons hl3
            obtain ⟨v5q, vs5, rfl, hl5⟩ := list_cons hl4
            obtain ⟨v6q, vs6, rfl, hl6⟩ := list_cons hl5
            obtain ⟨v7q, vs7, rfl, hl7⟩ := list_cons hl6
            obtain ⟨v8q, vs8, rfl, hl8⟩ := list_cons hl7
            obtain ⟨v9q, vs9, rfl, hl9⟩ := list_cons hl8
            obtain ⟨v10q, vs10, rfl, hl10⟩ := list_cons hl9
            obtain ⟨v11q, vs11, rfl, hl11⟩ := list_cons hl10
            obtain ⟨v12q, vs12, rfl, hl12⟩ := list_cons hl11
            obtain ⟨v13q, vs13, rfl, hl13⟩ := list_cons hl12
            obtain ⟨v14q, vs14, rfl, hl14⟩ := list_cons hl13
            obtain ⟨v15q, vs15, rfl, hl15⟩ := list_cons hl14
            obtain ⟨v16q, vs16, rfl, hl16⟩ := list_cons hl15
            obtain ⟨v17q, vs17, rfl, hl17⟩ := list_cons hl16
            obtain ⟨v18q, vs18, rfl, hl18⟩ := list_cons hl17
            obtain ⟨v19q, vs19, rfl, hl19⟩ := list_cons hl18
            obtain ⟨v20q, vs20, rfl, hl20⟩ := list_cons hl19
            obtain ⟨v21q, vs21, rfl, hl21⟩ := list_cons hl20
            obtain rfl := list_nil hl21
            clear hl hl0 hl1 hl2 hl3 hl4 hl5 hl6 hl7 hl8 hl9 hl10 hl11 hl12 hl13 hl14 hl15 hl16 hl17 hl18 hl19 hl20 hl21
            obtain rfl : v21q = .bool true := hV 21 _ rfl
            have ha0 := HA0.out
            subst ha0
            clear HA0 hV hsz0 oe3 oe4 oe7
            simp only [putAll, Act.put, List.setIfInBounds_toArray, List.set_cons_zero, List.set_cons_succ]
            have KM3 := Lib.hid (KM.out.trans hm (fun _ _ h => h))
            go_wp2
            go_ret
            exact ⟨rfl, KM3.out⟩
          · have hnl0 : ¬ cmpI a c < 0 := fun h => hlxy (HCM.out.1 h)
            have HNL := Lib.hid hnl0
            have hdl : decide (x < y) = false := decide_eq_false hlxy
            clear hnl0
            go_wp2_with fail
            go_quiet (fail)
            clear hdl
            obtain ⟨w4, hw4⟩ : ∃ x, x = w2.drewN nq := ⟨_, rfl⟩
            have hm := mod_of_drewN ⟨nq, hw4⟩ (fun _ => False)
            rw [← hw4]
            have KC_a := Lib.hid (KA2.out.mod hm (fun h => h))
            have KC_c := Lib.hid (KB2.out.mod hm (fun h => h))
            have KM := Lib.hid (KM2.out.trans hm (fun _ _ h => h))
            have hnl : ¬ cmpI a c < 0 := by have := HNL.out; omega
            have RAB := Lib.hid (show decide (cmpI a c < 0) = false from decide_eq_false hnl)
            have RBA := Lib.hid (show decide (cmpI c a < 0) = true from decide_eq_true (by have := HSW.out; have h0 : cmpI a c ≠ 0 := fun h => HNE.out (HZ.out h); omega))
            clear hw4 hm KA2 KB2 KM2 ca2 cb2 hnl
            go_upto_region 10 with (fail)
            generalize ha0 : Act.mk _ _ = a0
            have oe3 : a0.eval (.tmp 3) = .pointer (some ⟨w.heap.size, 0, none⟩) := by rw [← ha0]; rfl
            have oe4 : a0.eval (.tmp 4) = .pointer (some ⟨w.heap.size + 1, 0, none⟩) := by rw [← ha0]; rfl
            have oe7 : a0.eval (.tmp 7) = .bool false := by rw [← ha0]; rfl
            have hsz0 : a0.tmps.size = 50 := by rw [← ha0]; rfl
            have HA0 := Lib.hid ha0
            clear ha0
            refine wp_region_L (by kernel_rfl) (by kernel_rfl) [29, 30, 31, 32, 33, 34, 35, 36, 37, 38, 39, 40, 41, 42, 43, 44, 45, 46, 47, 48, 49, 6] rfl (by decide) (by rw [hsz0]; decide) [isv (hv a), isv (hv c), isv (.bool false), isv (.bool false), isv (.bool true), isv (.bool true), isv (hv a), isv (hv c), isv (.bool false), isv (.bool false), isv (hv c), isv (hv a), isv (.bool true), isv (.bool false), isv (.bool true), isv (.bool true), isv (.bool true), isv (.bool true), isv (.bool true), isv (.bool true), isv (.bool true), isv (.bool true)] ⟨isv_stable, isv_stable, isv_stable, isv_stable, isv_stable, isv_stable, isv_stable, isv_stable, isv_stable, isv_stable, isv_stable, isv_stable, isv_stable, isv_stable, isv_stable, isv_stable, isv_stable, isv_stable, isv_stable, isv_stable, isv_stable, isv_stable, trivial⟩ ⟨?_, ?_, ?_, ?_, ?_, ?_, ?_, ?_, ?_, ?_, ?_, ?_, ?_, ?_, ?_, ?_, ?_, ?_, ?_, ?_, ?_, ?_, trivial⟩ ?_
            · intro act w' hm hout hsz hd
              exact lv_run rfl (wanted_none rfl) (ex_loadA rfl Try.underlying26 rfl (off := 0) (cs := a.map bv) (by rw [List.length_map, HL_a.out]; exact size_hash) ((hout 3 (by decide)).trans oe3) (fun j u hu => by rw [Nat.zero_add, (KC_a.out.mod hm (fun h => h)).cell]; simpa using hu)) (Mod.refl _ _) rfl
            · intro act w' hm hout hsz hd
              exact lv_run rfl (wanted_none rfl) (ex_loadA rfl Try.underlying26 rfl (off := 0) (cs := c.map bv) (by rw [List.length_map, HL_c.out]; exact size_hash) ((hout 4 (by decide)).trans oe4) (fun j u hu => by rw [Nat.zero_add, (KC_c.out.mod hm (fun h => h)).cell]; simpa using hu)) (Mod.refl _ _) rfl
            · intro act w' hm hout hsz hd
              have h0 := hd ⟨0, .data⟩ (by simp) rfl
              have h1 := hd ⟨1, .data⟩ (by simp) rfl
              refine lv_call (args := #[hv a, hv c]) rfl (wanted_none rfl) (by rw [ex_callF rfl Try.func20 (by kernel_rfl) (by kernel_rfl)]; exact congrArg (fun z => Result.ok (Next.enter _ z) _) (by simp only [List.map_toArray, List.map_cons, List.map_nil, show act.eval (.tmp 29) = _ from h0, show act.eval (.tmp 30) = _ from h1])) (Less_any a c HL_a.out HL_c.out HB_a.out HB_c.out _) ?_
              rintro e w2 ⟨rfl, hm2⟩
              exact ⟨_, rfl, hm2, congrArg Value.bool RAB.out⟩
            · intro act w' hm hout hsz hd
              exact lv_run rfl (wanted_none rfl) (ex_move rfl ((hout 7 (by decide)).trans oe7)) (Mod.refl _ _) rfl
            · intro act w' hm hout hsz hd
              have h2 := hd ⟨2, .data⟩ (by simp) rfl
              have h3 := hd ⟨3, .data⟩ (by simp) rfl
              exact lv_run rfl (wanted_none rfl) (ex_bin rfl h2 h3 (guard_bools _ _ _ _ _ _) (run_eql_bools _ _ _ Try.underlying4)) (Mod.refl _ _) rfl
            · intro act w' hm hout hsz hd
              have h4 := hd ⟨4, .data⟩ (by simp) rfl
              exact lv_run rfl (wanted_none rfl) (ex_move rfl h4) (Mod.refl _ _) rfl
            · intro act w' hm hout hsz hd
              have h5 := hd ⟨5, .guard⟩ (by simp) rfl
              exact lv_run rfl ((wanted_of rfl rfl (hsz 34 (by decide)) h5).trans rfl) (ex_loadA rfl Try.underlying26 rfl (off := 0) (cs := a.map bv) (by rw [List.length_map, HL_a.out]; exact size_hash) ((hout 3 (by decide)).trans oe3) (fun j u hu => by rw [Nat.zero_add, (KC_a.out.mod hm (fun h => h)).cell]; simpa using hu)) (Mod.refl _ _) rfl
            · intro act w' hm hout hsz hd
              have h5 := hd ⟨5, .guard⟩ (by simp) rfl
              exact lv_run rfl ((wanted_of rfl rfl (hsz 34 (by decide)) h5).trans rfl) (ex_loadA rfl Try.underlying26 rfl (off := 0) (cs := c.map bv) (by rw [List.length_map, HL_c.out]; exact size_hash) ((hout 4 (by decide)).trans oe4) (fun j u hu => by rw [Nat.zero_add, (KC_c.out.mod hm (fun h => h)).cell]; simpa using hu)) (Mod.refl _ _) rfl
            · intro act w' hm hout hsz hd
              have h5 := hd ⟨5, .guard⟩ (by simp) rfl
              have h6 := hd ⟨6, .data⟩ (by simp) rfl
              have h7 := hd ⟨7, .data⟩ (by simp) rfl
              exact lv_run rfl ((wanted_of rfl rfl (hsz 34 (by decide)) h5).trans rfl) (ex_bin rfl h6 h7 (hv_guard2 _ _ _ _ _ _) (run_eql_ints _ 26 5 32 Try.underlying26 Try.underlying5 (by kernel_rfl) a c HL_a.out HL_c.out)) (Mod.refl _ _) (congrArg Value.bool EQ.out)
            · intro act w' hm hout hsz hd
              have h5 := hd ⟨5, .guard⟩ (by simp) rfl
              have h8 := hd ⟨8, .data⟩ (by simp) rfl
              exact lv_run rfl ((wanted_of rfl rfl (hsz 34 (by decide)) h5).trans rfl) (ex_move rfl h8) (Mod.refl _ _) rfl
            · intro act w' hm hout hsz hd
              have h9 := hd ⟨9, .guard⟩ (by simp) rfl
              exact lv_run rfl ((wanted_of rfl rfl (hsz 38 (by decide)) h9).trans rfl) (ex_loadA rfl Try.underlying26 rfl (off := 0) (cs := c.map bv) (by rw [List.length_map, HL_c.out]; exact size_hash) ((hout 4 (by decide)).trans oe4) (fun j u hu => by rw [Nat.zero_add, (KC_c.out.mod hm (fun h => h)).cell]; simpa using hu)) (Mod.refl _ _) rfl
            · intro act w' hm hout hsz hd
              have h9 := hd ⟨9, .guard⟩ (by simp) rfl
              exact lv_run rfl ((wanted_of rfl rfl (hsz 38 (by decide)) h9).trans rfl) (ex_loadA rfl Try.underlying26 rfl (off := 0) (cs := a.map bv) (by rw [List.length_map, HL_a.out]; exact size_hash) ((hout 3 (by decide)).trans oe3) (fun j u hu => by rw [Nat.zero_add, (KC_a.out.mod hm (fun h => h)).cell]; simpa using hu)) (Mod.refl _ _) rfl
            · intro act w' hm hout hsz hd
              have h9 := hd ⟨9, .guard⟩ (by simp) rfl
              have h10 := hd ⟨10, .data⟩ (by simp) rfl
              have h11 := hd ⟨11, .data⟩ (by simp) rfl
              refine lv_call (args := #[hv c, hv a]) rfl ((wanted_of rfl rfl (hsz 38 (by decide)) h9).trans rfl) (by rw [ex_callF rfl Try.func20 (by kernel_rfl) (by kernel_rfl)]; exact congrArg (fun z => Result.ok (Next.enter _ z) _) (by simp only [List.map_toArray, List.map_cons, List.map_nil, show act.eval (.tmp 39) = _ from h10, show act.eval (.tmp 40) = _ from h11])) (Less_any c a HL_c.out HL_a.out HB_c.out HB_a.out _) ?_
              rintro e w2 ⟨rfl, hm2⟩
              exact ⟨_, rfl, hm2, congrArg Value.bool RBA.out⟩
            · intro act w' hm hout hsz hd
              have h9 := hd ⟨9, .guard⟩ (by simp) rfl
              exact lv_run rfl ((wanted_of rfl rfl (hsz 38 (by decide)) h9).trans rfl) (ex_move rfl ((hout 7 (by decide)).trans oe7)) (Mod.refl _ _) rfl
            · intro act w' hm hout hsz hd
              have h9 := hd ⟨9, .guard⟩ (by simp) rfl
              have h13 := hd ⟨13, .data⟩ (by simp) rfl
              exact lv_run rfl ((wanted_of rfl rfl (hsz 38 (by decide)) h9).trans rfl) (ex_not rfl h13) (Mod.refl _ _) rfl
            · intro act w' hm hout hsz hd
              have h9 := hd ⟨9, .guard⟩ (by simp) rfl
              have h12 := hd ⟨12, .data⟩ (by simp) rfl
              have h14 := hd ⟨14, .data⟩ (by simp) rfl
              exact lv_run rfl ((wanted_of rfl rfl (hsz 38 (by decide)) h9).trans rfl) (ex_bin rfl h12 h14 (guard_bools _ _ _ _ _ _) (run_eql_bools _ _ _ Try.underlying4)) (Mod.refl _ _) rfl
            · intro act w' hm hout hsz hd
              have h5 := hd ⟨5, .guard⟩ (by simp) rfl
              have h9 := hd ⟨9, .data⟩ (by simp) rfl
              have h15 := hd ⟨15, .data⟩ (by simp) rfl
              exact lv_run rfl ((wanted_of rfl rfl (hsz 34 (by decide)) h5).trans rfl) (ex_pick rfl h9 rfl h15) (Mod.refl _ _) rfl
            · intro act w' hm hout hsz hd
              have h5 := hd ⟨5, .data⟩ (by simp) rfl
              have h16 := hd ⟨16, .data⟩ (by simp) rfl
              exact lv_run rfl (wanted_none rfl) (ex_pick rfl h5 h16 rfl) (Mod.refl _ _) rfl
            · intro act w' hm hout hsz hd
              have h17 := hd ⟨17, .data⟩ (by simp) rfl
              exact lv_run rfl (wanted_none rfl) (ex_move rfl h17) (Mod.refl _ _) rfl
            · intro act w' hm hout hsz hd
              have h18 := hd ⟨18, .guard⟩ (by simp) rfl
              refine lv_call (args := #[]) rfl ((wanted_of rfl rfl (hsz 47 (by decide)) h18).trans rfl) (by rw [ex_callF rfl Try.func19 (by kernel_rfl) (by kernel_rfl)]; simp) (wakes02 _) ?_
              rintro e w2 ⟨rfl, hm2⟩
              exact ⟨_, rfl, hm2, rfl⟩
            · intro act w' hm hout hsz hd
              have h18 := hd ⟨18, .data⟩ (by simp) rfl
              have h19 := hd ⟨19, .data⟩ (by simp) rfl
              exact lv_run rfl (wanted_none rfl) (ex_pick rfl h18 h19 rfl) (Mod.refl _ _) rfl
            · intro act w' hm hout hsz hd
              have h20 := hd ⟨20, .data⟩ (by simp) rfl
              exact lv_run rfl (wanted_none rfl) (ex_assign rfl h20) (Mod.refl _ _) rfl
            intro vs w3 hl hm hV
            obtain ⟨v0q, vs0, rfl, hl0⟩ := list_cons hl
            obtain ⟨v1q, vs1, rfl, hl1⟩ := list_cons hl0
            obtain ⟨v2q, vs2, rfl, hl2⟩ := list_cons hl1
            obtain ⟨v3q, vs3, rfl, hl3⟩ := list_cons hl2
            obtain ⟨v4q, vs4, rfl, hl4⟩ := list_cons hl3
            obtain ⟨v5q, vs5, rfl, hl5⟩ := list_cons hl4
            obtain ⟨v6q, vs6, rfl, hl6⟩ := list_cons hl5
            obtain ⟨v7q, vs7, rfl, hl7⟩ := list_cons hl6
            obtain ⟨v8q, vs8, rfl, hl8⟩ := list_cons hl7
            obtain ⟨v9q, vs9, rfl, hl9⟩ := list_cons hl8
            obtain ⟨v10q, vs10, rfl, hl10⟩ := list_cons hl9
            obtain ⟨v11q, vs11, rfl, hl11⟩ := list_cons hl10
            obtain ⟨v12q, vs12, rfl, hl12⟩ := list_cons hl11
            obtain ⟨v13q, vs13, rfl, hl13⟩ := list_cons hl12
            obtain ⟨v14q, vs14, rfl, hl14⟩ := list_cons hl13
            obtain ⟨v15q, vs15, rfl, hl15⟩ := list_cons hl14
            obtain ⟨v16q, vs16, rfl, hl16⟩ := list_cons hl15
            obtain ⟨v17q, vs17, rfl, hl17⟩ := list_cons hl16
            obtain ⟨v18q, vs18, rfl, hl18⟩ := list_cons hl17
            obtain ⟨v19q, vs19, rfl, hl19⟩ := list_cons hl18
            obtain ⟨v20q, vs20, rfl, hl20⟩ := list_cons hl19
            obtain ⟨v21q, vs21, rfl, hl21⟩ := list_cons hl20
            obtain rfl := list_nil hl21
            clear hl hl0 hl1 hl2 hl3 hl4 hl5 hl6 hl7 hl8 hl9 hl10 hl11 hl12 hl13 hl14 hl15 hl16 hl17 hl18 hl19 hl20 hl21
            obtain rfl : v21q = .bool true := hV 21 _ rfl
            have ha0 := HA0.out
            subst ha0
            clear HA0 hV hsz0 oe3 oe4 oe7
            simp only [putAll, Act.put, List.setIfInBounds_toArray, List.set_cons_zero, List.set_cons_succ]
            have KM3 := Lib.hid (KM.out.trans hm (fun _ _ h => h))
            go_wp2
            go_ret
            exact ⟨rfl, KM3.out⟩
      · obtain rfl : i = 32 := by omega
        have hab : a = c := by have := HTK.out; rwa [List.take_of_length_le (by rw [HL_a.out]; omega), List.take_of_length_le (by rw [HL_c.out]; omega)] at this
        have EQ := Lib.hid (show decide (a = c) = true from decide_eq_true hab)
        have RAB := Lib.hid (show decide (cmpI a c < 0) = false by rw [← hab, cmpI_self]; rfl)
        have RBA := Lib.hid (show decide (cmpI c a < 0) = false by rw [← hab, cmpI_self]; rfl)
        clear hab
        go_upto_region 10 with (fail)
        generalize ha0 : Act.mk _ _ = a0
        have oe3 : a0.eval (.tmp 3) = .pointer (some ⟨w.heap.size, 0, none⟩) := by rw [← ha0]; rfl
        have oe4 : a0.eval (.tmp 4) = .pointer (some ⟨w.heap.size + 1, 0, none⟩) := by rw [← ha0]; rfl
        have oe7 : a0.eval (.tmp 7) = .bool false := by rw [← ha0]; rfl
        have hsz0 : a0.tmps.size = 50 := by rw [← ha0]; rfl
        have HA0 := Lib.hid ha0
        clear ha0
        refine wp_region_L (by kernel_rfl) (by kernel_rfl) [29, 30, 31, 32, 33, 34, 35, 36, 37, 38, 39, 40, 41, 42, 43, 44, 45, 46, 47, 48, 49, 6] rfl (by decide) (by rw [hsz0]; decide) [isv (hv a), isv (hv c), isv (.bool false), isv (.bool false), isv (.bool true), isv (.bool true), isv (hv a), isv (hv c), isv (.bool true), isv (.bool true), isv (undef), isv (undef), isv (undef), isv (undef), isv (undef), isv (undef), isv (.bool true), isv (.bool true), isv (.bool true), isv (.bool true), isv (.bool true), isv (.bool true)] ⟨isv_stable, isv_stable, isv_stable, isv_stable, isv_stable, isv_stable, isv_stable, isv_stable, isv_stable, isv_stable, isv_stable, isv_stable, isv_stable, isv_stable, isv_stable, isv_stable, isv_stable, isv_stable, isv_stable, isv_stable, isv_stable, isv_stable, trivial⟩ ⟨?_, ?_, ?_, ?_, ?_, ?_, ?_, ?_, ?_, ?_, ?_, ?_, ?_, ?_, ?_, ?_, ?_, ?_, ?_, ?_, ?_, ?_, trivial⟩ ?_
        · intro act w' hm hout hsz hd
          exact lv_run rfl (wanted_none rfl) (ex_loadA rfl Try.underlying26 rfl (off := 0) (cs := a.map bv) (by rw [List.length_map, HL_a.out]; exact size_hash) ((hout 3 (by decide)).trans oe3) (fun j u hu => by rw [Nat.zero_add, (KC_a.out.mod hm (fun h => h)).cell]; simpa using hu)) (Mod.refl _ _) rfl
        · intro act w' hm hout hsz hd
          exact lv_run rfl (wanted_none rfl) (ex_loadA rfl Try.underlying26 rfl (off := 0) (cs := c.map bv) (by rw [List.length_map, HL_c.out]; exact size_hash) ((hout 4 (by decide)).trans oe4) (fun j u hu => by rw [Nat.zero_add, (KC_c.out.mod hm (fun h => h)).cell]; simpa using hu)) (Mod.refl _ _) rfl
        · intro act w' hm hout hsz hd
          have h0 := hd ⟨0, .data⟩ (by simp) rfl
          have h1 := hd ⟨1, .data⟩ (by simp) rfl
          refine lv_call (args := #[hv a, hv c]) rfl (wanted_none rfl) (by rw [ex_callF rfl Try.func20 (by kernel_rfl) (by kernel_rfl)]; exact congrArg (fun z => Result.ok (Next.enter _ z) _) (by simp only [List.map_toArray, List.map_cons, List.map_nil, show act.eval (.tmp 29) = _ from h0, show act.eval (.tmp 30) = _ from h1])) (Less_any a c HL_a.out HL_c.out HB_a.out HB_c.out _) ?_
          rintro e w2 ⟨rfl, hm2⟩
          exact ⟨_, rfl, hm2, congrArg Value.bool RAB.out⟩
        · intro act w' hm hout hsz hd
          exact lv_run rfl (wanted_none rfl) (ex_move rfl ((hout 7 (by decide)).trans oe7)) (Mod.refl _ _) rfl
        · intro act w' hm hout hsz hd
          have h2 := hd ⟨2, .data⟩ (by simp) rfl
          have h3 := hd ⟨3, .data⟩ (by simp) rfl
          exact lv_run rfl (wanted_none rfl) (ex_bin rfl h2 h3 (guard_bools _ _ _ _ _ _) (run_eql_bools _ _ _ Try.underlying4)) (Mod.refl _ _) rfl
        · intro act w' hm hout hsz hd
          have h4 := hd ⟨4, .data⟩ (by simp) rfl
          exact lv_run rfl (wanted_none rfl) (ex_move rfl h4) (Mod.refl _ _) rfl
        · intro act w' hm hout hsz hd
          have h5 := hd ⟨5, .guard⟩ (by simp) rfl
          exact lv_run rfl ((wanted_of rfl rfl (hsz 34 (by decide)) h5).trans rfl) (ex_loadA rfl Try.underlying26 rfl (off := 0) (cs := a.map bv) (by rw [List.length_map, HL_a.out]; exact size_hash) ((hout 3 (by decide)).trans oe3) (fun j u hu => by rw [Nat.zero_add, (KC_a.out.mod hm (fun h => h)).cell]; simpa using hu)) (Mod.refl _ _) rfl
        · intro act w' hm hout hsz hd
          have h5 := hd ⟨5, .guard⟩ (by simp) rfl
          exact lv_run rfl ((wanted_of rfl rfl (hsz 34 (by decide)) h5).trans rfl) (ex_loadA rfl Try.underlying26 rfl (off := 0) (cs := c.map bv) (by rw [List.length_map, HL_c.out]; exact size_hash) ((hout 4 (by decide)).trans oe4) (fun j u hu => by rw [Nat.zero_add, (KC_c.out.mod hm (fun h => h)).cell]; simpa using hu)) (Mod.refl _ _) rfl
        · intro act w' hm hout hsz hd
          have h5 := hd ⟨5, .guard⟩ (by simp) rfl
          have h6 := hd ⟨6, .data⟩ (by simp) rfl
          have h7 := hd ⟨7, .data⟩ (by simp) rfl
          exact lv_run rfl ((wanted_of rfl rfl (hsz 34 (by decide)) h5).trans rfl) (ex_bin rfl h6 h7 (hv_guard2 _ _ _ _ _ _) (run_eql_ints _ 26 5 32 Try.underlying26 Try.underlying5 (by kernel_rfl) a c HL_a.out HL_c.out)) (Mod.refl _ _) (congrArg Value.bool EQ.out)
        · intro act w' hm hout hsz hd
          have h5 := hd ⟨5, .guard⟩ (by simp) rfl
          have h8 := hd ⟨8, .data⟩ (by simp) rfl
          exact lv_run rfl ((wanted_of rfl rfl (hsz 34 (by decide)) h5).trans rfl) (ex_move rfl h8) (Mod.refl _ _) rfl
        · intro act w' hm hout hsz hd
          have h9 := hd ⟨9, .guard⟩ (by simp) rfl
          exact lv_skip rfl ((wanted_of rfl rfl (hsz 38 (by decide)) h9).trans rfl) rfl
        · intro act w' hm hout hsz hd
          have h9 := hd ⟨9, .guard⟩ (by simp) rfl
          exact lv_skip rfl ((wanted_of rfl rfl (hsz 38 (by decide)) h9).trans rfl) rfl
        · intro act w' hm hout hsz hd
          have h9 := hd ⟨9, .guard⟩ (by simp) rfl
          exact lv_skip rfl ((wanted_of rfl rfl (hsz 38 (by decide)) h9).trans rfl) rfl
        · intro act w' hm hout hsz hd
          have h9 := hd ⟨9, .guard⟩ (by simp) rfl
          exact lv_skip rfl ((wanted_of rfl rfl (hsz 38 (by decide)) h9).trans rfl) rfl
        · intro act w' hm hout hsz hd
          have h9 := hd ⟨9, .guard⟩ (by simp) rfl
          exact lv_skip rfl ((wanted_of rfl rfl (hsz 38 (by decide)) h9).trans rfl) rfl
        · intro act w' hm hout hsz hd
          have h9 := hd ⟨9, .guard⟩ (by simp) rfl
          exact lv_skip rfl ((wanted_of rfl rfl (hsz 38 (by decide)) h9).trans rfl) rfl
        · intro act w' hm hout hsz hd
          have h5 := hd ⟨5, .guard⟩ (by simp) rfl
          have h9 := hd ⟨9, .data⟩ (by simp) rfl
          have h15 := hd ⟨15, .data⟩ (by simp) rfl
          exact lv_run rfl ((wanted_of rfl rfl (hsz 34 (by decide)) h5).trans rfl) (ex_pick rfl h9 rfl h15) (Mod.refl _ _) rfl
        · intro act w' hm hout hsz hd
          have h5 := hd ⟨5, .data⟩ (by simp) rfl
          have h16 := hd ⟨16, .data⟩ (by simp) rfl
          exact lv_run rfl (wanted_none rfl) (ex_pick rfl h5 h16 rfl) (Mod.refl _ _) rfl
        · intro act w' hm hout hsz hd
          have h17 := hd ⟨17, .data⟩ (by simp) rfl
          exact lv_run rfl (wanted_none rfl) (ex_move rfl h17) (Mod.refl _ _) rfl
        · intro act w' hm hout hsz hd
          have h18 := hd ⟨18, .guard⟩ (by simp) rfl
          refine lv_call (args := #[]) rfl ((wanted_of rfl rfl (hsz 47 (by decide)) h18).trans rfl) (by rw [ex_callF rfl Try.func19 (by kernel_rfl) (by kernel_rfl)]; simp) (wakes02 _) ?_
          rintro e w2 ⟨rfl, hm2⟩
          exact ⟨_, rfl, hm2, rfl⟩
        · intro act w' hm hout hsz hd
          have h18 := hd ⟨18, .data⟩ (by simp) rfl
          have h19 := hd ⟨19, .data⟩ (by simp) rfl
          exact lv_run rfl (wanted_none rfl) (ex_pick rfl h18 h19 rfl) (Mod.refl _ _) rfl
        · intro act w' hm hout hsz hd
          have h20 := hd ⟨20, .data⟩ (by simp) rfl
          exact lv_run rfl (wanted_none rfl) (ex_assign rfl h20) (Mod.refl _ _) rfl
        intro vs w3 hl hm hV
        obtain ⟨v0q, vs0, rfl, hl0⟩ := list_cons hl
        obtain ⟨v1q, vs1, rfl, hl1⟩ := list_cons hl0
        obtain ⟨v2q, vs2, rfl, hl2⟩ := list_cons hl1
        obtain ⟨v3q, vs3, rfl, hl3⟩ := list_cons hl2
        obtain ⟨v4q, vs4, rfl, hl4⟩ := list_cons hl3
        obtain ⟨v5q, vs5, rfl, hl5⟩ := list_cons hl4
        obtain ⟨v6q, vs6, rfl, hl6⟩ := list_cons hl5
        obtain ⟨v7q, vs7, rfl, hl7⟩ := list_cons hl6
        obtain ⟨v8q, vs8, rfl, hl8⟩ := list_cons hl7
        obtain ⟨v9q, vs9, rfl, hl9⟩ := list_cons hl8
        obtain ⟨v10q, vs10, rfl, hl10⟩ := list_cons hl9
        obtain ⟨v11q, vs11, rfl, hl11⟩ := list_cons hl10
        obtain ⟨v12q, vs12, rfl, hl12⟩ := list_cons hl11
        obtain ⟨v13q, vs13, rfl, hl13⟩ := list_cons hl12
        obtain ⟨v14q, vs14, rfl, hl14⟩ := list_cons hl13
        obtain ⟨v15q, vs15, rfl, hl15⟩ := list_cons hl14
        obtain ⟨v16q, vs16, rfl, hl16⟩ := list_cons hl15
        obtain ⟨v17q, vs17, rfl, hl17⟩ := list_cons hl16
        obtain ⟨v18q, vs18, rfl, hl18⟩ := list_cons hl17
        obtain ⟨v19q, vs19, rfl, hl19⟩ := list_cons hl18
        obtain ⟨v20q, vs20, rfl, hl20⟩ := list_cons hl19
        obtain ⟨v21q, vs21, rfl, hl21⟩ := list_cons hl20
        obtain rfl := list_nil hl21
        clear hl hl0 hl1 hl2 hl3 hl4 hl5 hl6 hl7 hl8 hl9 hl10 hl11 hl12 hl13 hl14 hl15 hl16 hl17 hl18 hl19 hl20 hl21
        obtain rfl : v21q = .bool true := hV 21 _ rfl
        have ha0 := HA0.out
        subst ha0
        clear HA0 hV hsz0 oe3 oe4 oe7
        simp only [putAll, Act.put, List.setIfInBounds_toArray, List.set_cons_zero, List.set_cons_succ]
        have KM3 := Lib.hid (KM.out.trans hm (fun _ _ h => h))
        go_wp2
        go_ret
        exact ⟨rfl, KM3.out⟩
end Go.Proofs.Ytfgepphankfbfaa
