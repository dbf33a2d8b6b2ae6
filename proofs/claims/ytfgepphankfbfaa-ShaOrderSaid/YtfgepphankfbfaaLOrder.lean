/- ShaOrder: the walk. -/
import Derived.Test.YtfgepphankfbfaaSha6
import Derived.Test.YtfgepphankfbfaaVal
import Derived.Deep.Cut
set_option maxRecDepth 100000
set_option linter.unusedVariables false
namespace Go.Proofs.Ytfgepphankfbfaa
open Go Go.RowKit Go.Gv

set_option maxHeartbeats 4000000 in
theorem ShaOrder_walk (a b c : List Int) (hla : a.length = 32) (hlb : b.length = 32) (hlc : c.length = 32) (hba : Bytes a) (hbb : Bytes b) (hbc : Bytes c) (w : World) :
    Calls Try.prog 4 #[hv a, hv b, hv c] w fun e w' => e = .returned (.bool true) ∧ Mod (fun _ => False) w w' := by
  have HL_a := Lib.hid hla
  have HL_b := Lib.hid hlb
  have HL_c := Lib.hid hlc
  have HB_a := Lib.hid hba
  have HB_b := Lib.hid hbb
  have HB_c := Lib.hid hbc
  clear hla hlb hlc hba hbb hbc
  change Calls _ _ #[.agg (a.map bv).toArray, .agg (b.map bv).toArray, .agg (c.map bv).toArray] _ _
  go_enter Try.func4, Try.ntmps4
  go_upto_region 1 with (fail)
  obtain ⟨w1, hw1⟩ : ∃ x, x = ((w.alloc (.cells (a.map bv).toArray 26)).alloc (.cells (b.map bv).toArray 26)).alloc (.cells (c.map bv).toArray 26) := ⟨_, rfl⟩
  rw [← hw1]
  have KC_a := Lib.hid (show Cs w1 w.heap.size (a.map bv).toArray 26 by rw [hw1]; exact ((Cs.new _ _ _).alloc _).alloc _)
  have KC_b := Lib.hid (show Cs w1 (w.heap.size + 1) (b.map bv).toArray 26 by rw [hw1]; exact (Cs_new1 _ _ _ _).alloc _)
  have KC_c := Lib.hid (show Cs w1 (w.heap.size + 1 + 1) (c.map bv).toArray 26 by
    rw [hw1]
    have := Cs_new1 (w.alloc (.cells (a.map bv).toArray 26)) (.cells (b.map bv).toArray 26) (c.map bv).toArray 26
    rwa [show (w.alloc (.cells (a.map bv).toArray 26)).heap.size = w.heap.size + 1 by simp] at this)
  have KM := Lib.hid (show Mod (fun _ => False) w w1 by rw [hw1]; exact (((Mod.refl _ _).alloc _).alloc _).alloc _)
  clear hw1
  have RAA := Lib.hid (show decide (cmpI a a < 0) = false by rw [cmpI_self]; rfl)
  have hsw := cmpI_swap a b
  have htr := cmpI_trans a b c
  have hz := cmpI_zero a b
  have hself := cmpI_self a
  have hc : (cmpI a b < 0 ∧ cmpI b c < 0) ∨ (cmpI a b < 0 ∧ ¬ cmpI b c < 0) ∨ (¬ cmpI a b < 0 ∧ cmpI b a < 0) ∨ (¬ cmpI a b < 0 ∧ ¬ cmpI b a < 0) := by omega
  rcases hc with ⟨h1, h2⟩ | ⟨h1, h2⟩ | ⟨h1, h2⟩ | ⟨h1, h2⟩
  · have RAB := Lib.hid (decide_eq_true h1)
    have RBC := Lib.hid (decide_eq_true h2)
    have RAC := Lib.hid (decide_eq_true (htr h1 h2))
    have RBA := Lib.hid (show decide (cmpI b a < 0) = false from decide_eq_false (by omega))
    have NE := Lib.hid (show (!decide (a = b)) = true by rw [decide_eq_false (by rintro rfl; omega)]; rfl)
    clear h1 h2 hsw htr hz hself
    generalize ha0 : Act.mk _ _ = a0
    have oe3 : a0.eval (.tmp 3) = .pointer (some ⟨w.heap.size, 0, none⟩) := by rw [← ha0]; rfl
    have oe4 : a0.eval (.tmp 4) = .pointer (some ⟨w.heap.size + 1, 0, none⟩) := by rw [← ha0]; rfl
    have oe5 : a0.eval (.tmp 5) = .pointer (some ⟨w.heap.size + 1 + 1, 0, none⟩) := by rw [← ha0]; rfl
    have hsz0 : a0.tmps.size = 53 := by rw [← ha0]; rfl
    have HA0 := Lib.hid ha0
    clear ha0
    refine wp_region_L (by kernel_rfl) (by kernel_rfl) [7, 8, 9, 10, 11, 12, 13, 14, 15, 16, 17, 18, 19, 20] rfl (by decide) (by rw [hsz0]; decide) [isv (hv a), isv (hv b), isv (.bool true), isv (.bool true), isv (hv b), isv (hv c), isv (.bool true), isv (.bool true), isv (.bool true), isv (hv a), isv (hv c), isv (.bool true), isv (.bool false), isv (.bool false)] ⟨isv_stable, isv_stable, isv_stable, isv_stable, isv_stable, isv_stable, isv_stable, isv_stable, isv_stable, isv_stable, isv_stable, isv_stable, isv_stable, isv_stable, trivial⟩ ⟨?_, ?_, ?_, ?_, ?_, ?_, ?_, ?_, ?_, ?_, ?_, ?_, ?_, ?_, trivial⟩ ?_
    · intro act w' hm hout hsz hd
      exact lv_run rfl (wanted_none rfl) (ex_loadA rfl Try.underlying26 rfl (off := 0) (cs := a.map bv) (by rw [List.length_map, HL_a.out]; exact size_hash) ((hout 3 (by decide)).trans oe3) (fun j u hu => by rw [Nat.zero_add, (KC_a.out.mod hm (fun h => h)).cell]; simpa using hu)) (Mod.refl _ _) rfl
    · intro act w' hm hout hsz hd
      exact lv_run rfl (wanted_none rfl) (ex_loadA rfl Try.underlying26 rfl (off := 0) (cs := b.map bv) (by rw [List.length_map, HL_b.out]; exact size_hash) ((hout 4 (by decide)).trans oe4) (fun j u hu => by rw [Nat.zero_add, (KC_b.out.mod hm (fun h => h)).cell]; simpa using hu)) (Mod.refl _ _) rfl
    · intro act w' hm hout hsz hd
      have h0 := hd ⟨0, .data⟩ (by simp) rfl
      have h1 := hd ⟨1, .data⟩ (by simp) rfl
      refine lv_call (args := #[hv a, hv b]) rfl (wanted_none rfl) (by rw [ex_callF rfl Try.func20 (by kernel_rfl) (by kernel_rfl)]; exact congrArg (fun z => Result.ok (Next.enter _ z) _) (by simp only [List.map_toArray, List.map_cons, List.map_nil, show act.eval (.tmp 7) = _ from h0, show act.eval (.tmp 8) = _ from h1])) (Less_any a b HL_a.out HL_b.out HB_a.out HB_b.out _) ?_
      rintro e w2 ⟨rfl, hm2⟩
      exact ⟨_, rfl, hm2, congrArg Value.bool RAB.out⟩
    · intro act w' hm hout hsz hd
      have h2 := hd ⟨2, .data⟩ (by simp) rfl
      exact lv_run rfl (wanted_none rfl) (ex_move rfl h2) (Mod.refl _ _) rfl
    · intro act w' hm hout hsz hd
      have h3 := hd ⟨3, .guard⟩ (by simp) rfl
      exact lv_run rfl ((wanted_of rfl rfl (hsz 10 (by decide)) h3).trans rfl) (ex_loadA rfl Try.underlying26 rfl (off := 0) (cs := b.map bv) (by rw [List.length_map, HL_b.out]; exact size_hash) ((hout 4 (by decide)).trans oe4) (fun j u hu => by rw [Nat.zero_add, (KC_b.out.mod hm (fun h => h)).cell]; simpa using hu)) (Mod.refl _ _) rfl
    · intro act w' hm hout hsz hd
      have h3 := hd ⟨3, .guard⟩ (by simp) rfl
      exact lv_run rfl ((wanted_of rfl rfl (hsz 10 (by decide)) h3).trans rfl) (ex_loadA rfl Try.underlying26 rfl (off := 0) (cs := c.map bv) (by rw [List.length_map, HL_c.out]; exact size_hash) ((hout 5 (by decide)).trans oe5) (fun j u hu => by rw [Nat.zero_add, (KC_c.out.mod hm (fun h => h)).cell]; simpa using hu)) (Mod.refl _ _) rfl
    · intro act w' hm hout hsz hd
      have h3 := hd ⟨3, .guard⟩ (by simp) rfl
      have h4 := hd ⟨4, .data⟩ (by simp) rfl
      have h5 := hd ⟨5, .data⟩ (by simp) rfl
      refine lv_call (args := #[hv b, hv c]) rfl ((wanted_of rfl rfl (hsz 10 (by decide)) h3).trans rfl) (by rw [ex_callF rfl Try.func20 (by kernel_rfl) (by kernel_rfl)]; exact congrArg (fun z => Result.ok (Next.enter _ z) _) (by simp only [List.map_toArray, List.map_cons, List.map_nil, show act.eval (.tmp 11) = _ from h4, show act.eval (.tmp 12) = _ from h5])) (Less_any b c HL_b.out HL_c.out HB_b.out HB_c.out _) ?_
      rintro e w2 ⟨rfl, hm2⟩
      exact ⟨_, rfl, hm2, congrArg Value.bool RBC.out⟩
    · intro act w' hm hout hsz hd
      have h3 := hd ⟨3, .data⟩ (by simp) rfl
      have h6 := hd ⟨6, .data⟩ (by simp) rfl
      exact lv_run rfl (wanted_none rfl) (ex_pick rfl h3 h6 rfl) (Mod.refl _ _) rfl
    · intro act w' hm hout hsz hd
      have h7 := hd ⟨7, .data⟩ (by simp) rfl
      exact lv_run rfl (wanted_none rfl) (ex_move rfl h7) (Mod.refl _ _) rfl
    · intro act w' hm hout hsz hd
      have h8 := hd ⟨8, .guard⟩ (by simp) rfl
      exact lv_run rfl ((wanted_of rfl rfl (hsz 15 (by decide)) h8).trans rfl) (ex_loadA rfl Try.underlying26 rfl (off := 0) (cs := a.map bv) (by rw [List.length_map, HL_a.out]; exact size_hash) ((hout 3 (by decide)).trans oe3) (fun j u hu => by rw [Nat.zero_add, (KC_a.out.mod hm (fun h => h)).cell]; simpa using hu)) (Mod.refl _ _) rfl
    · intro act w' hm hout hsz hd
      have h8 := hd ⟨8, .guard⟩ (by simp) rfl
      exact lv_run rfl ((wanted_of rfl rfl (hsz 15 (by decide)) h8).trans rfl) (ex_loadA rfl Try.underlying26 rfl (off := 0) (cs := c.map bv) (by rw [List.length_map, HL_c.out]; exact size_hash) ((hout 5 (by decide)).trans oe5) (fun j u hu => by rw [Nat.zero_add, (KC_c.out.mod hm (fun h => h)).cell]; simpa using hu)) (Mod.refl _ _) rfl
    · intro act w' hm hout hsz hd
      have h8 := hd ⟨8, .guard⟩ (by simp) rfl
      have h9 := hd ⟨9, .data⟩ (by simp) rfl
      have h10 := hd ⟨10, .data⟩ (by simp) rfl
      refine lv_call (args := #[hv a, hv c]) rfl ((wanted_of rfl rfl (hsz 15 (by decide)) h8).trans rfl) (by rw [ex_callF rfl Try.func20 (by kernel_rfl) (by kernel_rfl)]; exact congrArg (fun z => Result.ok (Next.enter _ z) _) (by simp only [List.map_toArray, List.map_cons, List.map_nil, show act.eval (.tmp 16) = _ from h9, show act.eval (.tmp 17) = _ from h10])) (Less_any a c HL_a.out HL_c.out HB_a.out HB_c.out _) ?_
      rintro e w2 ⟨rfl, hm2⟩
      exact ⟨_, rfl, hm2, congrArg Value.bool RAC.out⟩
    · intro act w' hm hout hsz hd
      have h8 := hd ⟨8, .guard⟩ (by simp) rfl
      have h11 := hd ⟨11, .data⟩ (by simp) rfl
      exact lv_run rfl ((wanted_of rfl rfl (hsz 15 (by decide)) h8).trans rfl) (ex_not rfl h11) (Mod.refl _ _) rfl
    · intro act w' hm hout hsz hd
      have h8 := hd ⟨8, .data⟩ (by simp) rfl
      have h12 := hd ⟨12, .data⟩ (by simp) rfl
      exact lv_run rfl (wanted_none rfl) (ex_pick rfl h8 h12 rfl) (Mod.refl _ _) rfl
    intro vs w2 hl hm hV
    obtain ⟨v0p, vs0, rfl, hl0⟩ := list_cons hl
    obtain ⟨v1p, vs1, rfl, hl1⟩ := list_cons hl0
    obtain ⟨v2p, vs2, rfl, hl2⟩ := list_cons hl1
    obtain ⟨v3p, vs3, rfl, hl3⟩ := list_cons hl2
    obtain ⟨v4p, vs4, rfl, hl4⟩ := list_cons hl3
    obtain ⟨v5p, vs5, rfl, hl5⟩ := list_cons hl4
    obtain ⟨v6p, vs6, rfl, hl6⟩ := list_cons hl5
    obtain ⟨v7p, vs7, rfl, hl7⟩ := list_cons hl6
    obtain ⟨v8p, vs8, rfl, hl8⟩ := list_cons hl7
    obtain ⟨v9p, vs9, rfl, hl9⟩ := list_cons hl8
    obtain ⟨v10p, vs10, rfl, hl10⟩ := list_cons hl9
    obtain ⟨v11p, vs11, rfl, hl11⟩ := list_cons hl10
    obtain ⟨v12p, vs12, rfl, hl12⟩ := list_cons hl11
    obtain ⟨v13p, vs13, rfl, hl13⟩ := list_cons hl12
    obtain rfl := list_nil hl13
    clear hl hl0 hl1 hl2 hl3 hl4 hl5 hl6 hl7 hl8 hl9 hl10 hl11 hl12 hl13
    obtain rfl : v13p = .bool false := hV 13 _ rfl
    have ha0 := HA0.out
    subst ha0
    clear HA0 hV hsz0 oe3 oe4 oe5
    simp only [putAll, Act.put, List.setIfInBounds_toArray, List.set_cons_zero, List.set_cons_succ]
    have KC_a2 := Lib.hid (KC_a.out.mod hm (fun h => h))
    have KC_b2 := Lib.hid (KC_b.out.mod hm (fun h => h))
    have KM2 := Lib.hid (KM.out.trans hm (fun _ _ h => h))
    clear hm KC_a KC_b KC_c KM
    have KC_a := Lib.hid KC_a2.out
    have KC_b := Lib.hid KC_b2.out
    go_upto_region 3 with (fail)
    generalize ha0 : Act.mk _ _ = a0
    have oe3 : a0.eval (.tmp 3) = .pointer (some ⟨w.heap.size, 0, none⟩) := by rw [← ha0]; rfl
    have oe4 : a0.eval (.tmp 4) = .pointer (some ⟨w.heap.size + 1, 0, none⟩) := by rw [← ha0]; rfl
    have hsz0 : a0.tmps.size = 53 := by rw [← ha0]; rfl
    have HA0 := Lib.hid ha0
    clear ha0
    refine wp_region_L (by kernel_rfl) (by kernel_rfl) [21, 22, 23, 24, 25, 26, 27, 28, 29, 30, 31, 32, 33, 34, 35, 36, 37, 38, 39, 40, 41, 42, 43, 44, 45, 46, 47, 48, 49, 50, 51, 52, 6] rfl (by decide) (by rw [hsz0]; decide) [isv (hv a), isv (hv a), isv (.bool false), isv (.bool true), isv (.bool true), isv (hv a), isv (hv b), isv (.bool true), isv (.bool true), isv (undef), isv (undef), isv (undef), isv (.bool true), isv (hv a), isv (hv b), isv (.bool true), isv (.bool true), isv (.bool true), isv (.bool true), isv (hv a), isv (hv b), isv (.bool true), isv (.bool true), isv (hv b), isv (hv a), isv (.bool false), isv (.bool false), isv (.bool true), isv (.bool true), isv (.bool true), isv (.bool true), isv (.bool true), isv (.bool true)] ⟨isv_stable, isv_stable, isv_stable, isv_stable, isv_stable, isv_stable, isv_stable, isv_stable, isv_stable, isv_stable, isv_stable, isv_stable, isv_stable, isv_stable, isv_stable, isv_stable, isv_stable, isv_stable, isv_stable, isv_stable, isv_stable, isv_stable, isv_stable, isv_stable, isv_stable, isv_stable, isv_stable, isv_stable, isv_stable, isv_stable, isv_stable, isv_stable, isv_stable, trivial⟩ ⟨?_, ?_, ?_, ?_, ?_, ?_, ?_, ?_, ?_, ?_, ?_, ?_, ?_, ?_, ?_, ?_, ?_, ?_, ?_, ?_, ?_, ?_, ?_, ?_, ?_, ?_, ?_, ?_, ?_, ?_, ?_, ?_, ?_, trivial⟩ ?_
    · intro act w' hm hout hsz hd
      exact lv_run rfl (wanted_none rfl) (ex_loadA rfl Try.underlying26 rfl (off := 0) (cs := a.map bv) (by rw [List.length_map, HL_a.out]; exact size_hash) ((hout 3 (by decide)).trans oe3) (fun j u hu => by rw [Nat.zero_add, (KC_a.out.mod hm (fun h => h)).cell]; simpa using hu)) (Mod.refl _ _) rfl
    · intro act w' hm hout hsz hd
      exact lv_run rfl (wanted_none rfl) (ex_loadA rfl Try.underlying26 rfl (off := 0) (cs := a.map bv) (by rw [List.length_map, HL_a.out]; exact size_hash) ((hout 3 (by decide)).trans oe3) (fun j u hu => by rw [Nat.zero_add, (KC_a.out.mod hm (fun h => h)).cell]; simpa using hu)) (Mod.refl _ _) rfl
    · intro act w' hm hout hsz hd
      have h0 := hd ⟨0, .data⟩ (by simp) rfl
      have h1 := hd ⟨1, .data⟩ (by simp) rfl
      refine lv_call (args := #[hv a, hv a]) rfl (wanted_none rfl) (by rw [ex_callF rfl Try.func20 (by kernel_rfl) (by kernel_rfl)]; exact congrArg (fun z => Result.ok (Next.enter _ z) _) (by simp only [List.map_toArray, List.map_cons, List.map_nil, show act.eval (.tmp 21) = _ from h0, show act.eval (.tmp 22) = _ from h1])) (Less_any a a HL_a.out HL_a.out HB_a.out HB_a.out _) ?_
      rintro e w2 ⟨rfl, hm2⟩
      exact ⟨_, rfl, hm2, congrArg Value.bool RAA.out⟩
    · intro act w' hm hout hsz hd
      have h2 := hd ⟨2, .data⟩ (by simp) rfl
      exact lv_run rfl (wanted_none rfl) (ex_not rfl h2) (Mod.refl _ _) rfl
    · intro act w' hm hout hsz hd
      have h3 := hd ⟨3, .data⟩ (by simp) rfl
      exact lv_run rfl (wanted_none rfl) (ex_move rfl h3) (Mod.refl _ _) rfl
    · intro act w' hm hout hsz hd
      have h4 := hd ⟨4, .guard⟩ (by simp) rfl
      exact lv_run rfl ((wanted_of rfl rfl (hsz 25 (by decide)) h4).trans rfl) (ex_loadA rfl Try.underlying26 rfl (off := 0) (cs := a.map bv) (by rw [List.length_map, HL_a.out]; exact size_hash) ((hout 3 (by decide)).trans oe3) (fun j u hu => by rw [Nat.zero_add, (KC_a.out.mod hm (fun h => h)).cell]; simpa using hu)) (Mod.refl _ _) rfl
    · intro act w' hm hout hsz hd
      have h4 := hd ⟨4, .guard⟩ (by simp) rfl
      exact lv_run rfl ((wanted_of rfl rfl (hsz 25 (by decide)) h4).trans rfl) (ex_loadA rfl Try.underlying26 rfl (off := 0) (cs := b.map bv) (by rw [List.length_map, HL_b.out]; exact size_hash) ((hout 4 (by decide)).trans oe4) (fun j u hu => by rw [Nat.zero_add, (KC_b.out.mod hm (fun h => h)).cell]; simpa using hu)) (Mod.refl _ _) rfl
    · intro act w' hm hout hsz hd
      have h4 := hd ⟨4, .guard⟩ (by simp) rfl
      have h5 := hd ⟨5, .data⟩ (by simp) rfl
      have h6 := hd ⟨6, .data⟩ (by simp) rfl
      refine lv_call (args := #[hv a, hv b]) rfl ((wanted_of rfl rfl (hsz 25 (by decide)) h4).trans rfl) (by rw [ex_callF rfl Try.func20 (by kernel_rfl) (by kernel_rfl)]; exact congrArg (fun z => Result.ok (Next.enter _ z) _) (by simp only [List.map_toArray, List.map_cons, List.map_nil, show act.eval (.tmp 26) = _ from h5, show act.eval (.tmp 27) = _ from h6])) (Less_any a b HL_a.out HL_b.out HB_a.out HB_b.out _) ?_
      rintro e w2 ⟨rfl, hm2⟩
      exact ⟨_, rfl, hm2, congrArg Value.bool RAB.out⟩
    · intro act w' hm hout hsz hd
      have h4 := hd ⟨4, .guard⟩ (by simp) rfl
      have h7 := hd ⟨7, .data⟩ (by simp) rfl
      exact lv_run rfl ((wanted_of rfl rfl (hsz 25 (by decide)) h4).trans rfl) (ex_move rfl h7) (Mod.refl _ _) rfl
    · intro act w' hm hout hsz hd
      have h8 := hd ⟨8, .guard⟩ (by simp) rfl
      exact lv_skip rfl ((wanted_of rfl rfl (hsz 29 (by decide)) h8).trans rfl) rfl
    · intro act w' hm hout hsz hd
      have h8 := hd ⟨8, .guard⟩ (by simp) rfl
      exact lv_skip rfl ((wanted_of rfl rfl (hsz 29 (by decide)) h8).trans rfl) rfl
    · intro act w' hm hout hsz hd
      have h8 := hd ⟨8, .guard⟩ (by simp) rfl
      exact lv_skip rfl ((wanted_of rfl rfl (hsz 29 (by decide)) h8).trans rfl) rfl
    · intro act w' hm hout hsz hd
      have h4 := hd ⟨4, .guard⟩ (by simp) rfl
      have h8 := hd ⟨8, .data⟩ (by simp) rfl
      have h11 := hd ⟨11, .data⟩ (by simp) rfl
      exact lv_run rfl ((wanted_of rfl rfl (hsz 25 (by decide)) h4).trans rfl) (ex_pick rfl h8 rfl h11) (Mod.refl _ _) rfl
    · intro act w' hm hout hsz hd
      have h4 := hd ⟨4, .guard⟩ (by simp) rfl
      exact lv_run rfl ((wanted_of rfl rfl (hsz 25 (by decide)) h4).trans rfl) (ex_loadA rfl Try.underlying26 rfl (off := 0) (cs := a.map bv) (by rw [List.length_map, HL_a.out]; exact size_hash) ((hout 3 (by decide)).trans oe3) (fun j u hu => by rw [Nat.zero_add, (KC_a.out.mod hm (fun h => h)).cell]; simpa using hu)) (Mod.refl _ _) rfl
    · intro act w' hm hout hsz hd
      have h4 := hd ⟨4, .guard⟩ (by simp) rfl
      exact lv_run rfl ((wanted_of rfl rfl (hsz 25 (by decide)) h4).trans rfl) (ex_loadA rfl Try.underlying26 rfl (off := 0) (cs := b.map bv) (by rw [List.length_map, HL_b.out]; exact size_hash) ((hout 4 (by decide)).trans oe4) (fun j u hu => by rw [Nat.zero_add, (KC_b.out.mod hm (fun h => h)).cell]; simpa using hu)) (Mod.refl _ _) rfl
    · intro act w' hm hout hsz hd
      have h4 := hd ⟨4, .guard⟩ (by simp) rfl
      have h13 := hd ⟨13, .data⟩ (by simp) rfl
      have h14 := hd ⟨14, .data⟩ (by simp) rfl
      exact lv_run rfl ((wanted_of rfl rfl (hsz 25 (by decide)) h4).trans rfl) (ex_bin rfl h13 h14 (hv_guard2 _ _ _ _ _ _) (run_neq_ints _ 26 5 32 Try.underlying26 Try.underlying5 (by kernel_rfl) a b HL_a.out HL_b.out)) (Mod.refl _ _) (congrArg Value.bool NE.out)
    · intro act w' hm hout hsz hd
      have h4 := hd ⟨4, .guard⟩ (by simp) rfl
      have h12 := hd ⟨12, .data⟩ (by simp) rfl
      have h15 := hd ⟨15, .data⟩ (by simp) rfl
      exact lv_run rfl ((wanted_of rfl rfl (hsz 25 (by decide)) h4).trans rfl) (ex_bin rfl h12 h15 (guard_bools _ _ _ _ _ _) (run_eql_bools _ _ _ Try.underlying4)) (Mod.refl _ _) rfl
    · intro act w' hm hout hsz hd
      have h4 := hd ⟨4, .data⟩ (by simp) rfl
      have h16 := hd ⟨16, .data⟩ (by simp) rfl
      exact lv_run rfl (wanted_none rfl) (ex_pick rfl h4 h16 rfl) (Mod.refl _ _) rfl
    · intro act w' hm hout hsz hd
      have h17 := hd ⟨17, .data⟩ (by simp) rfl
      exact lv_run rfl (wanted_none rfl) (ex_move rfl h17) (Mod.refl _ _) rfl
    · intro act w' hm hout hsz hd
      have h18 := hd ⟨18, .guard⟩ (by simp) rfl
      exact lv_run rfl ((wanted_of rfl rfl (hsz 39 (by decide)) h18).trans rfl) (ex_loadA rfl Try.underlying26 rfl (off := 0) (cs := a.map bv) (by rw [List.length_map, HL_a.out]; exact size_hash) ((hout 3 (by decide)).trans oe3) (fun j u hu => by rw [Nat.zero_add, (KC_a.out.mod hm (fun h => h)).cell]; simpa using hu)) (Mod.refl _ _) rfl
    · intro act w' hm hout hsz hd
      have h18 := hd ⟨18, .guard⟩ (by simp) rfl
      exact lv_run rfl ((wanted_of rfl rfl (hsz 39 (by decide)) h18).trans rfl) (ex_loadA rfl Try.underlying26 rfl (off := 0) (cs := b.map bv) (by rw [List.length_map, HL_b.out]; exact size_hash) ((hout 4 (by decide)).trans oe4) (fun j u hu => by rw [Nat.zero_add, (KC_b.out.mod hm (fun h => h)).cell]; simpa using hu)) (Mod.refl _ _) rfl
    · intro act w' hm hout hsz hd
      have h18 := hd ⟨18, .guard⟩ (by simp) rfl
      have h19 := hd ⟨19, .data⟩ (by simp) rfl
      have h20 := hd ⟨20, .data⟩ (by simp) rfl
      refine lv_call (args := #[hv a, hv b]) rfl ((wanted_of rfl rfl (hsz 39 (by decide)) h18).trans rfl) (by rw [ex_callF rfl Try.func20 (by kernel_rfl) (by kernel_rfl)]; exact congrArg (fun z => Result.ok (Next.enter _ z) _) (by simp only [List.map_toArray, List.map_cons, List.map_nil, show act.eval (.tmp 40) = _ from h19, show act.eval (.tmp 41) = _ from h20])) (Less_any a b HL_a.out HL_b.out HB_a.out HB_b.out _) ?_
      rintro e w2 ⟨rfl, hm2⟩
      exact ⟨_, rfl, hm2, congrArg Value.bool RAB.out⟩
    · intro act w' hm hout hsz hd
      have h18 := hd ⟨18, .guard⟩ (by simp) rfl
      have h21 := hd ⟨21, .data⟩ (by simp) rfl
      exact lv_run rfl ((wanted_of rfl rfl (hsz 39 (by decide)) h18).trans rfl) (ex_move rfl h21) (Mod.refl _ _) rfl
    · intro act w' hm hout hsz hd
      have h22 := hd ⟨22, .guard⟩ (by simp) rfl
      exact lv_run rfl ((wanted_of rfl rfl (hsz 43 (by decide)) h22).trans rfl) (ex_loadA rfl Try.underlying26 rfl (off := 0) (cs := b.map bv) (by rw [List.length_map, HL_b.out]; exact size_hash) ((hout 4 (by decide)).trans oe4) (fun j u hu => by rw [Nat.zero_add, (KC_b.out.mod hm (fun h => h)).cell]; simpa using hu)) (Mod.refl _ _) rfl
    · intro act w' hm hout hsz hd
      have h22 := hd ⟨22, .guard⟩ (by simp) rfl
      exact lv_run rfl ((wanted_of rfl rfl (hsz 43 (by decide)) h22).trans rfl) (ex_loadA rfl Try.underlying26 rfl (off := 0) (cs := a.map bv) (by rw [List.length_map, HL_a.out]; exact size_hash) ((hout 3 (by decide)).trans oe3) (fun j u hu => by rw [Nat.zero_add, (KC_a.out.mod hm (fun h => h)).cell]; simpa using hu)) (Mod.refl _ _) rfl
    · intro act w' hm hout hsz hd
      have h22 := hd ⟨22, .guard⟩ (by simp) rfl
      have h23 := hd ⟨23, .data⟩ (by simp) rfl
      have h24 := hd ⟨24, .data⟩ (by simp) rfl
      refine lv_call (args := #[hv b, hv a]) rfl ((wanted_of rfl rfl (hsz 43 (by decide)) h22).trans rfl) (by rw [ex_callF rfl Try.func20 (by kernel_rfl) (by kernel_rfl)]; exact congrArg (fun z => Result.ok (Next.enter _ z) _) (by simp only [List.map_toArray, List.map_cons, List.map_nil, show act.eval (.tmp 44) = _ from h23, show act.eval (.tmp 45) = _ from h24])) (Less_any b a HL_b.out HL_a.out HB_b.out HB_a.out _) ?_
      rintro e w2 ⟨rfl, hm2⟩
      exact ⟨_, rfl, hm2, congrArg Value.bool RBA.out⟩
    · intro act w' hm hout hsz hd
      have h18 := hd ⟨18, .guard⟩ (by simp) rfl
      have h22 := hd ⟨22, .data⟩ (by simp) rfl
      have h25 := hd ⟨25, .data⟩ (by simp) rfl
      exact lv_run rfl ((wanted_of rfl rfl (hsz 39 (by decide)) h18).trans rfl) (ex_pick rfl h22 h25 rfl) (Mod.refl _ _) rfl
    · intro act w' hm hout hsz hd
      have h18 := hd ⟨18, .guard⟩ (by simp) rfl
      have h26 := hd ⟨26, .data⟩ (by simp) rfl
      exact lv_run rfl ((wanted_of rfl rfl (hsz 39 (by decide)) h18).trans rfl) (ex_not rfl h26) (Mod.refl _ _) rfl
    · intro act w' hm hout hsz hd
      have h18 := hd ⟨18, .data⟩ (by simp) rfl
      have h27 := hd ⟨27, .data⟩ (by simp) rfl
      exact lv_run rfl (wanted_none rfl) (ex_pick rfl h18 h27 rfl) (Mod.refl _ _) rfl
    · intro act w' hm hout hsz hd
      have h28 := hd ⟨28, .data⟩ (by simp) rfl
      exact lv_run rfl (wanted_none rfl) (ex_move rfl h28) (Mod.refl _ _) rfl
    · intro act w' hm hout hsz hd
      have h29 := hd ⟨29, .guard⟩ (by simp) rfl
      refine lv_call (args := #[]) rfl ((wanted_of rfl rfl (hsz 50 (by decide)) h29).trans rfl) (by rw [ex_callF rfl Try.func19 (by kernel_rfl) (by kernel_rfl)]; simp) (wakes02 _) ?_
      rintro e w2 ⟨rfl, hm2⟩
      exact ⟨_, rfl, hm2, rfl⟩
    · intro act w' hm hout hsz hd
      have h29 := hd ⟨29, .data⟩ (by simp) rfl
      have h30 := hd ⟨30, .data⟩ (by simp) rfl
      exact lv_run rfl (wanted_none rfl) (ex_pick rfl h29 h30 rfl) (Mod.refl _ _) rfl
    · intro act w' hm hout hsz hd
      have h31 := hd ⟨31, .data⟩ (by simp) rfl
      exact lv_run rfl (wanted_none rfl) (ex_assign rfl h31) (Mod.refl _ _) rfl
    intro vs w3 hl hm hV
    obtain ⟨v0q, vs0, rfl, hl0⟩ := list_cons hl
    obtain ⟨v1q, vs1, rfl, hl1⟩ := list_cons hl0
    obtain ⟨v2q, vs2, rfl, hl2⟩ := list_cons hl1
    obtain ⟨v3q, vs3, rfl, hl3⟩ := list_cons hl2
    obtain ⟨v4q, vs4, rfl, hl4⟩ := list_cons hl3
    obtain ⟨v5q, vs5, rfl, hl5⟩ := list_cons hl4
    obtain ⟨v6q, vs6, rfl, hl6⟩ := list_cons hl5
    obtain ⟨v7q, vs7, rfl, hl7⟩ := list_cons hl6
    obtain ⟨v8q, vs8, rfl, hl8⟩ := list_cons hl7
    obtain ⟨v9q, vs9, rfl, hl9⟩ := list_cons hl8
    obtain ⟨v10q, vs10, rfl, hl10⟩ := list_cons hl9
    obtain ⟨v11q, vs11, rfl, hl11⟩ := list_cons hl10
    obtain ⟨v12q, vs12, rfl, hl12⟩ := list_cons hl11
    obtain ⟨v13q, vs13, rfl, hl13⟩ := list_cons hl12
    obtain ⟨v14q, vs14, rfl, hl14⟩ := list_cons hl13
    obtain ⟨v15q, vs15, rfl, hl15⟩ := list_cons hl14
    obtain ⟨v16q, vs16, rfl, hl16⟩ := list_cons hl15
    obtain ⟨v17q, vs17, rfl, hl17⟩ := list_cons hl16
    obtain ⟨v18q, vs18, rfl, hl18⟩ := list_cons hl17
    obtain ⟨v19q, vs19, rfl, hl19⟩ := list_cons hl18
    obtain ⟨v20q, vs20, rfl, hl20⟩ := list_cons hl19
    obtain ⟨v21q, vs21, rfl, hl21⟩ := list_cons hl20
    obtain ⟨v22q, vs22, rfl, hl22⟩ := list_cons hl21
    obtain ⟨v23q, vs23, rfl, hl23⟩ := list_cons hl22
    obtain ⟨v24q, vs24, rfl, hl24⟩ := list_cons hl23
    obtain ⟨v25q, vs25, rfl, hl25⟩ := list_cons hl24
    obtain ⟨v26q, vs26, rfl, hl26⟩ := list_cons hl25
    obtain ⟨v27q, vs27, rfl, hl27⟩ := list_cons hl26
    obtain ⟨v28q, vs28, rfl, hl28⟩ := list_cons hl27
    obtain ⟨v29q, vs29, rfl, hl29⟩ := list_cons hl28
    obtain ⟨v30q, vs30, rfl, hl30⟩ := list_cons hl29
    obtain ⟨v31q, vs31, rfl, hl31⟩ := list_cons hl30
    obtain ⟨v32q, vs32, rfl, hl32⟩ := list_cons hl31
    obtain rfl := list_nil hl32
    clear hl hl0 hl1 hl2 hl3 hl4 hl5 hl6 hl7 hl8 hl9 hl10 hl11 hl12 hl13 hl14 hl15 hl16 hl17 hl18 hl19 hl20 hl21 hl22 hl23 hl24 hl25 hl26 hl27 hl28 hl29 hl30 hl31 hl32
    obtain rfl : v32q = .bool true := hV 32 _ rfl
    have ha0 := HA0.out
    subst ha0
    clear HA0 hV hsz0 oe3 oe4
    simp only [putAll, Act.put, List.setIfInBounds_toArray, List.set_cons_zero, List.set_cons_succ]
    have KM3 := Lib.hid (KM2.out.trans hm (fun _ _ h => h))
    go_wp2
    go_ret
    exact ⟨rfl, KM3.out⟩
  · have RAB := Lib.hid (decide_eq_true h1)
    have RBC := Lib.hid (decide_eq_false h2)
    have RBA := Lib.hid (show decide (cmpI b a < 0) = false from decide_eq_false (by omega))
    have NE := Lib.hid (show (!decide (a = b)) = true by rw [decide_eq_false (by rintro rfl; omega)]; rfl)
    clear h1 h2 hsw htr hz hself
    generalize ha0 : Act.mk _ _ = a0
    have oe3 : a0.eval (.tmp 3) = .pointer (some ⟨w.heap.size, 0, none⟩) := by rw [← ha0]; rfl
    have oe4 : a0.eval (.tmp 4) = .pointer (some ⟨w.heap.size + 1, 0, none⟩) := by rw [← ha0]; rfl
    have oe5 : a0.eval (.tmp 5) = .pointer (some ⟨w.heap.size + 1 + 1, 0, none⟩) := by rw [← ha0]; rfl
    have hsz0 : a0.tmps.size = 53 := by rw [← ha0]; rfl
    have HA0 := Lib.hid ha0
    clear ha0
    refine wp_region_L (by kernel_rfl) (by kernel_rfl) [7, 8, 9, 10, 11, 12, 13, 14, 15, 16, 17, 18, 19, 20] rfl (by decide) (by rw [hsz0]; decide) [isv (hv a), isv (hv b), isv (.bool true), isv (.bool true), isv (hv b), isv (hv c), isv (.bool false), isv (.bool false), isv (.bool false), isv (undef), isv (undef), isv (undef), isv (undef), isv (.bool false)] ⟨isv_stable, isv_stable, isv_stable, isv_stable, isv_stable, isv_stable, isv_stable, isv_stable, isv_stable, isv_stable, isv_stable, isv_stable, isv_stable, isv_stable, trivial⟩ ⟨?_, ?_, ?_, ?_, ?_, ?_, ?_, ?_, ?_, ?_, ?_, ?_, ?_, ?_, trivial⟩ ?_
    · intro act w' hm hout hsz hd
      exact lv_run rfl (wanted_none rfl) (ex_loadA rfl Try.underlying26 rfl (off := 0) (cs := a.map bv) (by rw [List.length_map, HL_a.out]; exact size_hash) ((hout 3 (by decide)).trans oe3) (fun j u hu => by rw [Nat.zero_add, (KC_a.out.mod hm (fun h => h)).cell]; simpa using hu)) (Mod.refl _ _) rfl
    · intro act w' hm hout hsz hd
      exact lv_run rfl (wanted_none rfl) (ex_loadA rfl Try.underlying26 rfl (off := 0) (cs := b.map bv) (by rw [List.length_map, HL_b.out]; exact size_hash) ((hout 4 (by decide)).trans oe4) (fun j u hu => by rw [Nat.zero_add, (KC_b.out.mod hm (fun h => h)).cell]; simpa using hu)) (Mod.refl _ _) rfl
    · intro act w' hm hout hsz hd
      have h0 := hd ⟨0, .data⟩ (by simp) rfl
      have h1 := hd ⟨1, .data⟩ (by simp) rfl
      refine lv_call (args := #[hv a, hv b]) rfl (wanted_none rfl) (by rw [ex_callF rfl Try.func20 (by kernel_rfl) (by kernel_rfl)]; exact congrArg (fun z => Result.ok (Next.enter _ z) _) (by simp only [List.map_toArray, List.map_cons, List.map_nil, show act.eval (.tmp 7) = _ from h0, show act.eval (.tmp 8) = _ from h1])) (Less_any a b HL_a.out HL_b.out HB_a.out HB_b.out _) ?_
      rintro e w2 ⟨rfl, hm2⟩
      exact ⟨_, rfl, hm2, congrArg Value.bool RAB.out⟩
    · intro act w' hm hout hsz hd
      have h2 := hd ⟨2, .data⟩ (by simp) rfl
      exact lv_run rfl (wanted_none rfl) (ex_move rfl h2) (Mod.refl _ _) rfl
    · intro act w' hm hout hsz hd
      have h3 := hd ⟨3, .guard⟩ (by simp) rfl
      exact lv_run rfl ((wanted_of rfl rfl (hsz 10 (by decide)) h3).trans rfl) (ex_loadA rfl Try.underlying26 rfl (off := 0) (cs := b.map bv) (by rw [List.length_map, HL_b.out]; exact size_hash) ((hout 4 (by decide)).trans oe4) (fun j u hu => by rw [Nat.zero_add, (KC_b.out.mod hm (fun h => h)).cell]; simpa using hu)) (Mod.refl _ _) rfl
    · intro act w' hm hout hsz hd
      have h3 := hd ⟨3, .guard⟩ (by simp) rfl
      exact lv_run rfl ((wanted_of rfl rfl (hsz 10 (by decide)) h3).trans rfl) (ex_loadA rfl Try.underlying26 rfl (off := 0) (cs := c.map bv) (by rw [List.length_map, HL_c.out]; exact size_hash) ((hout 5 (by decide)).trans oe5) (fun j u hu => by rw [Nat.zero_add, (KC_c.out.mod hm (fun h => h)).cell]; simpa using hu)) (Mod.refl _ _) rfl
    · intro act w' hm hout hsz hd
      have h3 := hd ⟨3, .guard⟩ (by simp) rfl
      have h4 := hd ⟨4, .data⟩ (by simp) rfl
      have h5 := hd ⟨5, .data⟩ (by simp) rfl
      refine lv_call (args := #[hv b, hv c]) rfl ((wanted_of rfl rfl (hsz 10 (by decide)) h3).trans rfl) (by rw [ex_callF rfl Try.func20 (by kernel_rfl) (by kernel_rfl)]; exact congrArg (fun z => Result.ok (Next.enter _ z) _) (by simp only [List.map_toArray, List.map_cons, List.map_nil, show act.eval (.tmp 11) = _ from h4, show act.eval (.tmp 12) = _ from h5])) (Less_any b c HL_b.out HL_c.out HB_b.out HB_c.out _) ?_
      rintro e w2 ⟨rfl, hm2⟩
      exact ⟨_, rfl, hm2, congrArg Value.bool RBC.out⟩
    · intro act w' hm hout hsz hd
      have h3 := hd ⟨3, .data⟩ (by simp) rfl
      have h6 := hd ⟨6, .data⟩ (by simp) rfl
      exact lv_run rfl (wanted_none rfl) (ex_pick rfl h3 h6 rfl) (Mod.refl _ _) rfl
    · intro act w' hm hout hsz hd
      have h7 := hd ⟨7, .data⟩ (by simp) rfl
      exact lv_run rfl (wanted_none rfl) (ex_move rfl h7) (Mod.refl _ _) rfl
    · intro act w' hm hout hsz hd
      have h8 := hd ⟨8, .guard⟩ (by simp) rfl
      exact lv_skip rfl ((wanted_of rfl rfl (hsz 15 (by decide)) h8).trans rfl) rfl
    · intro act w' hm hout hsz hd
      have h8 := hd ⟨8, .guard⟩ (by simp) rfl
      exact lv_skip rfl ((wanted_of rfl rfl (hsz 15 (by decide)) h8).trans rfl) rfl
    · intro act w' hm hout hsz hd
      have h8 := hd ⟨8, .guard⟩ (by simp) rfl
      exact lv_skip rfl ((wanted_of rfl rfl (hsz 15 (by decide)) h8).trans rfl) rfl
    · intro act w' hm hout hsz hd
      have h8 := hd ⟨8, .guard⟩ (by simp) rfl
      exact lv_skip rfl ((wanted_of rfl rfl (hsz 15 (by decide)) h8).trans rfl) rfl
    · intro act w' hm hout hsz hd
      have h8 := hd ⟨8, .data⟩ (by simp) rfl
      have h12 := hd ⟨12, .data⟩ (by simp) rfl
      exact lv_run rfl (wanted_none rfl) (ex_pick rfl h8 h12 rfl) (Mod.refl _ _) rfl
    intro vs w2 hl hm hV
    obtain ⟨v0p, vs0, rfl, hl0⟩ := list_cons hl
    obtain ⟨v1p, vs1, rfl, hl1⟩ := list_cons hl0
    obtain ⟨v2p, vs2, rfl, hl2⟩ := list_cons hl1
    obtain ⟨v3p, vs3, rfl, hl3⟩ := list_cons hl2
    obtain ⟨v4p, vs4, rfl, hl4⟩ := list_cons hl3
    obtain ⟨v5p, vs5, rfl, hl5⟩ := list_cons hl4
    obtain ⟨v6p, vs6, rfl, hl6⟩ := list_cons hl5
    obtain ⟨v7p, vs7, rfl, hl7⟩ := list_cons hl6
    obtain ⟨v8p, vs8, rfl, hl8⟩ := list_cons hl7
    obtain ⟨v9p, vs9, rfl, hl9⟩ := list_cons hl8
    obtain ⟨v10p, vs10, rfl, hl10⟩ := list_cons hl9
    obtain ⟨v11p, vs11, rfl, hl11⟩ := list_cons hl10
    obtain ⟨v12p, vs12, rfl, hl12⟩ := list_cons hl11
    obtain ⟨v13p, vs13, rfl, hl13⟩ := list_cons hl12
    obtain rfl := list_nil hl13
    clear hl hl0 hl1 hl2 hl3 hl4 hl5 hl6 hl7 hl8 hl9 hl10 hl11 hl12 hl13
    obtain rfl : v13p = .bool false := hV 13 _ rfl
    have ha0 := HA0.out
    subst ha0
    clear HA0 hV hsz0 oe3 oe4 oe5
    simp only [putAll, Act.put, List.setIfInBounds_toArray, List.set_cons_zero, List.set_cons_succ]
    have KC_a2 := Lib.hid (KC_a.out.mod hm (fun h => h))
    have KC_b2 := Lib.hid (KC_b.out.mod hm (fun h => h))
    have KM2 := Lib.hid (KM.out.trans hm (fun _ _ h => h))
    clear hm KC_a KC_b KC_c KM
    have KC_a := Lib.hid KC_a2.out
    have KC_b := Lib.hid KC_b2.out
    go_upto_region 3 with (fail)
    generalize ha0 : Act.mk _ _ = a0
    have oe3 : a0.eval (.tmp 3) = .pointer (some ⟨w.heap.size, 0, none⟩) := by rw [← ha0]; rfl
    have oe4 : a0.eval (.tmp 4) = .pointer (some ⟨w.heap.size + 1, 0, none⟩) := by rw [← ha0]; rfl
    have hsz0 : a0.tmps.size = 53 := by rw [← ha0]; rfl
    have HA0 := Lib.hid ha0
    clear ha0
    refine wp_region_L (by kernel_rfl) (by kernel_rfl) [21, 22, 23, 24, 25, 26, 27, 28, 29, 30, 31, 32, 33, 34, 35, 36, 37, 38, 39, 40, 41, 42, 43, 44, 45, 46, 47, 48, 49, 50, 51, 52, 6] rfl (by decide) (by rw [hsz0]; decide) [isv (hv a), isv (hv a), isv (.bool false), isv (.bool true), isv (.bool true), isv (hv a), isv (hv b), isv (.bool true), isv (.bool true), isv (undef), isv (undef), isv (undef), isv (.bool true), isv (hv a), isv (hv b), isv (.bool true), isv (.bool true), isv (.bool true), isv (.bool true), isv (hv a), isv (hv b), isv (.bool true), isv (.bool true), isv (hv b), isv (hv a), isv (.bool false), isv (.bool false), isv (.bool true), isv (.bool true), isv (.bool true), isv (.bool true), isv (.bool true), isv (.bool true)] ⟨isv_stable, isv_stable, isv_stable, isv_stable, isv_stable, isv_stable, isv_stable, isv_stable, isv_stable, isv_stable, isv_stable, isv_stable, isv_stable, isv_stable, isv_stable, isv_stable, isv_stable, isv_stable, isv_stable, isv_stable, isv_stable, isv_stable, isv_stable, isv_stable, isv_stable, isv_stable, isv_stable, isv_stable, isv_stable, isv_stable, isv_stable, isv_stable, isv_stable, trivial⟩ ⟨?_, ?_, ?_, ?_, ?_, ?_, ?_, ?_, ?_, ?_, ?_, ?_, ?_, ?_, ?_, ?_, ?_, ?_, ?_, ?_, ?_, ?_, ?_, ?_, ?_, ?_, ?_, ?_, ?_, ?_, ?_, ?_, ?_, trivial⟩ ?_
    · intro act w' hm hout hsz hd
      exact lv_run rfl (wanted_none rfl) (ex_loadA rfl Try.underlying26 rfl (off := 0) (cs := a.map bv) (by rw [List.length_map, HL_a.out]; exact size_hash) ((hout 3 (by decide)).trans oe3) (fun j u hu => by rw [Nat.zero_add, (KC_a.out.mod hm (fun h => h)).cell]; simpa using hu)) (Mod.refl _ _) rfl
    · intro act w' hm hout hsz hd
      exact lv_run rfl (wanted_none rfl) (ex_loadA rfl Try.underlying26 rfl (off := 0) (cs := a.map bv) (by rw [List.length_map, HL_a.out]; exact size_hash) ((hout 3 (by decide)).trans oe3) (fun j u hu => by rw [Nat.zero_add, (KC_a.out.mod hm (fun h => h)).cell]; simpa using hu)) (Mod.refl _ _) rfl
    · intro act w' hm hout hsz hd
      have h0 := hd ⟨0, .data⟩ (by simp) rfl
      have h1 := hd ⟨1, .data⟩ (by simp) rfl
      refine lv_call (args := #[hv a, hv a]) rfl (wanted_none rfl) (by rw [ex_callF rfl Try.func20 (by kernel_rfl) (by kernel_rfl)]; exact congrArg (fun z => Result.ok (Next.enter _ z) _) (by simp only [List.map_toArray, List.map_cons, List.map_nil, show act.eval (.tmp 21) = _ from h0, show act.eval (.tmp 22) = _ from h1])) (Less_any a a HL_a.out HL_a.out HB_a.out HB_a.out _) ?_
      rintro e w2 ⟨rfl, hm2⟩
      exact ⟨_, rfl, hm2, congrArg Value.bool RAA.out⟩
    · intro act w' hm hout hsz hd
      have h2 := hd ⟨2, .data⟩ (by simp) rfl
      exact lv_run rfl (wanted_none rfl) (ex_not rfl h2) (Mod.refl _ _) rfl
    · intro act w' hm hout hsz hd
      have h3 := hd ⟨3, .data⟩ (by simp) rfl
      exact lv_run rfl (wanted_none rfl) (ex_move rfl h3) (Mod.refl _ _) rfl
    · intro act w' hm hout hsz hd
      have h4 := hd ⟨4, .guard⟩ (by simp) rfl
      exact lv_run rfl ((wanted_of rfl rfl (hsz 25 (by decide)) h4).trans rfl) (ex_loadA rfl Try.underlying26 rfl (off := 0) (cs := a.map bv) (by rw [List.length_map, HL_a.out]; exact size_hash) ((hout 3 (by decide)).trans oe3) (fun j u hu => by rw [Nat.zero_add, (KC_a.out.mod hm (fun h => h)).cell]; simpa using hu)) (Mod.refl _ _) rfl
    · intro act w' hm hout hsz hd
      have h4 := hd ⟨4, .guard⟩ (by simp) rfl
      exact lv_run rfl ((wanted_of rfl rfl (hsz 25 (by decide)) h4).trans rfl) (ex_loadA rfl Try.underlying26 rfl (off := 0) (cs := b.map bv) (by rw [List.length_map, HL_b.out]; exact size_hash) ((hout 4 (by decide)).trans oe4) (fun j u hu => by rw [Nat.zero_add, (KC_b.out.mod hm (fun h => h)).cell]; simpa using hu)) (Mod.refl _ _) rfl
    · intro act w' hm hout hsz hd
      have h4 := hd ⟨4, .guard⟩ (by simp) rfl
      have h5 := hd ⟨5, .data⟩ (by simp) rfl
      have h6 := hd ⟨6, .data⟩ (by simp) rfl
      refine lv_call (args := #[hv a, hv b]) rfl ((wanted_of rfl rfl (hsz 25 (by decide)) h4).trans rfl) (by rw [ex_callF rfl Try.func20 (by kernel_rfl) (by kernel_rfl)]; exact congrArg (fun z => Result.ok (Next.enter _ z) _) (by simp only [List.map_toArray, List.map_cons, List.map_nil, show act.eval (.tmp 26) = _ from h5, show act.eval (.tmp 27) = _ from h6])) (Less_any a b HL_a.out HL_b.out HB_a.out HB_b.out _) ?_
      rintro e w2 ⟨rfl, hm2⟩
      exact ⟨_, rfl, hm2, congrArg Value.bool RAB.out⟩
    · intro act w' hm hout hsz hd
      have h4 := hd ⟨4, .guard⟩ (by simp) rfl
      have h7 := hd ⟨7, .data⟩ (by simp) rfl
      exact lv_run rfl ((wanted_of rfl rfl (hsz 25 (by decide)) h4).trans rfl) (ex_move rfl h7) (Mod.refl _ _) rfl
    · intro act w' hm hout hsz hd
      have h8 := hd ⟨8, .guard⟩ (by simp) rfl
      exact lv_skip rfl ((wanted_of rfl rfl (hsz 29 (by decide)) h8).trans rfl) rfl
    · intro act w' hm hout hsz hd
      have h8 := hd ⟨8, .guard⟩ (by simp) rfl
      exact lv_skip rfl ((wanted_of rfl rfl (hsz 29 (by decide)) h8).trans rfl) rfl
    · intro act w' hm hout hsz hd
      have h8 := hd ⟨8, .guard⟩ (by simp) rfl
      exact lv_skip rfl ((wanted_of rfl rfl (hsz 29 (by decide)) h8).trans rfl) rfl
    · intro act w' hm hout hsz hd
      have h4 := hd ⟨4, .guard⟩ (by simp) rfl
      have h8 := hd ⟨8, .data⟩ (by simp) rfl
      have h11 := hd ⟨11, .data⟩ (by simp) rfl
      exact lv_run rfl ((wanted_of rfl rfl (hsz 25 (by decide)) h4).trans rfl) (ex_pick rfl h8 rfl h11) (Mod.refl _ _) rfl
    · intro act w' hm hout hsz hd
      have h4 := hd ⟨4, .guard⟩ (by simp) rfl
      exact lv_run rfl ((wanted_of rfl rfl (hsz 25 (by decide)) h4).trans rfl) (ex_loadA rfl Try.underlying26 rfl (off := 0) (cs := a.map bv) (by rw [List.length_map, HL_a.out]; exact size_hash) ((hout 3 (by decide)).trans oe3) (fun j u hu => by rw [Nat.zero_add, (KC_a.out.mod hm (fun h => h)).cell]; simpa using hu)) (Mod.refl _ _) rfl
    · intro act w' hm hout hsz hd
      have h4 := hd ⟨4, .guard⟩ (by simp) rfl
      exact lv_run rfl ((wanted_of rfl rfl (hsz 25 (by decide)) h4).trans rfl) (ex_loadA rfl Try.underlying26 rfl (off := 0) (cs := b.map bv) (by rw [List.length_map, HL_b.out]; exact size_hash) ((hout 4 (by decide)).trans oe4) (fun j u hu => by rw [Nat.zero_add, (KC_b.out.mod hm (fun h => h)).cell]; simpa using hu)) (Mod.refl _ _) rfl
    · intro act w' hm hout hsz hd
      have h4 := hd ⟨4, .guard⟩ (by simp) rfl
      have h13 := hd ⟨13, .data⟩ (by simp) rfl
      have h14 := hd ⟨14, .data⟩ (by simp) rfl
      exact lv_run rfl ((wanted_of rfl rfl (hsz 25 (by decide)) h4).trans rfl) (ex_bin rfl h13 h14 (hv_guard2 _ _ _ _ _ _) (run_neq_ints _ 26 5 32 Try.underlying26 Try.underlying5 (by kernel_rfl) a b HL_a.out HL_b.out)) (Mod.refl _ _) (congrArg Value.bool NE.out)
    · intro act w' hm hout hsz hd
      have h4 := hd ⟨4, .guard⟩ (by simp) rfl
      have h12 := hd ⟨12, .data⟩ (by simp) rfl
      have h15 := hd ⟨15, .data⟩ (by simp) rfl
      exact lv_run rfl ((wanted_of rfl rfl (hsz 25 (by decide)) h4).trans rfl) (ex_bin rfl h12 h15 (guard_bools _ _ _ _ _ _) (run_eql_bools _ _ _ Try.underlying4)) (Mod.refl _ _) rfl
    · intro act w' hm hout hsz hd
      have h4 := hd ⟨4, .data⟩ (by simp) rfl
      have h16 := hd ⟨16, .data⟩ (by simp) rfl
      exact lv_run rfl (wanted_none rfl) (ex_pick rfl h4 h16 rfl) (Mod.refl _ _) rfl
    · intro act w' hm hout hsz hd
      have h17 := hd ⟨17, .data⟩ (by simp) rfl
      exact lv_run rfl (wanted_none rfl) (ex_move rfl h17) (Mod.refl _ _) rfl
    · intro act w' hm hout hsz hd
      have h18 := hd ⟨18, .guard⟩ (by simp) rfl
      exact lv_run rfl ((wanted_of rfl rfl (hsz 39 (by decide)) h18).trans rfl) (ex_loadA rfl Try.underlying26 rfl (off := 0) (cs := a.map bv) (by rw [List.length_map, HL_a.out]; exact size_hash) ((hout 3 (by decide)).trans oe3) (fun j u hu => by rw [Nat.zero_add, (KC_a.out.mod hm (fun h => h)).cell]; simpa using hu)) (Mod.refl _ _) rfl
    · intro act w' hm hout hsz hd
      have h18 := hd ⟨18, .guard⟩ (by simp) rfl
      exact lv_run rfl ((wanted_of rfl rfl (hsz 39 (by decide)) h18).trans rfl) (ex_loadA rfl Try.underlying26 rfl (off := 0) (cs := b.map bv) (by rw [List.length_map, HL_b.out]; exact size_hash) ((hout 4 (by decide)).trans oe4) (fun j u hu => by rw [Nat.zero_add, (KC_b.out.mod hm (fun h => h)).cell]; simpa using hu)) (Mod.refl _ _) rfl
    · intro act w' hm hout hsz hd
      have h18 := hd ⟨18, .guard⟩ (by simp) rfl
      have h19 := hd ⟨19, .data⟩ (by simp) rfl
      have h20 := hd ⟨20, .data⟩ (by simp) rfl
      refine lv_call (args := #[hv a, hv b]) rfl ((wanted_of rfl rfl (hsz 39 (by decide)) h18).trans rfl) (by rw [ex_callF rfl Try.func20 (by kernel_rfl) (by kernel_rfl)]; exact congrArg (fun z => Result.ok (Next.enter _ z) _) (by simp only [List.map_toArray, List.map_cons, List.map_nil, show act.eval (.tmp 40) = _ from h19, show act.eval (.tmp 41) = _ from h20])) (Less_any a b HL_a.out HL_b.out HB_a.out HB_b.out _) ?_
      rintro e w2 ⟨rfl, hm2⟩
      exact ⟨_, rfl, hm2, congrArg Value.bool RAB.out⟩
    · intro act w' hm hout hsz hd
      have h18 := hd ⟨18, .guard⟩ (by simp) rfl
      have h21 := hd ⟨21, .data⟩ (by simp) rfl
      exact lv_run rfl ((wanted_of rfl rfl (hsz 39 (by decide)) h18).trans rfl) (ex_move rfl h21) (Mod.refl _ _) rfl
    · intro act w' hm hout hsz hd
      have h22 := hd ⟨22, .guard⟩ (by simp) rfl
      exact lv_run rfl ((wanted_of rfl rfl (hsz 43 (by decide)) h22).trans rfl) (ex_loadA rfl Try.underlying26 rfl (off := 0) (cs := b.map bv) (by rw [List.length_map, HL_b.out]; exact size_hash) ((hout 4 (by decide)).trans oe4) (fun j u hu => by rw [Nat.zero_add, (KC_b.out.mod hm (fun h => h)).cell]; simpa using hu)) (Mod.refl _ _) rfl
    · intro act w' hm hout hsz hd
      have h22 := hd ⟨22, .guard⟩ (by simp) rfl
      exact lv_run rfl ((wanted_of rfl rfl (hsz 43 (by decide)) h22).trans rfl) (ex_loadA rfl Try.underlying26 rfl (off := 0) (cs := a.map bv) (by rw [List.length_map, HL_a.out]; exact size_hash) ((hout 3 (by decide)).trans oe3) (fun j u hu => by rw [Nat.zero_add, (KC_a.out.mod hm (fun h => h)).cell]; simpa using hu)) (Mod.refl _ _) rfl
    · intro act w' hm hout hsz hd
      have h22 := hd ⟨22, .guard⟩ (by simp) rfl
      have h23 := hd ⟨23, .data⟩ (by simp) rfl
      have h24 := hd ⟨24, .data⟩ (by simp) rfl
      refine lv_call (args := #[hv b, hv a]) rfl ((wanted_of rfl rfl (hsz 43 (by decide)) h22).trans rfl) (by rw [ex_callF rfl Try.func20 (by kernel_rfl) (by kernel_rfl)]; exact congrArg (fun z => Result.ok (Next.enter _ z) _) (by simp only [List.map_toArray, List.map_cons, List.map_nil, show act.eval (.tmp 44) = _ from h23, show act.eval (.tmp 45) = _ from h24])) (Less_any b a HL_b.out HL_a.out HB_b.out HB_a.out _) ?_
      rintro e w2 ⟨rfl, hm2⟩
      exact ⟨_, rfl, hm2, congrArg Value.bool RBA.out⟩
    · intro act w' hm hout hsz hd
      have h18 := hd ⟨18, .guard⟩ (by simp) rfl
      have h22 := hd ⟨22, .data⟩ (by simp) rfl
      have h25 := hd ⟨25, .data⟩ (by simp) rfl
      exact lv_run rfl ((wanted_of rfl rfl (hsz 39 (by decide)) h18).trans rfl) (ex_pick rfl h22 h25 rfl) (Mod.refl _ _) rfl
    · intro act w' hm hout hsz hd
      have h18 := hd ⟨18, .guard⟩ (by simp) rfl
      have h26 := hd ⟨26, .data⟩ (by simp) rfl
      exact lv_run rfl ((wanted_of rfl rfl (hsz 39 (by decide)) h18).trans rfl) (ex_not rfl h26) (Mod.refl _ _) rfl
    · intro act w' hm hout hsz hd
      have h18 := hd ⟨18, .data⟩ (by simp) rfl
      have h27 := hd ⟨27, .data⟩ (by simp) rfl
      exact lv_run rfl (wanted_none rfl) (ex_pick rfl h18 h27 rfl) (Mod.refl _ _) rfl
    · intro act w' hm hout hsz hd
      have h28 := hd ⟨28, .data⟩ (by simp) rfl
      exact lv_run rfl (wanted_none rfl) (ex_move rfl h28) (Mod.refl _ _) rfl
    · intro act w' hm hout hsz hd
      have h29 := hd ⟨29, .guard⟩ (by simp) rfl
      refine lv_call (args := #[]) rfl ((wanted_of rfl rfl (hsz 50 (by decide)) h29).trans rfl) (by rw [ex_callF rfl Try.func19 (by kernel_rfl) (by kernel_rfl)]; simp) (wakes02 _) ?_
      rintro e w2 ⟨rfl, hm2⟩
      exact ⟨_, rfl, hm2, rfl⟩
    · intro act w' hm hout hsz hd
      have h29 := hd ⟨29, .data⟩ (by simp) rfl
      have h30 := hd ⟨30, .data⟩ (by simp) rfl
      exact lv_run rfl (wanted_none rfl) (ex_pick rfl h29 h30 rfl) (Mod.refl _ _) rfl
    · intro act w' hm hout hsz hd
      have h31 := hd ⟨31, .data⟩ (by simp) rfl
      exact lv_run rfl (wanted_none rfl) (ex_assign rfl h31) (Mod.refl _ _) rfl
    intro vs w3 hl hm hV
    obtain ⟨v0q, vs0, rfl, hl0⟩ := list_cons hl
    obtain ⟨v1q, vs1, rfl, hl1⟩ := list_cons hl0
    obtain ⟨v2q, vs2, rfl, hl2⟩ := list_cons hl1
    obtain ⟨v3q, vs3, rfl, hl3⟩ := list_cons hl2
    obtain ⟨v4q, vs4, rfl, hl4⟩ := list_cons hl3
    obtain ⟨v5q, vs5, rfl, hl5⟩ := list_cons hl4
    obtain ⟨v6q, vs6, rfl, hl6⟩ := list_cons hl5
    obtain ⟨v7q, vs7, rfl, hl7⟩ := list_cons hl6
    obtain ⟨v8q, vs8, rfl, hl8⟩ := list_cons hl7
    obtain ⟨v9q, vs9, rfl, hl9⟩ := list_cons hl8
    obtain ⟨v10q, vs10, rfl, hl10⟩ := list_cons hl9
    obtain ⟨v11q, vs11, rfl, hl11⟩ := list_cons hl10
    obtain ⟨v12q, vs12, rfl, hl12⟩ := list_cons hl11
    obtain ⟨v13q, vs13, rfl, hl13⟩ := list_cons hl12
    obtain ⟨v14q, vs14, rfl, hl14⟩ := list_cons hl13
    obtain ⟨v15q, vs15, rfl, hl15⟩ := list_cons hl14
    obtain ⟨v16q, vs16, rfl, hl16⟩ := list_cons hl15
    obtain ⟨v17q, vs17, rfl, hl17⟩ := list_cons hl16
    obtain ⟨v18q, vs18, rfl, hl18⟩ := list_cons hl17
    obtain ⟨v19q, vs19, rfl, hl19⟩ := list_cons hl18
    obtain ⟨v20q, vs20, rfl, hl20⟩ := list_cons hl19
    obtain ⟨v21q, vs21, rfl, hl21⟩ := list_cons hl20
    obtain ⟨v22q, vs22, rfl, hl22⟩ := list_cons hl21
    obtain ⟨v23q, vs23, rfl, hl23⟩ := list_cons hl22
    obtain ⟨v24q, vs24, rfl, hl24⟩ := list_cons hl23
    obtain ⟨v25q, vs25, rfl, hl25⟩ := list_cons hl24
    obtain ⟨v26q, vs26, rfl, hl26⟩ := list_cons hl25
    obtain ⟨v27q, vs27, rfl, hl27⟩ := list_cons hl26
    obtain ⟨v28q, vs28, rfl, hl28⟩ := list_cons hl27
    obtain ⟨v29q, vs29, rfl, hl29⟩ := list_cons hl28
    obtain ⟨v30q, vs30, rfl, hl30⟩ := list_cons hl29
    obtain ⟨v31q, vs31, rfl, hl31⟩ := list_cons hl30
    obtain ⟨v32q, vs32, rfl, hl32⟩ := list_cons hl31
    obtain rfl := list_nil hl32
    clear hl hl0 hl1 hl2 hl3 hl4 hl5 hl6 hl7 hl8 hl9 hl10 hl11 hl12 hl13 hl14 hl15 hl16 hl17 hl18 hl19 hl20 hl21 hl22 hl23 hl24 hl25 hl26 hl27 hl28 hl29 hl30 hl31 hl32
    obtain rfl : v32q = .bool true := hV 32 _ rfl
    have ha0 := HA0.out
    subst ha0
    clear HA0 hV hsz0 oe3 oe4
    simp only [putAll, Act.put, List.setIfInBounds_toArray, List.set_cons_zero, List.set_cons_succ]
    have KM3 := Lib.hid (KM2.out.trans hm (fun _ _ h => h))
    go_wp2
    go_ret
    exact ⟨rfl, KM3.out⟩
  · have RAB := Lib.hid (decide_eq_false h1)
    have RBA := Lib.hid (decide_eq_true h2)
    have NE := Lib.hid (show (!decide (a = b)) = true by rw [decide_eq_false (by rintro rfl; omega)]; rfl)
    clear h1 h2 hsw htr hz hself
    generalize ha0 : Act.mk _ _ = a0
    have oe3 : a0.eval (.tmp 3) = .pointer (some ⟨w.heap.size, 0, none⟩) := by rw [← ha0]; rfl
    have oe4 : a0.eval (.tmp 4) = .pointer (some ⟨w.heap.size + 1, 0, none⟩) := by rw [← ha0]; rfl
    have oe5 : a0.eval (.tmp 5) = .pointer (some ⟨w.heap.size + 1 + 1, 0, none⟩) := by rw [← ha0]; rfl
    have hsz0 : a0.tmps.size = 53 := by rw [← ha0]; rfl
    have HA0 := Lib.hid ha0
    clear ha0
    refine wp_region_L (by kernel_rfl) (by kernel_rfl) [7, 8, 9, 10, 11, 12, 13, 14, 15, 16, 17, 18, 19, 20] rfl (by decide) (by rw [hsz0]; decide) [isv (hv a), isv (hv b), isv (.bool false), isv (.bool false), isv (undef), isv (undef), isv (undef), isv (.bool false), isv (.bool false), isv (undef), isv (undef), isv (undef), isv (undef), isv (.bool false)] ⟨isv_stable, isv_stable, isv_stable, isv_stable, isv_stable, isv_stable, isv_stable, isv_stable, isv_stable, isv_stable, isv_stable, isv_stable, isv_stable, isv_stable, trivial⟩ ⟨?_, ?_, ?_, ?_, ?_, ?_, ?_, ?_, ?_, ?_, ?_, ?_, ?_, ?_, trivial⟩ ?_
    · intro act w' hm hout hsz hd
      exact lv_run rfl (wanted_none rfl) (ex_loadA rfl Try.underlying26 rfl (off := 0) (cs := a.map bv) (by rw [List.length_map, HL_a.out]; exact size_hash) ((hout 3 (by decide)).trans oe3) (fun j u hu => by rw [Nat.zero_add, (KC_a.out.mod hm (fun h => h)).cell]; simpa using hu)) (Mod.refl _ _) rfl
    · intro act w' hm hout hsz hd
      exact lv_run rfl (wanted_none rfl) (ex_loadA rfl Try.underlying26 rfl (off := 0) (cs := b.map bv) (by rw [List.length_map, HL_b.out]; exact size_hash) ((hout 4 (by decide)).trans oe4) (fun j u hu => by rw [Nat.zero_add, (KC_b.out.mod hm (fun h => h)).cell]; simpa using hu)) (Mod.refl _ _) rfl
    · intro act w' hm hout hsz hd
      have h0 := hd ⟨0, .data⟩ (by simp) rfl
      have h1 := hd ⟨1, .data⟩ (by simp) rfl
      refine lv_call (args := #[hv a, hv b]) rfl (wanted_none rfl) (by rw [ex_callF rfl Try.func20 (by kernel_rfl) (by kernel_rfl)]; exact congrArg (fun z => Result.ok (Next.enter _ z) _) (by simp only [List.map_toArray, List.map_cons, List.map_nil, show act.eval (.tmp 7) = _ from h0, show act.eval (.tmp 8) = _ from h1])) (Less_any a b HL_a.out HL_b.out HB_a.out HB_b.out _) ?_
      rintro e w2 ⟨rfl, hm2⟩
      exact ⟨_, rfl, hm2, congrArg Value.bool RAB.out⟩
    · intro act w' hm hout hsz hd
      have h2 := hd ⟨2, .data⟩ (by simp) rfl
      exact lv_run rfl (wanted_none rfl) (ex_move rfl h2) (Mod.refl _ _) rfl
    · intro act w' hm hout hsz hd
      have h3 := hd ⟨3, .guard⟩ (by simp) rfl
      exact lv_skip rfl ((wanted_of rfl rfl (hsz 10 (by decide)) h3).trans rfl) rfl
    · intro act w' hm hout hsz hd
      have h3 := hd ⟨3, .guard⟩ (by simp) rfl
      exact lv_skip rfl ((wanted_of rfl rfl (hsz 10 (by decide)) h3).trans rfl) rfl
    · intro act w' hm hout hsz hd
      have h3 := hd ⟨3, .guard⟩ (by simp) rfl
      exact lv_skip rfl ((wanted_of rfl rfl (hsz 10 (by decide)) h3).trans rfl) rfl
    · intro act w' hm hout hsz hd
      have h3 := hd ⟨3, .data⟩ (by simp) rfl
      have h6 := hd ⟨6, .data⟩ (by simp) rfl
      exact lv_run rfl (wanted_none rfl) (ex_pick rfl h3 h6 rfl) (Mod.refl _ _) rfl
    · intro act w' hm hout hsz hd
      have h7 := hd ⟨7, .data⟩ (by simp) rfl
      exact lv_run rfl (wanted_none rfl) (ex_move rfl h7) (Mod.refl _ _) rfl
    · intro act w' hm hout hsz hd
      have h8 := hd ⟨8, .guard⟩ (by simp) rfl
      exact lv_skip rfl ((wanted_of rfl rfl (hsz 15 (by decide)) h8).trans rfl) rfl
    · intro act w' hm hout hsz hd
      have h8 := hd ⟨8, .guard⟩ (by simp) rfl
      exact lv_skip rfl ((wanted_of rfl rfl (hsz 15 (by decide)) h8).trans rfl) rfl
    · intro act w' hm hout hsz hd
      have h8 := hd ⟨8, .guard⟩ (by simp) rfl
      exact lv_skip rfl ((wanted_of rfl rfl (hsz 15 (by decide)) h8).trans rfl) rfl
    · intro act w' hm hout hsz hd
      have h8 := hd ⟨8, .guard⟩ (by simp) rfl
      exact lv_skip rfl ((wanted_of rfl rfl (hsz 15 (by decide)) h8).trans rfl) rfl
    · intro act w' hm hout hsz hd
      have h8 := hd ⟨8, .data⟩ (by simp) rfl
      have h12 := hd ⟨12, .data⟩ (by simp) rfl
      exact lv_run rfl (wanted_none rfl) (ex_pick rfl h8 h12 rfl) (Mod.refl _ _) rfl
    intro vs w2 hl hm hV
    obtain ⟨v0p, vs0, rfl, hl0⟩ := list_cons hl
    obtain ⟨v1p, vs1, rfl, hl1⟩ := list_cons hl0
    obtain ⟨v2p, vs2, rfl, hl2⟩ := list_cons hl1
    obtain ⟨v3p, vs3, rfl, hl3⟩ := list_cons hl2
    obtain ⟨v4p, vs4, rfl, hl4⟩ := list_cons hl3
    obtain ⟨v5p, vs5, rfl, hl5⟩ := list_cons hl4
    obtain ⟨v6p, vs6, rfl, hl6⟩ := list_cons hl5
    obtain ⟨v7p, vs7, rfl, hl7⟩ := list_cons hl6
    obtain ⟨v8p, vs8, rfl, hl8⟩ := list_cons hl7
    obtain ⟨v9p, vs9, rfl, hl9⟩ := list_cons hl8
    obtain ⟨v10p, vs10, rfl, hl10⟩ := list_cons hl9
    obtain ⟨v11p, vs11, rfl, hl11⟩ := list_cons hl10
    obtain ⟨v12p, vs12, rfl, hl12⟩ := list_cons hl11
    obtain ⟨v13p, vs13, rfl, hl13⟩ := list_cons hl12
    obtain rfl := list_nil hl13
    clear hl hl0 hl1 hl2 hl3 hl4 hl5 hl6 hl7 hl8 hl9 hl10 hl11 hl12 hl13
    obtain rfl : v13p = .bool false := hV 13 _ rfl
    have ha0 := HA0.out
    subst ha0
    clear HA0 hV hsz0 oe3 oe4 oe5
    simp only [putAll, Act.put, List.setIfInBounds_toArray, List.set_cons_zero, List.set_cons_succ]
    have KC_a2 := Lib.hid (KC_a.out.mod hm (fun h => h))
    have KC_b2 := Lib.hid (KC_b.out.mod hm (fun h => h))
    have KM2 := Lib.hid (KM.out.trans hm (fun _ _ h => h))
    clear hm KC_a KC_b KC_c KM
    have KC_a := Lib.hid KC_a2.out
    have KC_b := Lib.hid KC_b2.out
    go_upto_region 3 with (fail)
    generalize ha0 : Act.mk _ _ = a0
    have oe3 : a0.eval (.tmp 3) = .pointer (some ⟨w.heap.size, 0, none⟩) := by rw [← ha0]; rfl
    have oe4 : a0.eval (.tmp 4) = .pointer (some ⟨w.heap.size + 1, 0, none⟩) := by rw [← ha0]; rfl
    have hsz0 : a0.tmps.size = 53 := by rw [← ha0]; rfl
    have HA0 := Lib.hid ha0
    clear ha0
    refine wp_region_L (by kernel_rfl) (by kernel_rfl) [21, 22, 23, 24, 25, 26, 27, 28, 29, 30, 31, 32, 33, 34, 35, 36, 37, 38, 39, 40, 41, 42, 43, 44, 45, 46, 47, 48, 49, 50, 51, 52, 6] rfl (by decide) (by rw [hsz0]; decide) [isv (hv a), isv (hv a), isv (.bool false), isv (.bool true), isv (.bool true), isv (hv a), isv (hv b), isv (.bool false), isv (.bool false), isv (hv b), isv (hv a), isv (.bool true), isv (.bool true), isv (hv a), isv (hv b), isv (.bool true), isv (.bool true), isv (.bool true), isv (.bool true), isv (hv a), isv (hv b), isv (.bool false), isv (.bool false), isv (undef), isv (undef), isv (undef), isv (.bool false), isv (.bool true), isv (.bool true), isv (.bool true), isv (.bool true), isv (.bool true), isv (.bool true)] ⟨isv_stable, isv_stable, isv_stable, isv_stable, isv_stable, isv_stable, isv_stable, isv_stable, isv_stable, isv_stable, isv_stable, isv_stable, isv_stable, isv_stable, isv_stable, isv_stable, isv_stable, isv_stable, isv_stable, isv_stable, isv_stable, isv_stable, isv_stable, isv_stable, isv_stable, isv_stable, isv_stable, isv_stable, isv_stable, isv_stable, isv_stable, isv_stable, isv_stable, trivial⟩ ⟨?_, ?_, ?_, ?_, ?_, ?_, ?_, ?_, ?_, ?_, ?_, ?_, ?_, ?_, ?_, ?_, ?_, ?_, ?_, ?_, ?_, ?_, ?_, ?_, ?_, ?_, ?_, ?_, ?_, ?_, ?_, ?_, ?_, trivial⟩ ?_
    · intro act w' hm hout hsz hd
      exact lv_run rfl (wanted_none rfl) (ex_loadA rfl Try.underlying26 rfl (off := 0) (cs := a.map bv) (by rw [List.length_map, HL_a.out]; exact size_hash) ((hout 3 (by decide)).trans oe3) (fun j u hu => by rw [Nat.zero_add, (KC_a.out.mod hm (fun h => h)).cell]; simpa using hu)) (Mod.refl _ _) rfl
    · intro act w' hm hout hsz hd
      exact lv_run rfl (wanted_none rfl) (ex_loadA rfl Try.underlying26 rfl (off := 0) (cs := a.map bv) (by rw [List.length_map, HL_a.out]; exact size_hash) ((hout 3 (by decide)).trans oe3) (fun j u hu => by rw [Nat.zero_add, (KC_a.out.mod hm (fun h => h)).cell]; simpa using hu)) (Mod.refl _ _) rfl
    · intro act w' hm hout hsz hd
      have h0 := hd ⟨0, .data⟩ (by simp) rfl
      have h1 := hd ⟨1, .data⟩ (by simp) rfl
      refine lv_call (args := #[hv a, hv a]) rfl (wanted_none rfl) (by rw [ex_callF rfl Try.func20 (by kernel_rfl) (by kernel_rfl)]; exact congrArg (fun z => Result.ok (Next.enter _ z) _) (by simp only [List.map_toArray, List.map_cons, List.map_nil, show act.eval (.tmp 21) = _ from h0, show act.eval (.tmp 22) = _ from h1])) (Less_any a a HL_a.out HL_a.out HB_a.out HB_a.out _) ?_
      rintro e w2 ⟨rfl, hm2⟩
      exact ⟨_, rfl, hm2, congrArg Value.bool RAA.out⟩
    · intro act w' hm hout hsz hd
      have h2 := hd ⟨2, .data⟩ (by simp) rfl
      exact lv_run rfl (wanted_none rfl) (ex_not rfl h2) (Mod.refl _ _) rfl
    · intro act w' hm hout hsz hd
      have h3 := hd ⟨3, .data⟩ (by simp) rfl
      exact lv_run rfl (wanted_none rfl) (ex_move rfl h3) (Mod.refl _ _) rfl
    · intro act w' hm hout hsz hd
      have h4 := hd ⟨4, .guard⟩ (by simp) rfl
      exact lv_run rfl ((wanted_of rfl rfl (hsz 25 (by decide)) h4).trans rfl) (ex_loadA rfl Try.underlying26 rfl (off := 0) (cs := a.map bv) (by rw [List.length_map, HL_a.out]; exact size_hash) ((hout 3 (by decide)).trans oe3) (fun j u hu => by rw [Nat.zero_add, (KC_a.out.mod hm (fun h => h)).cell]; simpa using hu)) (Mod.refl _ _) rfl
    · intro act w' hm hout hsz hd
      have h4 := hd ⟨4, .guard⟩ (by simp) rfl
      exact lv_run rfl ((wanted_of rfl rfl (hsz 25 (by decide)) h4).trans rfl) (ex_loadA rfl Try.underlying26 rfl (off := 0) (cs := b.map bv) (by rw [List.length_map, HL_b.out]; exact size_hash) ((hout 4 (by decide)).trans oe4) (fun j u hu => by rw [Nat.zero_add, (KC_b.out.mod hm (fun h => h)).cell]; simpa using hu)) (Mod.refl _ _) rfl
    · intro act w' hm hout hsz hd
      have h4 := hd ⟨4, .guard⟩ (by simp) rfl
      have h5 := hd ⟨5, .data⟩ (by simp) rfl
      have h6 := hd ⟨6, .data⟩ (by simp) rfl
      refine lv_call (args := #[hv a, hv b]) rfl ((wanted_of rfl rfl (hsz 25 (by decide)) h4).trans rfl) (by rw [ex_callF rfl Try.func20 (by kernel_rfl) (by kernel_rfl)]; exact congrArg (fun z => Result.ok (Next.enter _ z) _) (by simp only [List.map_toArray, List.map_cons, List.map_nil, show act.eval (.tmp 26) = _ from h5, show act.eval (.tmp 27) = _ from h6])) (Less_any a b HL_a.out HL_b.out HB_a.out HB_b.out _) ?_
      rintro e w2 ⟨rfl, hm2⟩
      exact ⟨_, rfl, hm2, congrArg Value.bool RAB.out⟩
    · intro act w' hm hout hsz hd
      have h4 := hd ⟨4, .guard⟩ (by simp) rfl
      have h7 := hd ⟨7, .data⟩ (by simp) rfl
      exact lv_run rfl ((wanted_of rfl rfl (hsz 25 (by decide)) h4).trans rfl) (ex_move rfl h7) (Mod.refl _ _) rfl
    · intro act w' hm hout hsz hd
      have h8 := hd ⟨8, .guard⟩ (by simp) rfl
      exact lv_run rfl ((wanted_of rfl rfl (hsz 29 (by decide)) h8).trans rfl) (ex_loadA rfl Try.underlying26 rfl (off := 0) (cs := b.map bv) (by rw [List.length_map, HL_b.out]; exact size_hash) ((hout 4 (by decide)).trans oe4) (fun j u hu => by rw [Nat.zero_add, (KC_b.out.mod hm (fun h => h)).cell]; simpa using hu)) (Mod.refl _ _) rfl
    · intro act w' hm hout hsz hd
      have h8 := hd ⟨8, .guard⟩ (by simp) rfl
      exact lv_run rfl ((wanted_of rfl rfl (hsz 29 (by decide)) h8).trans rfl) (ex_loadA rfl Try.underlying26 rfl (off := 0) (cs := a.map bv) (by rw [List.length_map, HL_a.out]; exact size_hash) ((hout 3 (by decide)).trans oe3) (fun j u hu => by rw [Nat.zero_add, (KC_a.out.mod hm (fun h => h)).cell]; simpa using hu)) (Mod.refl _ _) rfl
    · intro act w' hm hout hsz hd
      have h8 := hd ⟨8, .guard⟩ (by simp) rfl
      have h9 := hd ⟨9, .data⟩ (by simp) rfl
      have h10 := hd ⟨10, .data⟩ (by simp) rfl
      refine lv_call (args := #[hv b, hv a]) rfl ((wanted_of rfl rfl (hsz 29 (by decide)) h8).trans rfl) (by rw [ex_callF rfl Try.func20 (by kernel_rfl) (by kernel_rfl)]; exact congrArg (fun z => Result.ok (Next.enter _ z) _) (by simp only [List.map_toArray, List.map_cons, List.map_nil, show act.eval (.tmp 30) = _ from h9, show act.eval (.tmp 31) = _ from h10])) (Less_any b a HL_b.out HL_a.out HB_b.out HB_a.out _) ?_
      rintro e w2 ⟨rfl, hm2⟩
      exact ⟨_, rfl, hm2, congrArg Value.bool RBA.out⟩
    · intro act w' hm hout hsz hd
      have h4 := hd ⟨4, .guard⟩ (by simp) rfl
      have h8 := hd ⟨8, .data⟩ (by simp) rfl
      have h11 := hd ⟨11, .data⟩ (by simp) rfl
      exact lv_run rfl ((wanted_of rfl rfl (hsz 25 (by decide)) h4).trans rfl) (ex_pick rfl h8 rfl h11) (Mod.refl _ _) rfl
    · intro act w' hm hout hsz hd
      have h4 := hd ⟨4, .guard⟩ (by simp) rfl
      exact lv_run rfl ((wanted_of rfl rfl (hsz 25 (by decide)) h4).trans rfl) (ex_loadA rfl Try.underlying26 rfl (off := 0) (cs := a.map bv) (by rw [List.length_map, HL_a.out]; exact size_hash) ((hout 3 (by decide)).trans oe3) (fun j u hu => by rw [Nat.zero_add, (KC_a.out.mod hm (fun h => h)).cell]; simpa using hu)) (Mod.refl _ _) rfl
    · intro act w' hm hout hsz hd
      have h4 := hd ⟨4, .guard⟩ (by simp) rfl
      exact lv_run rfl ((wanted_of rfl rfl (hsz 25 (by decide)) h4).trans rfl) (ex_loadA rfl Try.underlying26 rfl (off := 0) (cs := b.map bv) (by rw [List.length_map, HL_b.out]; exact size_hash) ((hout 4 (by decide)).trans oe4) (fun j u hu => by rw [Nat.zero_add, (KC_b.out.mod hm (fun h => h)).cell]; simpa using hu)) (Mod.refl _ _) rfl
    · intro act w' hm hout hsz hd
      have h4 := hd ⟨4, .guard⟩ (by simp) rfl
      have h13 := hd ⟨13, .data⟩ (by simp) rfl
      have h14 := hd ⟨14, .data⟩ (by simp) rfl
      exact lv_run rfl ((wanted_of rfl rfl (hsz 25 (by decide)) h4).trans rfl) (ex_bin rfl h13 h14 (hv_guard2 _ _ _ _ _ _) (run_neq_ints _ 26 5 32 Try.underlying26 Try.underlying5 (by kernel_rfl) a b HL_a.out HL_b.out)) (Mod.refl _ _) (congrArg Value.bool NE.out)
    · intro act w' hm hout hsz hd
      have h4 := hd ⟨4, .guard⟩ (by simp) rfl
      have h12 := hd ⟨12, .data⟩ (by simp) rfl
      have h15 := hd ⟨15, .data⟩ (by simp) rfl
      exact lv_run rfl ((wanted_of rfl rfl (hsz 25 (by decide)) h4).trans rfl) (ex_bin rfl h12 h15 (guard_bools _ _ _ _ _ _) (run_eql_bools _ _ _ Try.underlying4)) (Mod.refl _ _) rfl
    · intro act w' hm hout hsz hd
      have h4 := hd ⟨4, .data⟩ (by simp) rfl
      have h16 := hd ⟨16, .data⟩ (by simp) rfl
      exact lv_run rfl (wanted_none rfl) (ex_pick rfl h4 h16 rfl) (Mod.refl _ _) rfl
    · intro act w' hm hout hsz hd
      have h17 := hd ⟨17, .data⟩ (by simp) rfl
      exact lv_run rfl (wanted_none rfl) (ex_move rfl h17) (Mod.refl _ _) rfl
    · intro act w' hm hout hsz hd
      have h18 := hd ⟨18, .guard⟩ (by simp) rfl
      exact lv_run rfl ((wanted_of rfl rfl (hsz 39 (by decide)) h18).trans rfl) (ex_loadA rfl Try.underlying26 rfl (off := 0) (cs := a.map bv) (by rw [List.length_map, HL_a.out]; exact size_hash) ((hout 3 (by decide)).trans oe3) (fun j u hu => by rw [Nat.zero_add, (KC_a.out.mod hm (fun h => h)).cell]; simpa using hu)) (Mod.refl _ _) rfl
    · intro act w' hm hout hsz hd
      have h18 := hd ⟨18, .guard⟩ (by simp) rfl
      exact lv_run rfl ((wanted_of rfl rfl (hsz 39 (by decide)) h18).trans rfl) (ex_loadA rfl Try.underlying26 rfl (off := 0) (cs := b.map bv) (by rw [List.length_map, HL_b.out]; exact size_hash) ((hout 4 (by decide)).trans oe4) (fun j u hu => by rw [Nat.zero_add, (KC_b.out.mod hm (fun h => h)).cell]; simpa using hu)) (Mod.refl _ _) rfl
    · intro act w' hm hout hsz hd
      have h18 := hd ⟨18, .guard⟩ (by simp) rfl
      have h19 := hd ⟨19, .data⟩ (by simp) rfl
      have h20 := hd ⟨20, .data⟩ (by simp) rfl
      refine lv_call (args := #[hv a, hv b]) rfl ((wanted_of rfl rfl (hsz 39 (by decide)) h18).trans rfl) (by rw [ex_callF rfl Try.func20 (by kernel_rfl) (by kernel_rfl)]; exact congrArg (fun z => Result.ok (Next.enter _ z) _) (by simp only [List.map_toArray, List.map_cons, List.map_nil, show act.eval (.tmp 40) = _ from h19, show act.eval (.tmp 41) = _ from h20])) (Less_any a b HL_a.out HL_b.out HB_a.out HB_b.out _) ?_
      rintro e w2 ⟨rfl, hm2⟩
      exact ⟨_, rfl, hm2, congrArg Value.bool RAB.out⟩
    · intro act w' hm hout hsz hd
      have h18 := hd ⟨18, .guard⟩ (by simp) rfl
      have h21 := hd ⟨21, .data⟩ (by simp) rfl
      exact lv_run rfl ((wanted_of rfl rfl (hsz 39 (by decide)) h18).trans rfl) (ex_move rfl h21) (Mod.refl _ _) rfl
    · intro act w' hm hout hsz hd
      have h22 := hd ⟨22, .guard⟩ (by simp) rfl
      exact lv_skip rfl ((wanted_of rfl rfl (hsz 43 (by decide)) h22).trans rfl) rfl
    · intro act w' hm hout hsz hd
      have h22 := hd ⟨22, .guard⟩ (by simp) rfl
      exact lv_skip rfl ((wanted_of rfl rfl (hsz 43 (by decide)) h22).trans rfl) rfl
    · intro act w' hm hout hsz hd
      have h22 := hd ⟨22, .guard⟩ (by simp) rfl
      exact lv_skip rfl ((wanted_of rfl rfl (hsz 43 (by decide)) h22).trans rfl) rfl
    · intro act w' hm hout hsz hd
      have h18 := hd ⟨18, .guard⟩ (by simp) rfl
      have h22 := hd ⟨22, .data⟩ (by simp) rfl
      have h25 := hd ⟨25, .data⟩ (by simp) rfl
      exact lv_run rfl ((wanted_of rfl rfl (hsz 39 (by decide)) h18).trans rfl) (ex_pick rfl h22 h25 rfl) (Mod.refl _ _) rfl
    · intro act w' hm hout hsz hd
      have h18 := hd ⟨18, .guard⟩ (by simp) rfl
      have h26 := hd ⟨26, .data⟩ (by simp) rfl
      exact lv_run rfl ((wanted_of rfl rfl (hsz 39 (by decide)) h18).trans rfl) (ex_not rfl h26) (Mod.refl _ _) rfl
    · intro act w' hm hout hsz hd
      have h18 := hd ⟨18, .data⟩ (by simp) rfl
      have h27 := hd ⟨27, .data⟩ (by simp) rfl
      exact lv_run rfl (wanted_none rfl) (ex_pick rfl h18 h27 rfl) (Mod.refl _ _) rfl
    · intro act w' hm hout hsz hd
      have h28 := hd ⟨28, .data⟩ (by simp) rfl
      exact lv_run rfl (wanted_none rfl) (ex_move rfl h28) (Mod.refl _ _) rfl
    · intro act w' hm hout hsz hd
      have h29 := hd ⟨29, .guard⟩ (by simp) rfl
      refine lv_call (args := #[]) rfl ((wanted_of rfl rfl (hsz 50 (by decide)) h29).trans rfl) (by rw [ex_callF rfl Try.func19 (by kernel_rfl) (by kernel_rfl)]; simp) (wakes02 _) ?_
      rintro e w2 ⟨rfl, hm2⟩
      exact ⟨_, rfl, hm2, rfl⟩
    · intro act w' hm hout hsz hd
      have h29 := hd ⟨29, .data⟩ (by simp) rfl
      have h30 := hd ⟨30, .data⟩ (by simp) rfl
      exact lv_run rfl (wanted_none rfl) (ex_pick rfl h29 h30 rfl) (Mod.refl _ _) rfl
    · intro act w' hm hout hsz hd
      have h31 := hd ⟨31, .data⟩ (by simp) rfl
      exact lv_run rfl (wanted_none rfl) (ex_assign rfl h31) (Mod.refl _ _) rfl
    intro vs w3 hl hm hV
    obtain ⟨v0q, vs0, rfl, hl0⟩ := list_cons hl
    obtain ⟨v1q, vs1, rfl, hl1⟩ := list_cons hl0
    obtain ⟨v2q, vs2, rfl, hl2⟩ := list_cons hl1
    obtain ⟨v3q, vs3, rfl, hl3⟩ := list_cons hl2
    obtain ⟨v4q, vs4, rfl, hl4⟩ := list_cons hl3
    obtain ⟨v5q, vs5, rfl, hl5⟩ := list_cons hl4
    obtain ⟨v6q, vs6, rfl, hl6⟩ := list_cons hl5
    obtain ⟨v7q, vs7, rfl, hl7⟩ := list_cons hl6
    obtain ⟨v8q, vs8, rfl, hl8⟩ := list_cons hl7
    obtain ⟨v9q, vs9, rfl, hl9⟩ := list_cons hl8
    obtain ⟨v10q, vs10, rfl, hl10⟩ := list_cons hl9
    obtain ⟨v11q, vs11, rfl, hl11⟩ := list_cons hl10
    obtain ⟨v12q, vs12, rfl, hl12⟩ := list_cons hl11
    obtain ⟨v13q, vs13, rfl, hl13⟩ := list_cons hl12
    obtain ⟨v14q, vs14, rfl, hl14⟩ := list_cons hl13
    obtain ⟨v15q, vs15, rfl, hl15⟩ := list_cons hl14
    obtain ⟨v16q, vs16, rfl, hl16⟩ := list_cons hl15
    obtain ⟨v17q, vs17, rfl, hl17⟩ := list_cons hl16
    obtain ⟨v18q, vs18, rfl, hl18⟩ := list_cons hl17
    obtain ⟨v19q, vs19, rfl, hl19⟩ := list_cons hl18
    obtain ⟨v20q, vs20, rfl, hl20⟩ := list_cons hl19
    obtain ⟨v21q, vs21, rfl, hl21⟩ := list_cons hl20
    obtain ⟨v22q, vs22, rfl, hl22⟩ := list_cons hl21
    obtain ⟨v23q, vs23, rfl, hl23⟩ := list_cons hl22
    obtain ⟨v24q, vs24, rfl, hl24⟩ := list_cons hl23
    obtain ⟨v25q, vs25, rfl, hl25⟩ := list_cons hl24
    obtain ⟨v26q, vs26, rfl, hl26⟩ := list_cons hl25
    obtain ⟨v27q, vs27, rfl, hl27⟩ := list_cons hl26
    obtain ⟨v28q, vs28, rfl, hl28⟩ := list_cons hl27
    obtain ⟨v29q, vs29, rfl, hl29⟩ := list_cons hl28
    obtain ⟨v30q, vs30, rfl, hl30⟩ := list_cons hl29
    obtain ⟨v31q, vs31, rfl, hl31⟩ := list_cons hl30
    obtain ⟨v32q, vs32, rfl, hl32⟩ := list_cons hl31
    obtain rfl := list_nil hl32
    clear hl hl0 hl1 hl2 hl3 hl4 hl5 hl6 hl7 hl8 hl9 hl10 hl11 hl12 hl13 hl14 hl15 hl16 hl17 hl18 hl19 hl20 hl21 hl22 hl23 hl24 hl25 hl26 hl27 hl28 hl29 hl30 hl31 hl32
    obtain rfl : v32q = .bool true := hV 32 _ rfl
    have ha0 := HA0.out
    subst ha0
    clear HA0 hV hsz0 oe3 oe4
    simp only [putAll, Act.put, List.setIfInBounds_toArray, List.set_cons_zero, List.set_cons_succ]
    have KM3 := Lib.hid (KM2.out.trans hm (fun _ _ h => h))
    go_wp2
    go_ret
    exact ⟨rfl, KM3.out⟩
  · have RAB := Lib.hid (decide_eq_false h1)
    have RBA := Lib.hid (decide_eq_false h2)
    have NE := Lib.hid (show (!decide (a = b)) = false by rw [decide_eq_true (hz (by omega))]; rfl)
    clear h1 h2 hsw htr hz hself
    generalize ha0 : Act.mk _ _ = a0
    have oe3 : a0.eval (.tmp 3) = .pointer (some ⟨w.heap.size, 0, none⟩) := by rw [← ha0]; rfl
    have oe4 : a0.eval (.tmp 4) = .pointer (some ⟨w.heap.size + 1, 0, none⟩) := by rw [← ha0]; rfl
    have oe5 : a0.eval (.tmp 5) = .pointer (some ⟨w.heap.size + 1 + 1, 0, none⟩) := by rw [← ha0]; rfl
    have hsz0 : a0.tmps.size = 53 := by rw [← ha0]; rfl
    have HA0 := Lib.hid ha0
    clear ha0
    refine wp_region_L (by kernel_rfl) (by kernel_rfl) [7, 8, 9, 10, 11, 12, 13, 14, 15, 16, 17, 18, 19, 20] rfl (by decide) (by rw [hsz0]; decide) [isv (hv a), isv (hv b), isv (.bool false), isv (.bool false), isv (undef), isv (undef), isv (undef), isv (.bool false), isv (.bool false), isv (undef), isv (undef), isv (undef), isv (undef), isv (.bool false)] ⟨isv_stable, isv_stable, isv_stable, isv_stable, isv_stable, isv_stable, isv_stable, isv_stable, isv_stable, isv_stable, isv_stable, isv_stable, isv_stable, isv_stable, trivial⟩ ⟨?_, ?_, ?_, ?_, ?_, ?_, ?_, ?_, ?_, ?_, ?_, ?_, ?_, ?_, trivial⟩ ?_
    · intro act w' hm hout hsz hd
      exact lv_run rfl (wanted_none rfl) (ex_loadA rfl Try.underlying26 rfl (off := 0) (cs := a.map bv) (by rw [List.length_map, HL_a.out]; exact size_hash) ((hout 3 (by decide)).trans oe3) (fun j u hu => by rw [Nat.zero_add, (KC_a.out.mod hm (fun h => h)).cell]; simpa using hu)) (Mod.refl _ _) rfl
    · intro act w' hm hout hsz hd
      exact lv_run rfl (wanted_none rfl) (ex_loadA rfl Try.underlying26 rfl (off := 0) (cs := b.map bv) (by rw [List.length_map, HL_b.out]; exact size_hash) ((hout 4 (by decide)).trans oe4) (fun j u hu => by rw [Nat.zero_add, (KC_b.out.mod hm (fun h => h)).cell]; simpa using hu)) (Mod.refl _ _) rfl
    · intro act w' hm hout hsz hd
      have h0 := hd ⟨0, .data⟩ (by simp) rfl
      have h1 := hd ⟨1, .data⟩ (by simp) rfl
      refine lv_call (args := #[hv a, hv b]) rfl (wanted_none rfl) (by rw [ex_callF rfl Try.func20 (by kernel_rfl) (by kernel_rfl)]; exact congrArg (fun z => Result.ok (Next.enter _ z) _) (by simp only [List.map_toArray, List.map_cons, List.map_nil, show act.eval (.tmp 7) = _ from h0, show act.eval (.tmp 8) = _ from h1])) (Less_any a b HL_a.out HL_b.out HB_a.out HB_b.out _) ?_
      rintro e w2 ⟨rfl, hm2⟩
      exact ⟨_, rfl, hm2, congrArg Value.bool RAB.out⟩
    · intro act w' hm hout hsz hd
      have h2 := hd ⟨2, .data⟩ (by simp) rfl
      exact lv_run rfl (wanted_none rfl) (ex_move rfl h2) (Mod.refl _ _) rfl
    · intro act w' hm hout hsz hd
      have h3 := hd ⟨3, .guard⟩ (by simp) rfl
      exact lv_skip rfl ((wanted_of rfl rfl (hsz 10 (by decide)) h3).trans rfl) rfl
    · intro act w' hm hout hsz hd
      have h3 := hd ⟨3, .guard⟩ (by simp) rfl
      exact lv_skip rfl ((wanted_of rfl rfl (hsz 10 (by decide)) h3).trans rfl) rfl
    · intro act w' hm hout hsz hd
      have h3 := hd ⟨3, .guard⟩ (by simp) rfl
      exact lv_skip rfl ((wanted_of rfl rfl (hsz 10 (by decide)) h3).trans rfl) rfl
    · intro act w' hm hout hsz hd
      have h3 := hd ⟨3, .data⟩ (by simp) rfl
      have h6 := hd ⟨6, .data⟩ (by simp) rfl
      exact lv_run rfl (wanted_none rfl) (ex_pick rfl h3 h6 rfl) (Mod.refl _ _) rfl
    · intro act w' hm hout hsz hd
      have h7 := hd ⟨7, .data⟩ (by simp) rfl
      exact lv_run rfl (wanted_none rfl) (ex_move rfl h7) (Mod.refl _ _) rfl
    · intro act w' hm hout hsz hd
      have h8 := hd ⟨8, .guard⟩ (by simp) rfl
      exact lv_skip rfl ((wanted_of rfl rfl (hsz 15 (by decide)) h8).trans rfl) rfl
    · intro act w' hm hout hsz hd
      have h8 := hd ⟨8, .guard⟩ (by simp) rfl
      exact lv_skip rfl ((wanted_of rfl rfl (hsz 15 (by decide)) h8).trans rfl) rfl
    · intro act w' hm hout hsz hd
      have h8 := hd ⟨8, .guard⟩ (by simp) rfl
      exact lv_skip rfl ((wanted_of rfl rfl (hsz 15 (by decide)) h8).trans rfl) rfl
    · intro act w' hm hout hsz hd
      have h8 := hd ⟨8, .guard⟩ (by simp) rfl
      exact lv_skip rfl ((wanted_of rfl rfl (hsz 15 (by decide)) h8).trans rfl) rfl
    · intro act w' hm hout hsz hd
      have h8 := hd ⟨8, .data⟩ (by simp) rfl
      have h12 := hd ⟨12, .data⟩ (by simp) rfl
      exact lv_run rfl (wanted_none rfl) (ex_pick rfl h8 h12 rfl) (Mod.refl _ _) rfl
    intro vs w2 hl hm hV
    obtain ⟨v0p, vs0, rfl, hl0⟩ := list_cons hl
    obtain ⟨v1p, vs1, rfl, hl1⟩ := list_cons hl0
    obtain ⟨v2p, vs2, rfl, hl2⟩ := list_cons hl1
    obtain ⟨v3p, vs3, rfl, hl3⟩ := list_cons hl2
    obtain ⟨v4p, vs4, rfl, hl4⟩ := list_cons hl3
    obtain ⟨v5p, vs5, rfl, hl5⟩ := list_cons hl4
    obtain ⟨v6p, vs6, rfl, hl6⟩ := list_cons hl5
    obtain ⟨v7p, vs7, rfl, hl7⟩ := list_cons hl6
    obtain ⟨v8p, vs8, rfl, hl8⟩ := list_cons hl7
    obtain ⟨v9p, vs9, rfl, hl9⟩ := list_cons hl8
    obtain ⟨v10p, vs10, rfl, hl10⟩ := list_cons hl9
    obtain ⟨v11p, vs11, rfl, hl11⟩ := list_cons hl10
    obtain ⟨v12p, vs12, rfl, hl12⟩ := list_cons hl11
    obtain ⟨v13p, vs13, rfl, hl13⟩ := list_cons hl12
    obtain rfl := list_nil hl13
    clear hl hl0 hl1 hl2 hl3 hl4 hl5 hl6 hl7 hl8 hl9 hl10 hl11 hl12 hl13
    obtain rfl : v13p = .bool false := hV 13 _ rfl
    have ha0 := HA0.out
    subst ha0
    clear HA0 hV hsz0 oe3 oe4 oe5
    simp only [putAll, Act.put, List.setIfInBounds_toArray, List.set_cons_zero, List.set_cons_succ]
    have KC_a2 := Lib.hid (KC_a.out.mod hm (fun h => h))
    have KC_b2 := Lib.hid (KC_b.out.mod hm (fun h => h))
    have KM2 := Lib.hid (KM.out.trans hm (fun _ _ h => h))
    clear hm KC_a KC_b KC_c KM
    have KC_a := Lib.hid KC_a2.out
    have KC_b := Lib.hid KC_b2.out
    go_upto_region 3 with (fail)
    generalize ha0 : Act.mk _ _ = a0
    have oe3 : a0.eval (.tmp 3) = .pointer (some ⟨w.heap.size, 0, none⟩) := by rw [← ha0]; rfl
    have oe4 : a0.eval (.tmp 4) = .pointer (some ⟨w.heap.size + 1, 0, none⟩) := by rw [← ha0]; rfl
    have hsz0 : a0.tmps.size = 53 := by rw [← ha0]; rfl
    have HA0 := Lib.hid ha0
    clear ha0
    refine wp_region_L (by kernel_rfl) (by kernel_rfl) [21, 22, 23, 24, 25, 26, 27, 28, 29, 30, 31, 32, 33, 34, 35, 36, 37, 38, 39, 40, 41, 42, 43, 44, 45, 46, 47, 48, 49, 50, 51, 52, 6] rfl (by decide) (by rw [hsz0]; decide) [isv (hv a), isv (hv a), isv (.bool false), isv (.bool true), isv (.bool true), isv (hv a), isv (hv b), isv (.bool false), isv (.bool false), isv (hv b), isv (hv a), isv (.bool false), isv (.bool false), isv (hv a), isv (hv b), isv (.bool false), isv (.bool true), isv (.bool true), isv (.bool true), isv (hv a), isv (hv b), isv (.bool false), isv (.bool false), isv (undef), isv (undef), isv (undef), isv (.bool false), isv (.bool true), isv (.bool true), isv (.bool true), isv (.bool true), isv (.bool true), isv (.bool true)] ⟨isv_stable, isv_stable, isv_stable, isv_stable, isv_stable, isv_stable, isv_stable, isv_stable, isv_stable, isv_stable, isv_stable, isv_stable, isv_stable, isv_stable, isv_stable, isv_stable, isv_stable, isv_stable, isv_stable, isv_stable, isv_stable, isv_stable, isv_stable, isv_stable, isv_stable, isv_stable, isv_stable, isv_stable, isv_stable, isv_stable, isv_stable, isv_stable, isv_stable, trivial⟩ ⟨?_, ?_, ?_, ?_, ?_, ?_, ?_, ?_, ?_, ?_, ?_, ?_, ?_, ?_, ?_, ?_, ?_, ?_, ?_, ?_, ?_, ?_, ?_, ?_, ?_, ?_, ?_, ?_, ?_, ?_, ?_, ?_, ?_, trivial⟩ ?_
    · intro act w' hm hout hsz hd
      exact lv_run rfl (wanted_none rfl) (ex_loadA rfl Try.underlying26 rfl (off := 0) (cs := a.map bv) (by rw [List.length_map, HL_a.out]; exact size_hash) ((hout 3 (by decide)).trans oe3) (fun j u hu => by rw [Nat.zero_add, (KC_a.out.mod hm (fun h => h)).cell]; simpa using hu)) (Mod.refl _ _) rfl
    · intro act w' hm hout hsz hd
      exact lv_run rfl (wanted_none rfl) (ex_loadA rfl Try.underlying26 rfl (off := 0) (cs := a.map bv) (by rw [List.length_map, HL_a.out]; exact size_hash) ((hout 3 (by decide)).trans oe3) (fun j u hu => by rw [Nat.zero_add, (KC_a.out.mod hm (fun h => h)).cell]; simpa using hu)) (Mod.refl _ _) rfl
    · intro act w' hm hout hsz hd
      have h0 := hd ⟨0, .data⟩ (by simp) rfl
      have h1 := hd ⟨1, .data⟩ (by simp) rfl
      refine lv_call (args := #[hv a, hv a]) rfl (wanted_none rfl) (by rw [ex_callF rfl Try.func20 (by kernel_rfl) (by kernel_rfl)]; exact congrArg (fun z => Result.ok (Next.enter _ z) _) (by simp only [List.map_toArray, List.map_cons, List.map_nil, show act.eval (.tmp 21) = _ from h0, show act.eval (.tmp 22) = _ from h1])) (Less_any a a HL_a.out HL_a.out HB_a.out HB_a.out _) ?_
      rintro e w2 ⟨rfl, hm2⟩
      exact ⟨_, rfl, hm2, congrArg Value.bool RAA.out⟩
    · intro act w' hm hout hsz hd
      have h2 := hd ⟨2, .data⟩ (by simp) rfl
      exact lv_run rfl (wanted_none rfl) (ex_not rfl h2) (Mod.refl _ _) rfl
    · intro act w' hm hout hsz hd
      have h3 := hd ⟨3, .data⟩ (by simp) rfl
      exact lv_run rfl (wanted_none rfl) (ex_move rfl h3) (Mod.refl _ _) rfl
    · intro act w' hm hout hsz hd
      have h4 := hd ⟨4, .guard⟩ (by simp) rfl
      exact lv_run rfl ((wanted_of rfl rfl (hsz 25 (by decide)) h4).trans rfl) (ex_loadA rfl Try.underlying26 rfl (off := 0) (cs := a.map bv) (by rw [List.length_map, HL_a.out]; exact size_hash) ((hout 3 (by decide)).trans oe3) (fun j u hu => by rw [Nat.zero_add, (KC_a.out.mod hm (fun h => h)).cell]; simpa using hu)) (Mod.refl _ _) rfl
    · intro act w' hm hout hsz hd
      have h4 := hd ⟨4, .guard⟩ (by simp) rfl
      exact lv_run rfl ((wanted_of rfl rfl (hsz 25 (by decide)) h4).trans rfl) (ex_loadA rfl Try.underlying26 rfl (off := 0) (cs := b.map bv) (by rw [List.length_map, HL_b.out]; exact size_hash) ((hout 4 (by decide)).trans oe4) (fun j u hu => by rw [Nat.zero_add, (KC_b.out.mod hm (fun h => h)).cell]; simpa using hu)) (Mod.refl _ _) rfl
    · intro act w' hm hout hsz hd
      have h4 := hd ⟨4, .guard⟩ (by simp) rfl
      have h5 := hd ⟨5, .data⟩ (by simp) rfl
      have h6 := hd ⟨6, .data⟩ (by simp) rfl
      refine lv_call (args := #[hv a, hv b]) rfl ((wanted_of rfl rfl (hsz 25 (by decide)) h4).trans rfl) (by rw [ex_callF rfl Try.func20 (by kernel_rfl) (by kernel_rfl)]; exact congrArg (fun z => Result.ok (Next.enter _ z) _) (by simp only [List.map_toArray, List.map_cons, List.map_nil, show act.eval (.tmp 26) = _ from h5, show act.eval (.tmp 27) = _ from h6])) (Less_any a b HL_a.out HL_b.out HB_a.out HB_b.out _) ?_
      rintro e w2 ⟨rfl, hm2⟩
      exact ⟨_, rfl, hm2, congrArg Value.bool RAB.out⟩
    · intro act w' hm hout hsz hd
      have h4 := hd ⟨4, .guard⟩ (by simp) rfl
      have h7 := hd ⟨7, .data⟩ (by simp) rfl
      exact lv_run rfl ((wanted_of rfl rfl (hsz 25 (by decide)) h4).trans rfl) (ex_move rfl h7) (Mod.refl _ _) rfl
    · intro act w' hm hout hsz hd
      have h8 := hd ⟨8, .guard⟩ (by simp) rfl
      exact lv_run rfl ((wanted_of rfl rfl (hsz 29 (by decide)) h8).trans rfl) (ex_loadA rfl Try.underlying26 rfl (off := 0) (cs := b.map bv) (by rw [List.length_map, HL_b.out]; exact size_hash) ((hout 4 (by decide)).trans oe4) (fun j u hu => by rw [Nat.zero_add, (KC_b.out.mod hm (fun h => h)).cell]; simpa using hu)) (Mod.refl _ _) rfl
    · intro act w' hm hout hsz hd
      have h8 := hd ⟨8, .guard⟩ (by simp) rfl
      exact lv_run rfl ((wanted_of rfl rfl (hsz 29 (by decide)) h8).trans rfl) (ex_loadA rfl Try.underlying26 rfl (off := 0) (cs := a.map bv) (by rw [List.length_map, HL_a.out]; exact size_hash) ((hout 3 (by decide)).trans oe3) (fun j u hu => by rw [Nat.zero_add, (KC_a.out.mod hm (fun h => h)).cell]; simpa using hu)) (Mod.refl _ _) rfl
    · intro act w' hm hout hsz hd
      have h8 := hd ⟨8, .guard⟩ (by simp) rfl
      have h9 := hd ⟨9, .data⟩ (by simp) rfl
      have h10 := hd ⟨10, .data⟩ (by simp) rfl
      refine lv_call (args := #[hv b, hv a]) rfl ((wanted_of rfl rfl (hsz 29 (by decide)) h8).trans rfl) (by rw [ex_callF rfl Try.func20 (by kernel_rfl) (by kernel_rfl)]; exact congrArg (fun z => Result.ok (Next.enter _ z) _) (by simp only [List.map_toArray, List.map_cons, List.map_nil, show act.eval (.tmp 30) = _ from h9, show act.eval (.tmp 31) = _ from h10])) (Less_any b a HL_b.out HL_a.out HB_b.out HB_a.out _) ?_
      rintro e w2 ⟨rfl, hm2⟩
      exact ⟨_, rfl, hm2, congrArg Value.bool RBA.out⟩
    · intro act w' hm hout hsz hd
      have h4 := hd ⟨4, .guard⟩ (by simp) rfl
      have h8 := hd ⟨8, .data⟩ (by simp) rfl
      have h11 := hd ⟨11, .data⟩ (by simp) rfl
      exact lv_run rfl ((wanted_of rfl rfl (hsz 25 (by decide)) h4).trans rfl) (ex_pick rfl h8 rfl h11) (Mod.refl _ _) rfl
    · intro act w' hm hout hsz hd
      have h4 := hd ⟨4, .guard⟩ (by simp) rfl
      exact lv_run rfl ((wanted_of rfl rfl (hsz 25 (by decide)) h4).trans rfl) (ex_loadA rfl Try.underlying26 rfl (off := 0) (cs := a.map bv) (by rw [List.length_map, HL_a.out]; exact size_hash) ((hout 3 (by decide)).trans oe3) (fun j u hu => by rw [Nat.zero_add, (KC_a.out.mod hm (fun h => h)).cell]; simpa using hu)) (Mod.refl _ _) rfl
    · intro act w' hm hout hsz hd
      have h4 := hd ⟨4, .guard⟩ (by simp) rfl
      exact lv_run rfl ((wanted_of rfl rfl (hsz 25 (by decide)) h4).trans rfl) (ex_loadA rfl Try.underlying26 rfl (off := 0) (cs := b.map bv) (by rw [List.length_map, HL_b.out]; exact size_hash) ((hout 4 (by decide)).trans oe4) (fun j u hu => by rw [Nat.zero_add, (KC_b.out.mod hm (fun h => h)).cell]; simpa using hu)) (Mod.refl _ _) rfl
    · intro act w' hm hout hsz hd
      have h4 := hd ⟨4, .guard⟩ (by simp) rfl
      have h13 := hd ⟨13, .data⟩ (by simp) rfl
      have h14 := hd ⟨14, .data⟩ (by simp) rfl
      exact lv_run rfl ((wanted_of rfl rfl (hsz 25 (by decide)) h4).trans rfl) (ex_bin rfl h13 h14 (hv_guard2 _ _ _ _ _ _) (run_neq_ints _ 26 5 32 Try.underlying26 Try.underlying5 (by kernel_rfl) a b HL_a.out HL_b.out)) (Mod.refl _ _) (congrArg Value.bool NE.out)
    · intro act w' hm hout hsz hd
      have h4 := hd ⟨4, .guard⟩ (by simp) rfl
      have h12 := hd ⟨12, .data⟩ (by simp) rfl
      have h15 := hd ⟨15, .data⟩ (by simp) rfl
      exact lv_run rfl ((wanted_of rfl rfl (hsz 25 (by decide)) h4).trans rfl) (ex_bin rfl h12 h15 (guard_bools _ _ _ _ _ _) (run_eql_bools _ _ _ Try.underlying4)) (Mod.refl _ _) rfl
    · intro act w' hm hout hsz hd
      have h4 := hd ⟨4, .data⟩ (by simp) rfl
      have h16 := hd ⟨16, .data⟩ (by simp) rfl
      exact lv_run rfl (wanted_none rfl) (ex_pick rfl h4 h16 rfl) (Mod.refl _ _) rfl
    · intro act w' hm hout hsz hd
      have h17 := hd ⟨17, .data⟩ (by simp) rfl
      exact lv_run rfl (wanted_none rfl) (ex_move rfl h17) (Mod.refl _ _) rfl
    · intro act w' hm hout hsz hd
      have h18 := hd ⟨18, .guard⟩ (by simp) rfl
      exact lv_run rfl ((wanted_of rfl rfl (hsz 39 (by decide)) h18).trans rfl) (ex_loadA rfl Try.underlying26 rfl (off := 0) (cs := a.map bv) (by rw [List.length_map, HL_a.out]; exact size_hash) ((hout 3 (by decide)).trans oe3) (fun j u hu => by rw [Nat.zero_add, (KC_a.out.mod hm (fun h => h)).cell]; simpa using hu)) (Mod.refl _ _) rfl
    · intro act w' hm hout hsz hd
      have h18 := hd ⟨18, .guard⟩ (by simp) rfl
      exact lv_run rfl ((wanted_of rfl rfl (hsz 39 (by decide)) h18).trans rfl) (ex_loadA rfl Try.underlying26 rfl (off := 0) (cs := b.map bv) (by rw [List.length_map, HL_b.out]; exact size_hash) ((hout 4 (by decide)).trans oe4) (fun j u hu => by rw [Nat.zero_add, (KC_b.out.mod hm (fun h => h)).cell]; simpa using hu)) (Mod.refl _ _) rfl
    · intro act w' hm hout hsz hd
      have h18 := hd ⟨18, .guard⟩ (by simp) rfl
      have h19 := hd ⟨19, .data⟩ (by simp) rfl
      have h20 := hd ⟨20, .data⟩ (by simp) rfl
      refine lv_call (args := #[hv a, hv b]) rfl ((wanted_of rfl rfl (hsz 39 (by decide)) h18).trans rfl) (by rw [ex_callF rfl Try.func20 (by kernel_rfl) (by kernel_rfl)]; exact congrArg (fun z => Result.ok (Next.enter _ z) _) (by simp only [List.map_toArray, List.map_cons, List.map_nil, show act.eval (.tmp 40) = _ from h19, show act.eval (.tmp 41) = _ from h20])) (Less_any a b HL_a.out HL_b.out HB_a.out HB_b.out _) ?_
      rintro e w2 ⟨rfl, hm2⟩
      exact ⟨_, rfl, hm2, congrArg Value.bool RAB.out⟩
    · intro act w' hm hout hsz hd
      have h18 := hd ⟨18, .guard⟩ (by simp) rfl
      have h21 := hd ⟨21, .data⟩ (by simp) rfl
      exact lv_run rfl ((wanted_of rfl rfl (hsz 39 (by decide)) h18).trans rfl) (ex_move rfl h21) (Mod.refl _ _) rfl
    · intro act w' hm hout hsz hd
      have h22 := hd ⟨22, .guard⟩ (by simp) rfl
      exact lv_skip rfl ((wanted_of rfl rfl (hsz 43 (by decide)) h22).trans rfl) rfl
    · intro act w' hm hout hsz hd
      have h22 := hd ⟨22, .guard⟩ (by simp) rfl
      exact lv_skip rfl ((wanted_of rfl rfl (hsz 43 (by decide)) h22).trans rfl) rfl
    · intro act w' hm hout hsz hd
      have h22 := hd ⟨22, .guard⟩ (by simp) rfl
      exact lv_skip rfl ((wanted_of rfl rfl (hsz 43 (by decide)) h22).trans rfl) rfl
    · intro act w' hm hout hsz hd
      have h18 := hd ⟨18, .guard⟩ (by simp) rfl
      have h22 := hd ⟨22, .data⟩ (by simp) rfl
      have h25 := hd ⟨25, .data⟩ (by simp) rfl
      exact lv_run rfl ((wanted_of rfl rfl (hsz 39 (by decide)) h18).trans rfl) (ex_pick rfl h22 h25 rfl) (Mod.refl _ _) rfl
    · intro act w' hm hout hsz hd
      have h18 := hd ⟨18, .guard⟩ (by simp) rfl
      have h26 := hd ⟨26, .data⟩ (by simp) rfl
      exact lv_run rfl ((wanted_of rfl rfl (hsz 39 (by decide)) h18).trans rfl) (ex_not rfl h26) (Mod.refl _ _) rfl
    · intro act w' hm hout hsz hd
      have h18 := hd ⟨18, .data⟩ (by simp) rfl
      have h27 := hd ⟨27, .data⟩ (by simp) rfl
      exact lv_run rfl (wanted_none rfl) (ex_pick rfl h18 h27 rfl) (Mod.refl _ _) rfl
    · intro act w' hm hout hsz hd
      have h28 := hd ⟨28, .data⟩ (by simp) rfl
      exact lv_run rfl (wanted_none rfl) (ex_move rfl h28) (Mod.refl _ _) rfl
    · intro act w' hm hout hsz hd
      have h29 := hd ⟨29, .guard⟩ (by simp) rfl
      refine lv_call (args := #[]) rfl ((wanted_of rfl rfl (hsz 50 (by decide)) h29).trans rfl) (by rw [ex_callF rfl Try.func19 (by kernel_rfl) (by kernel_rfl)]; simp) (wakes02 _) ?_
      rintro e w2 ⟨rfl, hm2⟩
      exact ⟨_, rfl, hm2, rfl⟩
    · intro act w' hm hout hsz hd
      have h29 := hd ⟨29, .data⟩ (by simp) rfl
      have h30 := hd ⟨30, .data⟩ (by simp) rfl
      exact lv_run rfl (wanted_none rfl) (ex_pick rfl h29 h30 rfl) (Mod.refl _ _) rfl
    · intro act w' hm hout hsz hd
      have h31 := hd ⟨31, .data⟩ (by simp) rfl
      exact lv_run rfl (wanted_none rfl) (ex_assign rfl h31) (Mod.refl _ _) rfl
    intro vs w3 hl hm hV
    obtain ⟨v0q, vs0, rfl, hl0⟩ := list_cons hl
    obtain ⟨v1q, vs1, rfl, hl1⟩ := list_cons hl0
    obtain ⟨v2q, vs2, rfl, hl2⟩ := list_cons hl1
    obtain ⟨v3q, vs3, rfl, hl3⟩ := list_cons hl2
    obtain ⟨v4q, vs4, rfl, hl4⟩ := list_cons hl3
    obtain ⟨v5q, vs5, rfl, hl5⟩ := list_cons hl4
    obtain ⟨v6q, vs6, rfl, hl6⟩ := list_cons hl5
    obtain ⟨v7q, vs7, rfl, hl7⟩ := list_cons hl6
    obtain ⟨v8q, vs8, rfl, hl8⟩ := list_cons hl7
    obtain ⟨v9q, vs9, rfl, hl9⟩ := list_cons hl8
    obtain ⟨v10q, vs10, rfl, hl10⟩ := list_cons hl9
    obtain ⟨v11q, vs11, rfl, hl11⟩ := list_cons hl10
    obtain ⟨v12q, vs12, rfl, hl12⟩ := list_cons hl11
    obtain ⟨v13q, vs13, rfl, hl13⟩ := list_cons hl12
    obtain ⟨v14q, vs14, rfl, hl14⟩ := list_cons hl13
    obtain ⟨v15q, vs15, rfl, hl15⟩ := list_cons hl14
    obtain ⟨v16q, vs16, rfl, hl16⟩ := list_cons hl15
    obtain ⟨v17q, vs17, rfl, hl17⟩ := list_cons hl16
    obtain ⟨v18q, vs18, rfl, hl18⟩ := list_cons hl17
    obtain ⟨v19q, vs19, rfl, hl19⟩ := list_cons hl18
    obtain ⟨v20q, vs20, rfl, hl20⟩ := list_cons hl19
    obtain ⟨v21q, vs21, rfl, hl21⟩ := list_cons hl20
    obtain ⟨v22q, vs22, rfl, hl22⟩ := list_cons hl21
    obtain ⟨v23q, vs23, rfl, hl23⟩ := list_cons hl22
    obtain ⟨v24q, vs24, rfl, hl24⟩ := list_cons hl23
    obtain ⟨v25q, vs25, rfl, hl25⟩ := list_cons hl24
    obtain ⟨v26q, vs26, rfl, hl26⟩ := list_cons hl25
    obtain ⟨v27q, vs27, rfl, hl27⟩ := list_cons hl26
    obtain ⟨v28q, vs28, rfl, hl28⟩ := list_cons hl27
    obtain ⟨v29q, vs29, rfl, hl29⟩ := list_cons hl28
    obtain ⟨v30q, vs30, rfl, hl30⟩ := list_cons hl29
    obtain ⟨v31q, vs31, rfl, hl31⟩ := list_cons hl30
    obtain ⟨v32q, vs32, rfl, hl32⟩ := list_cons hl31
    obtain rfl := list_nil hl32
    clear hl hl0 hl1 hl2 hl3 hl4 hl5 hl6 hl7 hl8 hl9 hl10 hl11 hl12 hl13 hl14 hl15 hl16 hl17 hl18 hl19 hl20 hl21 hl22 hl23 hl24 hl25 hl26 hl27 hl28 hl29 hl30 hl31 hl32
    obtain rfl : v32q = .bool true := hV 32 _ rfl
    have ha0 := HA0.out
    subst ha0
    clear HA0 hV hsz0 oe3 oe4
    simp only [putAll, Act.put, List.setIfInBounds_toArray, List.set_cons_zero, List.set_cons_succ]
    have KM3 := Lib.hid (KM2.out.trans hm (fun _ _ h => h))
    go_wp2
    go_ret
    exact ⟨rfl, KM3.out⟩
end Go.Proofs.Ytfgepphankfbfaa
