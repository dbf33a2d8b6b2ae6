/- ShaApart: the walk. -/
import Derived.Test.YtfgepphankfbfaaSet
import Derived.Test.YtfgepphankfbfaaSha6
set_option maxRecDepth 100000
set_option linter.unusedVariables false
namespace Go.Proofs.Ytfgepphankfbfaa
open Go Go.RowKit Go.Gv

def apS (a : List Int) : Nat → List (List Int × Unit)
  | 0 => []
  | _ => [(a, ())]
def apT (b : List Int) : Nat → List (List Int × Unit)
  | 0 | 1 | 2 | 3 => []
  | _ => [(b, ())]
def apG (g1 b1 g2 b2 : Nat) (a b : List Int) (k : Nat) (w : World) : Prop := SetIs w g1 b1 (apS a k) ∧ SetIs w g2 b2 (apT b k)
theorem apG_st {g1 b1 g2 b2 : Nat} {a b : List Int} (k : Nat) (w w' : World) (h : apG g1 b1 g2 b2 a b k w) (hm : Mod (fun _ => False) w w') : apG g1 b1 g2 b2 a b k w' := ⟨h.1.mod hm (fun h => h) (fun h => h), h.2.mod hm (fun h => h) (fun h => h)⟩
set_option maxHeartbeats 4000000 in
theorem ShaApart_walk (a b : List Int) (hka : HK a) (hkb : HK b) (w : World) :
    Calls Try.prog 9 #[hv a, hv b] w fun e w' => e = .returned (.bool true) ∧ Mod (fun _ => False) w w' := by
  have HK_a := Lib.hid hka
  have HK_b := Lib.hid hkb
  have HL_a := Lib.hid hka.1
  have HL_b := Lib.hid hkb.1
  clear hka hkb
  change Calls _ _ #[.agg (a.map bv).toArray, .agg (b.map bv).toArray] _ _
  go_enter Try.func9, Try.ntmps9
  go_upto_region 1 with (fail)
  obtain ⟨w1, hw1⟩ : ∃ x, x = (w.alloc (.cells (a.map bv).toArray 26)).alloc (.cells (b.map bv).toArray 26) := ⟨_, rfl⟩
  rw [← hw1]
  have KC_a := Lib.hid (show Cs w1 w.heap.size (a.map bv).toArray 26 by rw [hw1]; exact (Cs.new _ _ _).alloc _)
  have KC_b := Lib.hid (show Cs w1 (w.heap.size + 1) (b.map bv).toArray 26 by rw [hw1]; exact Cs_new1 _ _ _ _)
  have KM := Lib.hid (show Mod (fun _ => False) w w1 by rw [hw1]; exact ((Mod.refl _ _).alloc _).alloc _)
  have z1 := KC_b.out.lt
  clear hw1
  go_wp2_with fail
  refine (Set_new _).mono ?_
  rintro e w2 ⟨g1, b1, rfl, y1, y2, hs1, hm1⟩
  have KC_a2 := Lib.hid (KC_a.out.mod hm1 (fun h => h))
  have KC_b2 := Lib.hid (KC_b.out.mod hm1 (fun h => h))
  have KM2 := Lib.hid (KM.out.trans hm1 (fun _ _ h => h))
  have HS1 := Lib.hid hs1
  have z2 := hs1.cell.lt
  have z3 := hs1.map.lt
  clear hs1 hm1 KC_a KC_b KM
  go_wp2_with fail
  refine (Set_new _).mono ?_
  rintro e w3 ⟨g2, b2, rfl, y3, y4, hs2, hm2⟩
  have KC_a := Lib.hid (KC_a2.out.mod hm2 (fun h => h))
  have KC_b := Lib.hid (KC_b2.out.mod hm2 (fun h => h))
  have KM3 := Lib.hid (KM2.out.trans hm2 (fun _ _ h => h))
  have HG0 := Lib.hid (show apG g1 b1 g2 b2 a b 0 w3 from ⟨HS1.out.mod hm2 (fun h => h) (fun h => h), hs2⟩)
  have d1 : ¬ g2 = b1 := by omega
  have d2 : ¬ b2 = b1 := by omega
  have d3 : ¬ g1 = b2 := by omega
  have d4 : ¬ b1 = b2 := by omega
  have MA := Lib.hid (show mhas (apS a 1) a = true by show mhas [(a, ())] a = _; rw [mhas_cons]; simp)
  clear hs2 hm2 KC_a2 KC_b2 KM2 HS1
  go_upto_region 4 with (fail)
  by_cases heq : a = b
  · have EQ := Lib.hid (show decide (a = b) = true from decide_eq_true heq)
    have MB := Lib.hid (show mhas (apS a 4) b = true by show mhas [(a, ())] b = _; rw [mhas_cons, EQ.out]; rfl)
    clear heq
    generalize ha0 : Act.mk _ _ = a0
    have oe2 : a0.eval (.tmp 2) = .pointer (some ⟨w.heap.size, 0, none⟩) := by rw [← ha0]; rfl
    have oe3 : a0.eval (.tmp 3) = .pointer (some ⟨w.heap.size + 1, 0, none⟩) := by rw [← ha0]; rfl
    have oe5 : a0.eval (.tmp 5) = .pointer (some ⟨g1, 0, none⟩) := by rw [← ha0]; rfl
    have oe6 : a0.eval (.tmp 6) = .pointer (some ⟨g2, 0, none⟩) := by rw [← ha0]; rfl
    have hsz0 : a0.tmps.size = 57 := by rw [← ha0]; rfl
    have HA0 := Lib.hid ha0
    clear ha0
    refine wp_region_J 57 hsz0 (by kernel_rfl) (by kernel_rfl) [15, 16, 17, 18, 19, 20, 21, 22, 23, 24, 25, 26, 27, 28, 29, 30, 31, 32, 33, 34, 35, 36, 37, 38, 39, 40, 41, 42, 43, 44, 45, 46, 47, 48, 49, 50, 51, 52, 53, 54, 55, 56, 4] (by kernel_rfl) (by decide) (fun k => k = b1 ∨ k = b2) [isv (.pointer (some ⟨g1, 0, none⟩)), isv (hv a), isv (.bool true), isv (.bool true), isv (.pointer (some ⟨g1, 0, none⟩)), isv (hv a), isv (.bool false), isv (.bool true), isv (.bool true), isv (.bool true), isv (.pointer (some ⟨g2, 0, none⟩)), isv (hv a), isv (.bool false), isv (.bool true), isv (.bool true), isv (.bool true), isv (.pointer (some ⟨g2, 0, none⟩)), isv (hv b), isv (.bool true), isv (.bool true), isv (.bool true), isv (.pointer (some ⟨g1, 0, none⟩)), isv (hv b), isv (.bool true), isv (hv a), isv (hv b), isv (.bool true), isv (.bool true), isv (.bool true), isv (.bool true), isv (.pointer (some ⟨g1, 0, none⟩)), isv (.int .i64 1), isv (.bool true), isv (.bool true), isv (.bool true), isv (.pointer (some ⟨g2, 0, none⟩)), isv (.int .i64 1), isv (.bool true), isv (.bool true), isv (.bool true), isv (.bool true), isv (.bool true), isv (.bool true)] ⟨isv_stableS, isv_stableS, isv_stableS, isv_stableS, isv_stableS, isv_stableS, isv_stableS, isv_stableS, isv_stableS, isv_stableS, isv_stableS, isv_stableS, isv_stableS, isv_stableS, isv_stableS, isv_stableS, isv_stableS, isv_stableS, isv_stableS, isv_stableS, isv_stableS, isv_stableS, isv_stableS, isv_stableS, isv_stableS, isv_stableS, isv_stableS, isv_stableS, isv_stableS, isv_stableS, isv_stableS, isv_stableS, isv_stableS, isv_stableS, isv_stableS, isv_stableS, isv_stableS, isv_stableS, isv_stableS, isv_stableS, isv_stableS, isv_stableS, isv_stableS, trivial⟩ [2, 6, 12, 18, 23, 31, 36] (by kernel_rfl) (by decide) (by kernel_rfl) (apG g1 b1 g2 b2 a b) apG_st HG0.out ⟨?_, ?_, ?_, ?_, ?_, ?_, ?_, ?_, ?_, ?_, ?_, ?_, ?_, ?_, ?_, ?_, ?_, ?_, ?_, ?_, ?_, ?_, ?_, ?_, ?_, ?_, ?_, ?_, ?_, ?_, ?_, ?_, ?_, ?_, ?_, ?_, ?_, ?_, ?_, ?_, ?_, ?_, ?_, trivial⟩ ?_
    · intro act w' hm hout hsz hd hG
      refine jv_pure (by decide) apG_st ?_
      exact lv_run rfl (wanted_none rfl) (ex_move rfl ((hout 5 (by decide)).trans oe5)) (Mod.refl _ _) rfl
    · intro act w' hm hout hsz hd hG
      refine jv_pure (by decide) apG_st ?_
      exact lv_run rfl (wanted_none rfl) (ex_loadA rfl Try.underlying26 rfl (off := 0) (cs := a.map bv) (by rw [List.length_map, HL_a.out]; exact size_hash) ((hout 2 (by decide)).trans oe2) (fun j u hu => by rw [Nat.zero_add, (KC_a.out.mod hm (by omega)).cell]; simpa using hu)) (Mod.refl _ _) rfl
    · intro act w' hm hout hsz hd hG
      have h0 := hd ⟨0, .data⟩ (by simp) rfl _ rfl
      have h1 := hd ⟨1, .data⟩ (by simp) rfl _ rfl
      have hg := hG 0 rfl
      refine jv_call (k := 0) (args := #[.pointer (some ⟨g1, 0, none⟩), hv a]) rfl (wanted_none rfl) (by rw [ex_callF rfl Try.func31 (by kernel_rfl) (by kernel_rfl)]; exact congrArg (fun z => Result.ok (Next.enter _ z) _) (by simp only [List.map_toArray, List.map_cons, List.map_nil, show act.eval (.tmp 15) = _ from h0, show act.eval (.tmp 16) = _ from h1]; try rfl)) (Set_add hg.1 HK_a.out) (by decide) rfl ?_
      rintro e w2 ⟨rfl, hs, hm2⟩
      exact ⟨_, rfl, hm2.mono (fun _ _ h => Or.inl h), rfl, ⟨hs, hg.2.mod hm2 d1 d2⟩⟩
    · intro act w' hm hout hsz hd hG
      have h2 := hd ⟨2, .data⟩ (by simp) rfl _ rfl
      refine jv_pure (by decide) apG_st ?_
      exact lv_run rfl (wanted_none rfl) (ex_move rfl h2) (Mod.refl _ _) rfl
    · intro act w' hm hout hsz hd hG
      have h3 := hd ⟨3, .guard⟩ (by simp) rfl _ rfl
      refine jv_pure (by decide) apG_st ?_
      exact lv_run rfl ((wanted_of rfl rfl (hsz 18 (by decide)) h3).trans rfl) (ex_move rfl ((hout 5 (by decide)).trans oe5)) (Mod.refl _ _) rfl
    · intro act w' hm hout hsz hd hG
      have h3 := hd ⟨3, .guard⟩ (by simp) rfl _ rfl
      refine jv_pure (by decide) apG_st ?_
      exact lv_run rfl ((wanted_of rfl rfl (hsz 18 (by decide)) h3).trans rfl) (ex_loadA rfl Try.underlying26 rfl (off := 0) (cs := a.map bv) (by rw [List.length_map, HL_a.out]; exact size_hash) ((hout 2 (by decide)).trans oe2) (fun j u hu => by rw [Nat.zero_add, (KC_a.out.mod hm (by omega)).cell]; simpa using hu)) (Mod.refl _ _) rfl
    · intro act w' hm hout hsz hd hG
      have h3 := hd ⟨3, .guard⟩ (by simp) rfl _ rfl
      have h4 := hd ⟨4, .data⟩ (by simp) rfl _ rfl
      have h5 := hd ⟨5, .data⟩ (by simp) rfl _ rfl
      have hg := hG 1 rfl
      refine jv_call (k := 1) (args := #[.pointer (some ⟨g1, 0, none⟩), hv a]) rfl ((wanted_of rfl rfl (hsz 18 (by decide)) h3).trans rfl) (by rw [ex_callF rfl Try.func31 (by kernel_rfl) (by kernel_rfl)]; exact congrArg (fun z => Result.ok (Next.enter _ z) _) (by simp only [List.map_toArray, List.map_cons, List.map_nil, show act.eval (.tmp 19) = _ from h4, show act.eval (.tmp 20) = _ from h5]; try rfl)) (Set_add hg.1 HK_a.out) (by decide) rfl ?_
      rintro e w2 ⟨rfl, hs, hm2⟩
      exact ⟨_, rfl, hm2.mono (fun _ _ h => Or.inl h), congrArg (fun z => Value.bool (!z)) MA.out, ⟨by rw [mput_same (show mhas (apS a 1) a = true from MA.out)] at hs; exact hs, hg.2.mod hm2 d1 d2⟩⟩
    · intro act w' hm hout hsz hd hG
      have h3 := hd ⟨3, .guard⟩ (by simp) rfl _ rfl
      have h6 := hd ⟨6, .data⟩ (by simp) rfl _ rfl
      refine jv_pure (by decide) apG_st ?_
      exact lv_run rfl ((wanted_of rfl rfl (hsz 18 (by decide)) h3).trans rfl) (ex_not rfl h6) (Mod.refl _ _) rfl
    · intro act w' hm hout hsz hd hG
      have h3 := hd ⟨3, .data⟩ (by simp) rfl _ rfl
      have h7 := hd ⟨7, .data⟩ (by simp) rfl _ rfl
      refine jv_pure (by decide) apG_st ?_
      exact lv_run rfl (wanted_none rfl) (ex_pick rfl h3 h7 rfl) (Mod.refl _ _) rfl
    · intro act w' hm hout hsz hd hG
      have h8 := hd ⟨8, .data⟩ (by simp) rfl _ rfl
      refine jv_pure (by decide) apG_st ?_
      exact lv_run rfl (wanted_none rfl) (ex_move rfl h8) (Mod.refl _ _) rfl
    · intro act w' hm hout hsz hd hG
      have h9 := hd ⟨9, .guard⟩ (by simp) rfl _ rfl
      refine jv_pure (by decide) apG_st ?_
      exact lv_run rfl ((wanted_of rfl rfl (hsz 24 (by decide)) h9).trans rfl) (ex_move rfl ((hout 6 (by decide)).trans oe6)) (Mod.refl _ _) rfl
    · intro act w' hm hout hsz hd hG
      have h9 := hd ⟨9, .guard⟩ (by simp) rfl _ rfl
      refine jv_pure (by decide) apG_st ?_
      exact lv_run rfl ((wanted_of rfl rfl (hsz 24 (by decide)) h9).trans rfl) (ex_loadA rfl Try.underlying26 rfl (off := 0) (cs := a.map bv) (by rw [List.length_map, HL_a.out]; exact size_hash) ((hout 2 (by decide)).trans oe2) (fun j u hu => by rw [Nat.zero_add, (KC_a.out.mod hm (by omega)).cell]; simpa using hu)) (Mod.refl _ _) rfl
    · intro act w' hm hout hsz hd hG
      have h9 := hd ⟨9, .guard⟩ (by simp) rfl _ rfl
      have h10 := hd ⟨10, .data⟩ (by simp) rfl _ rfl
      have h11 := hd ⟨11, .data⟩ (by simp) rfl _ rfl
      have hg := hG 2 rfl
      refine jv_call (k := 2) (args := #[.pointer (some ⟨g2, 0, none⟩), hv a]) rfl ((wanted_of rfl rfl (hsz 24 (by decide)) h9).trans rfl) (by rw [ex_callF rfl Try.func30 (by kernel_rfl) (by kernel_rfl)]; exact congrArg (fun z => Result.ok (Next.enter _ z) _) (by simp only [List.map_toArray, List.map_cons, List.map_nil, show act.eval (.tmp 25) = _ from h10, show act.eval (.tmp 26) = _ from h11]; try rfl)) (Set_has hg.2 HK_a.out) (by decide) rfl ?_
      rintro e w2 ⟨rfl, hm2⟩
      exact ⟨_, rfl, hm2.mono (fun _ _ h => h.elim), rfl, apG_st 2 _ _ hg hm2⟩
    · intro act w' hm hout hsz hd hG
      have h9 := hd ⟨9, .guard⟩ (by simp) rfl _ rfl
      have h12 := hd ⟨12, .data⟩ (by simp) rfl _ rfl
      refine jv_pure (by decide) apG_st ?_
      exact lv_run rfl ((wanted_of rfl rfl (hsz 24 (by decide)) h9).trans rfl) (ex_not rfl h12) (Mod.refl _ _) rfl
    · intro act w' hm hout hsz hd hG
      have h9 := hd ⟨9, .data⟩ (by simp) rfl _ rfl
      have h13 := hd ⟨13, .data⟩ (by simp) rfl _ rfl
      refine jv_pure (by decide) apG_st ?_
      exact lv_run rfl (wanted_none rfl) (ex_pick rfl h9 h13 rfl) (Mod.refl _ _) rfl
    · intro act w' hm hout hsz hd hG
      have h14 := hd ⟨14, .data⟩ (by simp) rfl _ rfl
      refine jv_pure (by decide) apG_st ?_
      exact lv_run rfl (wanted_none rfl) (ex_move rfl h14) (Mod.refl _ _) rfl
    · intro act w' hm hout hsz hd hG
      have h15 := hd ⟨15, .guard⟩ (by simp) rfl _ rfl
      refine jv_pure (by decide) apG_st ?_
      exact lv_run rfl ((wanted_of rfl rfl (hsz 30 (by decide)) h15).trans rfl) (ex_move rfl ((hout 6 (by decide)).trans oe6)) (Mod.refl _ _) rfl
    · intro act w' hm hout hsz hd hG
      have h15 := hd ⟨15, .guard⟩ (by simp) rfl _ rfl
      refine jv_pure (by decide) apG_st ?_
      exact lv_run rfl ((wanted_of rfl rfl (hsz 30 (by decide)) h15).trans rfl) (ex_loadA rfl Try.underlying26 rfl (off := 0) (cs := b.map bv) (by rw [List.length_map, HL_b.out]; exact size_hash) ((hout 3 (by decide)).trans oe3) (fun j u hu => by rw [Nat.zero_add, (KC_b.out.mod hm (by omega)).cell]; simpa using hu)) (Mod.refl _ _) rfl
    · intro act w' hm hout hsz hd hG
      have h15 := hd ⟨15, .guard⟩ (by simp) rfl _ rfl
      have h16 := hd ⟨16, .data⟩ (by simp) rfl _ rfl
      have h17 := hd ⟨17, .data⟩ (by simp) rfl _ rfl
      have hg := hG 3 rfl
      refine jv_call (k := 3) (args := #[.pointer (some ⟨g2, 0, none⟩), hv b]) rfl ((wanted_of rfl rfl (hsz 30 (by decide)) h15).trans rfl) (by rw [ex_callF rfl Try.func31 (by kernel_rfl) (by kernel_rfl)]; exact congrArg (fun z => Result.ok (Next.enter _ z) _) (by simp only [List.map_toArray, List.map_cons, List.map_nil, show act.eval (.tmp 31) = _ from h16, show act.eval (.tmp 32) = _ from h17]; try rfl)) (Set_add hg.2 HK_b.out) (by decide) rfl ?_
      rintro e w2 ⟨rfl, hs, hm2⟩
      exact ⟨_, rfl, hm2.mono (fun _ _ h => Or.inr h), rfl, ⟨hg.1.mod hm2 d3 d4, hs⟩⟩
    · intro act w' hm hout hsz hd hG
      have h15 := hd ⟨15, .data⟩ (by simp) rfl _ rfl
      have h18 := hd ⟨18, .data⟩ (by simp) rfl _ rfl
      refine jv_pure (by decide) apG_st ?_
      exact lv_run rfl (wanted_none rfl) (ex_pick rfl h15 h18 rfl) (Mod.refl _ _) rfl
    · intro act w' hm hout hsz hd hG
      have h19 := hd ⟨19, .data⟩ (by simp) rfl _ rfl
      refine jv_pure (by decide) apG_st ?_
      exact lv_run rfl (wanted_none rfl) (ex_move rfl h19) (Mod.refl _ _) rfl
    · intro act w' hm hout hsz hd hG
      have h20 := hd ⟨20, .guard⟩ (by simp) rfl _ rfl
      refine jv_pure (by decide) apG_st ?_
      exact lv_run rfl ((wanted_of rfl rfl (hsz 35 (by decide)) h20).trans rfl) (ex_move rfl ((hout 5 (by decide)).trans oe5)) (Mod.refl _ _) rfl
    · intro act w' hm hout hsz hd hG
      have h20 := hd ⟨20, .guard⟩ (by simp) rfl _ rfl
      refine jv_pure (by decide) apG_st ?_
      exact lv_run rfl ((wanted_of rfl rfl (hsz 35 (by decide)) h20).trans rfl) (ex_loadA rfl Try.underlying26 rfl (off := 0) (cs := b.map bv) (by rw [List.length_map, HL_b.out]; exact size_hash) ((hout 3 (by decide)).trans oe3) (fun j u hu => by rw [Nat.zero_add, (KC_b.out.mod hm (by omega)).cell]; simpa using hu)) (Mod.refl _ _) rfl
    · intro act w' hm hout hsz hd hG
      have h20 := hd ⟨20, .guard⟩ (by simp) rfl _ rfl
      have h21 := hd ⟨21, .data⟩ (by simp) rfl _ rfl
      have h22 := hd ⟨22, .data⟩ (by simp) rfl _ rfl
      have hg := hG 4 rfl
      refine jv_call (k := 4) (args := #[.pointer (some ⟨g1, 0, none⟩), hv b]) rfl ((wanted_of rfl rfl (hsz 35 (by decide)) h20).trans rfl) (by rw [ex_callF rfl Try.func30 (by kernel_rfl) (by kernel_rfl)]; exact congrArg (fun z => Result.ok (Next.enter _ z) _) (by simp only [List.map_toArray, List.map_cons, List.map_nil, show act.eval (.tmp 36) = _ from h21, show act.eval (.tmp 37) = _ from h22]; try rfl)) (Set_has hg.1 HK_b.out) (by decide) rfl ?_
      rintro e w2 ⟨rfl, hm2⟩
      exact ⟨_, rfl, hm2.mono (fun _ _ h => h.elim), congrArg Value.bool MB.out, apG_st 4 _ _ hg hm2⟩
    · intro act w' hm hout hsz hd hG
      have h20 := hd ⟨20, .guard⟩ (by simp) rfl _ rfl
      refine jv_pure (by decide) apG_st ?_
      exact lv_run rfl ((wanted_of rfl rfl (hsz 35 (by decide)) h20).trans rfl) (ex_loadA rfl Try.underlying26 rfl (off := 0) (cs := a.map bv) (by rw [List.length_map, HL_a.out]; exact size_hash) ((hout 2 (by decide)).trans oe2) (fun j u hu => by rw [Nat.zero_add, (KC_a.out.mod hm (by omega)).cell]; simpa using hu)) (Mod.refl _ _) rfl
    · intro act w' hm hout hsz hd hG
      have h20 := hd ⟨20, .guard⟩ (by simp) rfl _ rfl
      refine jv_pure (by decide) apG_st ?_
      exact lv_run rfl ((wanted_of rfl rfl (hsz 35 (by decide)) h20).trans rfl) (ex_loadA rfl Try.underlying26 rfl (off := 0) (cs := b.map bv) (by rw [List.length_map, HL_b.out]; exact size_hash) ((hout 3 (by decide)).trans oe3) (fun j u hu => by rw [Nat.zero_add, (KC_b.out.mod hm (by omega)).cell]; simpa using hu)) (Mod.refl _ _) rfl
    · intro act w' hm hout hsz hd hG
      have h20 := hd ⟨20, .guard⟩ (by simp) rfl _ rfl
      have h24 := hd ⟨24, .data⟩ (by simp) rfl _ rfl
      have h25 := hd ⟨25, .data⟩ (by simp) rfl _ rfl
      refine jv_pure (by decide) apG_st ?_
      exact lv_run rfl ((wanted_of rfl rfl (hsz 35 (by decide)) h20).trans rfl) (ex_bin rfl h24 h25 (hv_guard2 _ _ _ _ _ _) (run_eql_ints _ 26 5 32 Try.underlying26 Try.underlying5 (by kernel_rfl) a b HL_a.out HL_b.out)) (Mod.refl _ _) (congrArg Value.bool EQ.out)
    · intro act w' hm hout hsz hd hG
      have h20 := hd ⟨20, .guard⟩ (by simp) rfl _ rfl
      have h23 := hd ⟨23, .data⟩ (by simp) rfl _ rfl
      have h26 := hd ⟨26, .data⟩ (by simp) rfl _ rfl
      refine jv_pure (by decide) apG_st ?_
      exact lv_run rfl ((wanted_of rfl rfl (hsz 35 (by decide)) h20).trans rfl) (ex_bin rfl h23 h26 (guard_bools _ _ _ _ _ _) (run_eql_bools _ _ _ Try.underlying4)) (Mod.refl _ _) rfl
    · intro act w' hm hout hsz hd hG
      have h20 := hd ⟨20, .data⟩ (by simp) rfl _ rfl
      have h27 := hd ⟨27, .data⟩ (by simp) rfl _ rfl
      refine jv_pure (by decide) apG_st ?_
      exact lv_run rfl (wanted_none rfl) (ex_pick rfl h20 h27 rfl) (Mod.refl _ _) rfl
    · intro act w' hm hout hsz hd hG
      have h28 := hd ⟨28, .data⟩ (by simp) rfl _ rfl
      refine jv_pure (by decide) apG_st ?_
      exact lv_run rfl (wanted_none rfl) (ex_move rfl h28) (Mod.refl _ _) rfl
    · intro act w' hm hout hsz hd hG
      have h29 := hd ⟨29, .guard⟩ (by simp) rfl _ rfl
      refine jv_pure (by decide) apG_st ?_
      exact lv_run rfl ((wanted_of rfl rfl (hsz 44 (by decide)) h29).trans rfl) (ex_move rfl ((hout 5 (by decide)).trans oe5)) (Mod.refl _ _) rfl
    · intro act w' hm hout hsz hd hG
      have h29 := hd ⟨29, .guard⟩ (by simp) rfl _ rfl
      have h30 := hd ⟨30, .data⟩ (by simp) rfl _ rfl
      have hg := hG 5 rfl
      refine jv_call (k := 5) (args := #[.pointer (some ⟨g1, 0, none⟩)]) rfl ((wanted_of rfl rfl (hsz 44 (by decide)) h29).trans rfl) (by rw [ex_callF rfl Try.func32 (by kernel_rfl) (by kernel_rfl)]; exact congrArg (fun z => Result.ok (Next.enter _ z) _) (by simp only [List.map_toArray, List.map_cons, List.map_nil, show act.eval (.tmp 45) = _ from h30]; try rfl)) (Set_len hg.1) (by decide) rfl ?_
      rintro e w2 ⟨rfl, hm2⟩
      exact ⟨_, rfl, hm2.mono (fun _ _ h => h.elim), rfl, apG_st 5 _ _ hg hm2⟩
    · intro act w' hm hout hsz hd hG
      have h29 := hd ⟨29, .guard⟩ (by simp) rfl _ rfl
      have h31 := hd ⟨31, .data⟩ (by simp) rfl _ rfl
      refine jv_pure (by decide) apG_st ?_
      exact lv_run rfl ((wanted_of rfl rfl (hsz 44 (by decide)) h29).trans rfl) (ex_bin rfl h31 rfl (guard_ints _ _ _ _ _ _) (run_eql_i _ _ _ Try.underlying3)) (Mod.refl _ _) rfl
    · intro act w' hm hout hsz hd hG
      have h29 := hd ⟨29, .data⟩ (by simp) rfl _ rfl
      have h32 := hd ⟨32, .data⟩ (by simp) rfl _ rfl
      refine jv_pure (by decide) apG_st ?_
      exact lv_run rfl (wanted_none rfl) (ex_pick rfl h29 h32 rfl) (Mod.refl _ _) rfl
    · intro act w' hm hout hsz hd hG
      have h33 := hd ⟨33, .data⟩ (by simp) rfl _ rfl
      refine jv_pure (by decide) apG_st ?_
      exact lv_run rfl (wanted_none rfl) (ex_move rfl h33) (Mod.refl _ _) rfl
    · intro act w' hm hout hsz hd hG
      have h34 := hd ⟨34, .guard⟩ (by simp) rfl _ rfl
      refine jv_pure (by decide) apG_st ?_
      exact lv_run rfl ((wanted_of rfl rfl (hsz 49 (by decide)) h34).trans rfl) (ex_move rfl ((hout 6 (by decide)).trans oe6)) (Mod.refl _ _) rfl
    · intro act w' hm hout hsz hd hG
      have h34 := hd ⟨34, .guard⟩ (by simp) rfl _ rfl
      have h35 := hd ⟨35, .data⟩ (by simp) rfl _ rfl
      have hg := hG 6 rfl
      refine jv_call (k := 6) (args := #[.pointer (some ⟨g2, 0, none⟩)]) rfl ((wanted_of rfl rfl (hsz 49 (by decide)) h34).trans rfl) (by rw [ex_callF rfl Try.func32 (by kernel_rfl) (by kernel_rfl)]; exact congrArg (fun z => Result.ok (Next.enter _ z) _) (by simp only [List.map_toArray, List.map_cons, List.map_nil, show act.eval (.tmp 50) = _ from h35]; try rfl)) (Set_len hg.2) (by decide) rfl ?_
      rintro e w2 ⟨rfl, hm2⟩
      exact ⟨_, rfl, hm2.mono (fun _ _ h => h.elim), rfl, apG_st 6 _ _ hg hm2⟩
    · intro act w' hm hout hsz hd hG
      have h34 := hd ⟨34, .guard⟩ (by simp) rfl _ rfl
      have h36 := hd ⟨36, .data⟩ (by simp) rfl _ rfl
      refine jv_pure (by decide) apG_st ?_
      exact lv_run rfl ((wanted_of rfl rfl (hsz 49 (by decide)) h34).trans rfl) (ex_bin rfl h36 rfl (guard_ints _ _ _ _ _ _) (run_eql_i _ _ _ Try.underlying3)) (Mod.refl _ _) rfl
    · intro act w' hm hout hsz hd hG
      have h34 := hd ⟨34, .data⟩ (by simp) rfl _ rfl
      have h37 := hd ⟨37, .data⟩ (by simp) rfl _ rfl
      refine jv_pure (by decide) apG_st ?_
      exact lv_run rfl (wanted_none rfl) (ex_pick rfl h34 h37 rfl) (Mod.refl _ _) rfl
    · intro act w' hm hout hsz hd hG
      have h38 := hd ⟨38, .data⟩ (by simp) rfl _ rfl
      refine jv_pure (by decide) apG_st ?_
      exact lv_run rfl (wanted_none rfl) (ex_move rfl h38) (Mod.refl _ _) rfl
    · intro act w' hm hout hsz hd hG
      have h39 := hd ⟨39, .guard⟩ (by simp) rfl _ rfl
      refine jv_pure (by decide) apG_st ?_
      refine lv_call (args := #[]) rfl ((wanted_of rfl rfl (hsz 54 (by decide)) h39).trans rfl) (by rw [ex_callF rfl Try.func19 (by kernel_rfl) (by kernel_rfl)]; simp) (wakes02 _) ?_
      rintro e w2 ⟨rfl, hm2⟩
      exact ⟨_, rfl, hm2, rfl⟩
    · intro act w' hm hout hsz hd hG
      have h39 := hd ⟨39, .data⟩ (by simp) rfl _ rfl
      have h40 := hd ⟨40, .data⟩ (by simp) rfl _ rfl
      refine jv_pure (by decide) apG_st ?_
      exact lv_run rfl (wanted_none rfl) (ex_pick rfl h39 h40 rfl) (Mod.refl _ _) rfl
    · intro act w' hm hout hsz hd hG
      have h41 := hd ⟨41, .data⟩ (by simp) rfl _ rfl
      refine jv_pure (by decide) apG_st ?_
      exact lv_run rfl (wanted_none rfl) (ex_assign rfl h41) (Mod.refl _ _) rfl
    intro vs w4 hl hm hG hV
    obtain ⟨v0, vs0, rfl, hl0⟩ := list_cons hl
    obtain ⟨v1, vs1, rfl, hl1⟩ := list_cons hl0
    obtain ⟨v2, vs2, rfl, hl2⟩ := list_cons hl1
    obtain ⟨v3, vs3, rfl, hl3⟩ := list_cons hl2
    obtain ⟨v4, vs4, rfl, hl4⟩ := list_cons hl3
    obtain ⟨v5, vs5, rfl, hl5⟩ := list_cons hl4
    obtain ⟨v6, vs6, rfl, hl6⟩ := list_cons hl5
    obtain ⟨v7, vs7, rfl, hl7⟩ := list_cons hl6
    obtain ⟨v8, vs8, rfl, hl8⟩ := list_cons hl7
    obtain ⟨v9, vs9, rfl, hl9⟩ := list_cons hl8
    obtain ⟨v10, vs10, rfl, hl10⟩ := list_cons hl9
    obtain ⟨v11, vs11, rfl, hl11⟩ := list_cons hl10
    obtain ⟨v12, vs12, rfl, hl12⟩ := list_cons hl11
    obtain ⟨v13, vs13, rfl, hl13⟩ := list_cons hl12
    obtain ⟨v14, vs14, rfl, hl14⟩ := list_cons hl13
    obtain ⟨v15, vs15, rfl, hl15⟩ := list_cons hl14
    obtain ⟨v16, vs16, rfl, hl16⟩ := list_cons hl15
    obtain ⟨v17, vs17, rfl, hl17⟩ := list_cons hl16
    obtain ⟨v18, vs18, rfl, hl18⟩ := list_cons hl17
    obtain ⟨v19, vs19, rfl, hl19⟩ := list_cons hl18
    obtain ⟨v20, vs20, rfl, hl20⟩ := list_cons hl19
    obtain ⟨v21, vs21, rfl, hl21⟩ := list_cons hl20
    obtain ⟨v22, vs22, rfl, hl22⟩ := list_cons hl21
    obtain ⟨v23, vs23, rfl, hl23⟩ := list_cons hl22
    obtain ⟨v24, vs24, rfl, hl24⟩ := list_cons hl23
    obtain ⟨v25, vs25, rfl, hl25⟩ := list_cons hl24
    obtain ⟨v26, vs26, rfl, hl26⟩ := list_cons hl25
    obtain ⟨v27, vs27, rfl, hl27⟩ := list_cons hl26
    obtain ⟨v28, vs28, rfl, hl28⟩ := list_cons hl27
    obtain ⟨v29, vs29, rfl, hl29⟩ := list_cons hl28
    obtain ⟨v30, vs30, rfl, hl30⟩ := list_cons hl29
    obtain ⟨v31, vs31, rfl, hl31⟩ := list_cons hl30
    obtain ⟨v32, vs32, rfl, hl32⟩ := list_cons hl31
    obtain ⟨v33, vs33, rfl, hl33⟩ := list_cons hl32
    obtain ⟨v34, vs34, rfl, hl34⟩ := list_cons hl33
    obtain ⟨v35, vs35, rfl, hl35⟩ := list_cons hl34
    obtain ⟨v36, vs36, rfl, hl36⟩ := list_cons hl35
    obtain ⟨v37, vs37, rfl, hl37⟩ := list_cons hl36
    obtain ⟨v38, vs38, rfl, hl38⟩ := list_cons hl37
    obtain ⟨v39, vs39, rfl, hl39⟩ := list_cons hl38
    obtain ⟨v40, vs40, rfl, hl40⟩ := list_cons hl39
    obtain ⟨v41, vs41, rfl, hl41⟩ := list_cons hl40
    obtain ⟨v42, vs42, rfl, hl42⟩ := list_cons hl41
    obtain rfl := list_nil hl42
    clear hl hl0 hl1 hl2 hl3 hl4 hl5 hl6 hl7 hl8 hl9 hl10 hl11 hl12 hl13 hl14 hl15 hl16 hl17 hl18 hl19 hl20 hl21 hl22 hl23 hl24 hl25 hl26 hl27 hl28 hl29 hl30 hl31 hl32 hl33 hl34 hl35 hl36 hl37 hl38 hl39 hl40 hl41 hl42
    obtain rfl : v42 = .bool true := hV 42 _ rfl
    have ha0 := HA0.out
    subst ha0
    clear HA0 hV hsz0 oe2 oe3 oe5 oe6
    simp only [putAll, Act.put, List.setIfInBounds_toArray, List.set_cons_zero, List.set_cons_succ]
    have KM4 := Lib.hid (KM3.out.trans hm (fun k hk h => by omega))
    clear hm hG
    go_wp2
    go_ret
    exact ⟨rfl, KM4.out⟩
  · have EQ := Lib.hid (show decide (a = b) = false from decide_eq_false heq)
    have MB := Lib.hid (show mhas (apS a 4) b = false by show mhas [(a, ())] b = _; rw [mhas_cons, EQ.out]; rfl)
    clear heq
    generalize ha0 : Act.mk _ _ = a0
    have oe2 : a0.eval (.tmp 2) = .pointer (some ⟨w.heap.size, 0, none⟩) := by rw [← ha0]; rfl
    have oe3 : a0.eval (.tmp 3) = .pointer (some ⟨w.heap.size + 1, 0, none⟩) := by rw [← ha0]; rfl
    have oe5 : a0.eval (.tmp 5) = .pointer (some ⟨g1, 0, none⟩) := by rw [← ha0]; rfl
    have oe6 : a0.eval (.tmp 6) = .pointer (some ⟨g2, 0, none⟩) := by rw [← ha0]; rfl
    have hsz0 : a0.tmps.size = 57 := by rw [← ha0]; rfl
    have HA0 := Lib.hid ha0
    clear ha0
    refine wp_region_J 57 hsz0 (by kernel_rfl) (by kernel_rfl) [15, 16, 17, 18, 19, 20, 21, 22, 23, 24, 25, 26, 27, 28, 29, 30, 31, 32, 33, 34, 35, 36, 37, 38, 39, 40, 41, 42, 43, 44, 45, 46, 47, 48, 49, 50, 51, 52, 53, 54, 55, 56, 4] (by kernel_rfl) (by decide) (fun k => k = b1 ∨ k = b2) [isv (.pointer (some ⟨g1, 0, none⟩)), isv (hv a), isv (.bool true), isv (.bool true), isv (.pointer (some ⟨g1, 0, none⟩)), isv (hv a), isv (.bool false), isv (.bool true), isv (.bool true), isv (.bool true), isv (.pointer (some ⟨g2, 0, none⟩)), isv (hv a), isv (.bool false), isv (.bool true), isv (.bool true), isv (.bool true), isv (.pointer (some ⟨g2, 0, none⟩)), isv (hv b), isv (.bool true), isv (.bool true), isv (.bool true), isv (.pointer (some ⟨g1, 0, none⟩)), isv (hv b), isv (.bool false), isv (hv a), isv (hv b), isv (.bool false), isv (.bool true), isv (.bool true), isv (.bool true), isv (.pointer (some ⟨g1, 0, none⟩)), isv (.int .i64 1), isv (.bool true), isv (.bool true), isv (.bool true), isv (.pointer (some ⟨g2, 0, none⟩)), isv (.int .i64 1), isv (.bool true), isv (.bool true), isv (.bool true), isv (.bool true), isv (.bool true), isv (.bool true)] ⟨isv_stableS, isv_stableS, isv_stableS, isv_stableS, isv_stableS, isv_stableS, isv_stableS, isv_stableS, isv_stableS, isv_stableS, isv_stableS, isv_stableS, isv_stableS, isv_stableS, isv_stableS, isv_stableS, isv_stableS, isv_stableS, isv_stableS, isv_stableS, isv_stableS, isv_stableS, isv_stableS, isv_stableS, isv_stableS, isv_stableS, isv_stableS, isv_stableS, isv_stableS, isv_stableS, isv_stableS, isv_stableS, isv_stableS, isv_stableS, isv_stableS, isv_stableS, isv_stableS, isv_stableS, isv_stableS, isv_stableS, isv_stableS, isv_stableS, isv_stableS, trivial⟩ [2, 6, 12, 18, 23, 31, 36] (by kernel_rfl) (by decide) (by kernel_rfl) (apG g1 b1 g2 b2 a b) apG_st HG0.out ⟨?_, ?_, ?_, ?_, ?_, ?_, ?_, ?_, ?_, ?_, ?_, ?_, ?_, ?_, ?_, ?_, ?_, ?_, ?_, ?_, ?_, ?_, ?_, ?_, ?_, ?_, ?_, ?_, ?_, ?_, ?_, ?_, ?_, ?_, ?_, ?_, ?_, ?_, ?_, ?_, ?_, ?_, ?_, trivial⟩ ?_
    · intro act w' hm hout hsz hd hG
      refine jv_pure (by decide) apG_st ?_
      exact lv_run rfl (wanted_none rfl) (ex_move rfl ((hout 5 (by decide)).trans oe5)) (Mod.refl _ _) rfl
    · intro act w' hm hout hsz hd hG
      refine jv_pure (by decide) apG_st ?_
      exact lv_run rfl (wanted_none rfl) (ex_loadA rfl Try.underlying26 rfl (off := 0) (cs := a.map bv) (by rw [List.length_map, HL_a.out]; exact size_hash) ((hout 2 (by decide)).trans oe2) (fun j u hu => by rw [Nat.zero_add, (KC_a.out.mod hm (by omega)).cell]; simpa using hu)) (Mod.refl _ _) rfl
    · intro act w' hm hout hsz hd hG
      have h0 := hd ⟨0, .data⟩ (by simp) rfl _ rfl
      have h1 := hd ⟨1, .data⟩ (by simp) rfl _ rfl
      have hg := hG 0 rfl
      refine jv_call (k := 0) (args := #[.pointer (some ⟨g1, 0, none⟩), hv a]) rfl (wanted_none rfl) (by rw [ex_callF rfl Try.func31 (by kernel_rfl) (by kernel_rfl)]; exact congrArg (fun z => Result.ok (Next.enter _ z) _) (by simp only [List.map_toArray, List.map_cons, List.map_nil, show act.eval (.tmp 15) = _ from h0, show act.eval (.tmp 16) = _ from h1]; try rfl)) (Set_add hg.1 HK_a.out) (by decide) rfl ?_
      rintro e w2 ⟨rfl, hs, hm2⟩
      exact ⟨_, rfl, hm2.mono (fun _ _ h => Or.inl h), rfl, ⟨hs, hg.2.mod hm2 d1 d2⟩⟩
    · intro act w' hm hout hsz hd hG
      have h2 := hd ⟨2, .data⟩ (by simp) rfl _ rfl
      refine jv_pure (by decide) apG_st ?_
      exact lv_run rfl (wanted_none rfl) (ex_move rfl h2) (Mod.refl _ _) rfl
    · intro act w' hm hout hsz hd hG
      have h3 := hd ⟨3, .guard⟩ (by simp) rfl _ rfl
      refine jv_pure (by decide) apG_st ?_
      exact lv_run rfl ((wanted_of rfl rfl (hsz 18 (by decide)) h3).trans rfl) (ex_move rfl ((hout 5 (by decide)).trans oe5)) (Mod.refl _ _) rfl
    · intro act w' hm hout hsz hd hG
      have h3 := hd ⟨3, .guard⟩ (by simp) rfl _ rfl
      refine jv_pure (by decide) apG_st ?_
      exact lv_run rfl ((wanted_of rfl rfl (hsz 18 (by decide)) h3).trans rfl) (ex_loadA rfl Try.underlying26 rfl (off := 0) (cs := a.map bv) (by rw [List.length_map, HL_a.out]; exact size_hash) ((hout 2 (by decide)).trans oe2) (fun j u hu => by rw [Nat.zero_add, (KC_a.out.mod hm (by omega)).cell]; simpa using hu)) (Mod.refl _ _) rfl
    · intro act w' hm hout hsz hd hG
      have h3 := hd ⟨3, .guard⟩ (by simp) rfl _ rfl
      have h4 := hd ⟨4, .data⟩ (by simp) rfl _ rfl
      have h5 := hd ⟨5, .data⟩ (by simp) rfl _ rfl
      have hg := hG 1 rfl
      refine jv_call (k := 1) (args := #[.pointer (some ⟨g1, 0, none⟩), hv a]) rfl ((wanted_of rfl rfl (hsz 18 (by decide)) h3).trans rfl) (by rw [ex_callF rfl Try.func31 (by kernel_rfl) (by kernel_rfl)]; exact congrArg (fun z => Result.ok (Next.enter _ z) _) (by simp only [List.map_toArray, List.map_cons, List.map_nil, show act.eval (.tmp 19) = _ from h4, show act.eval (.tmp 20) = _ from h5]; try rfl)) (Set_add hg.1 HK_a.out) (by decide) rfl ?_
      rintro e w2 ⟨rfl, hs, hm2⟩
      exact ⟨_, rfl, hm2.mono (fun _ _ h => Or.inl h), congrArg (fun z => Value.bool (!z)) MA.out, ⟨by rw [mput_same (show mhas (apS a 1) a = true from MA.out)] at hs; exact hs, hg.2.mod hm2 d1 d2⟩⟩
    · intro act w' hm hout hsz hd hG
      have h3 := hd ⟨3, .guard⟩ (by simp) rfl _ rfl
      have h6 := hd ⟨6, .data⟩ (by simp) rfl _ rfl
      refine jv_pure (by decide) apG_st ?_
      exact lv_run rfl ((wanted_of rfl rfl (hsz 18 (by decide)) h3).trans rfl) (ex_not rfl h6) (Mod.refl _ _) rfl
    · intro act w' hm hout hsz hd hG
      have h3 := hd ⟨3, .data⟩ (by simp) rfl _ rfl
      have h7 := hd ⟨7, .data⟩ (by simp) rfl _ rfl
      refine jv_pure (by decide) apG_st ?_
      exact lv_run rfl (wanted_none rfl) (ex_pick rfl h3 h7 rfl) (Mod.refl _ _) rfl
    · intro act w' hm hout hsz hd hG
      have h8 := hd ⟨8, .data⟩ (by simp) rfl _ rfl
      refine jv_pure (by decide) apG_st ?_
      exact lv_run rfl (wanted_none rfl) (ex_move rfl h8) (Mod.refl _ _) rfl
    · intro act w' hm hout hsz hd hG
      have h9 := hd ⟨9, .guard⟩ (by simp) rfl _ rfl
      refine jv_pure (by decide) apG_st ?_
      exact lv_run rfl ((wanted_of rfl rfl (hsz 24 (by decide)) h9).trans rfl) (ex_move rfl ((hout 6 (by decide)).trans oe6)) (Mod.refl _ _) rfl
    · intro act w' hm hout hsz hd hG
      have h9 := hd ⟨9, .guard⟩ (by simp) rfl _ rfl
      refine jv_pure (by decide) apG_st ?_
      exact lv_run rfl ((wanted_of rfl rfl (hsz 24 (by decide)) h9).trans rfl) (ex_loadA rfl Try.underlying26 rfl (off := 0) (cs := a.map bv) (by rw [List.length_map, HL_a.out]; exact size_hash) ((hout 2 (by decide)).trans oe2) (fun j u hu => by rw [Nat.zero_add, (KC_a.out.mod hm (by omega)).cell]; simpa using hu)) (Mod.refl _ _) rfl
    · intro act w' hm hout hsz hd hG
      have h9 := hd ⟨9, .guard⟩ (by simp) rfl _ rfl
      have h10 := hd ⟨10, .data⟩ (by simp) rfl _ rfl
      have h11 := hd ⟨11, .data⟩ (by simp) rfl _ rfl
      have hg := hG 2 rfl
      refine jv_call (k := 2) (args := #[.pointer (some ⟨g2, 0, none⟩), hv a]) rfl ((wanted_of rfl rfl (hsz 24 (by decide)) h9).trans rfl) (by rw [ex_callF rfl Try.func30 (by kernel_rfl) (by kernel_rfl)]; exact congrArg (fun z => Result.ok (Next.enter _ z) _) (by simp only [List.map_toArray, List.map_cons, List.map_nil, show act.eval (.tmp 25) = _ from h10, show act.eval (.tmp 26) = _ from h11]; try rfl)) (Set_has hg.2 HK_a.out) (by decide) rfl ?_
      rintro e w2 ⟨rfl, hm2⟩
      exact ⟨_, rfl, hm2.mono (fun _ _ h => h.elim), rfl, apG_st 2 _ _ hg hm2⟩
    · intro act w' hm hout hsz hd hG
      have h9 := hd ⟨9, .guard⟩ (by simp) rfl _ rfl
      have h12 := hd ⟨12, .data⟩ (by simp) rfl _ rfl
      refine jv_pure (by decide) apG_st ?_
      exact lv_run rfl ((wanted_of rfl rfl (hsz 24 (by decide)) h9).trans rfl) (ex_not rfl h12) (Mod.refl _ _) rfl
    · intro act w' hm hout hsz hd hG
      have h9 := hd ⟨9, .data⟩ (by simp) rfl _ rfl
      have h13 := hd ⟨13, .data⟩ (by simp) rfl _ rfl
      refine jv_pure (by decide) apG_st ?_
      exact lv_run rfl (wanted_none rfl) (ex_pick rfl h9 h13 rfl) (Mod.refl _ _) rfl
    · intro act w' hm hout hsz hd hG
      have h14 := hd ⟨14, .data⟩ (by simp) rfl _ rfl
      refine jv_pure (by decide) apG_st ?_
      exact lv_run rfl (wanted_none rfl) (ex_move rfl h14) (Mod.refl _ _) rfl
    · intro act w' hm hout hsz hd hG
      have h15 := hd ⟨15, .guard⟩ (by simp) rfl _ rfl
      refine jv_pure (by decide) apG_st ?_
      exact lv_run rfl ((wanted_of rfl rfl (hsz 30 (by decide)) h15).trans rfl) (ex_move rfl ((hout 6 (by decide)).trans oe6)) (Mod.refl _ _) rfl
    · intro act w' hm hout hsz hd hG
      have h15 := hd ⟨15, .guard⟩ (by simp) rfl _ rfl
      refine jv_pure (by decide) apG_st ?_
      exact lv_run rfl ((wanted_of rfl rfl (hsz 30 (by decide)) h15).trans rfl) (ex_loadA rfl Try.underlying26 rfl (off := 0) (cs := b.map bv) (by rw [List.length_map, HL_b.out]; exact size_hash) ((hout 3 (by decide)).trans oe3) (fun j u hu => by rw [Nat.zero_add, (KC_b.out.mod hm (by omega)).cell]; simpa using hu)) (Mod.refl _ _) rfl
    · intro act w' hm hout hsz hd hG
      have h15 := hd ⟨15, .guard⟩ (by simp) rfl _ rfl
      have h16 := hd ⟨16, .data⟩ (by simp) rfl _ rfl
      have h17 := hd ⟨17, .data⟩ (by simp) rfl _ rfl
      have hg := hG 3 rfl
      refine jv_call (k := 3) (args := #[.pointer (some ⟨g2, 0, none⟩), hv b]) rfl ((wanted_of rfl rfl (hsz 30 (by decide)) h15).trans rfl) (by rw [ex_callF rfl Try.func31 (by kernel_rfl) (by kernel_rfl)]; exact congrArg (fun z => Result.ok (Next.enter _ z) _) (by simp only [List.map_toArray, List.map_cons, List.map_nil, show act.eval (.tmp 31) = _ from h16, show act.eval (.tmp 32) = _ from h17]; try rfl)) (Set_add hg.2 HK_b.out) (by decide) rfl ?_
      rintro e w2 ⟨rfl, hs, hm2⟩
      exact ⟨_, rfl, hm2.mono (fun _ _ h => Or.inr h), rfl, ⟨hg.1.mod hm2 d3 d4, hs⟩⟩
    · intro act w' hm hout hsz hd hG
      have h15 := hd ⟨15, .data⟩ (by simp) rfl _ rfl
      have h18 := hd ⟨18, .data⟩ (by simp) rfl _ rfl
      refine jv_pure (by decide) apG_st ?_
      exact lv_run rfl (wanted_none rfl) (ex_pick rfl h15 h18 rfl) (Mod.refl _ _) rfl
    · intro act w' hm hout hsz hd hG
      have h19 := hd ⟨19, .data⟩ (by simp) rfl _ rfl
      refine jv_pure (by decide) apG_st ?_
      exact lv_run rfl (wanted_none rfl) (ex_move rfl h19) (Mod.refl _ _) rfl
    · intro act w' hm hout hsz hd hG
      have h20 := hd ⟨20, .guard⟩ (by simp) rfl _ rfl
      refine jv_pure (by decide) apG_st ?_
      exact lv_run rfl ((wanted_of rfl rfl (hsz 35 (by decide)) h20).trans rfl) (ex_move rfl ((hout 5 (by decide)).trans oe5)) (Mod.refl _ _) rfl
    · intro act w' hm hout hsz hd hG
      have h20 := hd ⟨20, .guard⟩ (by simp) rfl _ rfl
      refine jv_pure (by decide) apG_st ?_
      exact lv_run rfl ((wanted_of rfl rfl (hsz 35 (by decide)) h20).trans rfl) (ex_loadA rfl Try.underlying26 rfl (off := 0) (cs := b.map bv) (by rw [List.length_map, HL_b.out]; exact size_hash) ((hout 3 (by decide)).trans oe3) (fun j u hu => by rw [Nat.zero_add, (KC_b.out.mod hm (by omega)).cell]; simpa using hu)) (Mod.refl _ _) rfl
    · intro act w' hm hout hsz hd hG
      have h20 := hd ⟨20, .guard⟩ (by simp) rfl _ rfl
      have h21 := hd ⟨21, .data⟩ (by simp) rfl _ rfl
      have h22 := hd ⟨22, .data⟩ (by simp) rfl _ rfl
      have hg := hG 4 rfl
      refine jv_call (k := 4) (args := #[.pointer (some ⟨g1, 0, none⟩), hv b]) rfl ((wanted_of rfl rfl (hsz 35 (by decide)) h20).trans rfl) (by rw [ex_callF rfl Try.func30 (by kernel_rfl) (by kernel_rfl)]; exact congrArg (fun z => Result.ok (Next.enter _ z) _) (by simp only [List.map_toArray, List.map_cons, List.map_nil, show act.eval (.tmp 36) = _ from h21, show act.eval (.tmp 37) = _ from h22]; try rfl)) (Set_has hg.1 HK_b.out) (by decide) rfl ?_
      rintro e w2 ⟨rfl, hm2⟩
      exact ⟨_, rfl, hm2.mono (fun _ _ h => h.elim), congrArg Value.bool MB.out, apG_st 4 _ _ hg hm2⟩
    · intro act w' hm hout hsz hd hG
      have h20 := hd ⟨20, .guard⟩ (by simp) rfl _ rfl
      refine jv_pure (by decide) apG_st ?_
      exact lv_run rfl ((wanted_of rfl rfl (hsz 35 (by decide)) h20).trans rfl) (ex_loadA rfl Try.underlying26 rfl (off := 0) (cs := a.map bv) (by rw [List.length_map, HL_a.out]; exact size_hash) ((hout 2 (by decide)).trans oe2) (fun j u hu => by rw [Nat.zero_add, (KC_a.out.mod hm (by omega)).cell]; simpa using hu)) (Mod.refl _ _) rfl
    · intro act w' hm hout hsz hd hG
      have h20 := hd ⟨20, .guard⟩ (by simp) rfl _ rfl
      refine jv_pure (by decide) apG_st ?_
      exact lv_run rfl ((wanted_of rfl rfl (hsz 35 (by decide)) h20).trans rfl) (ex_loadA rfl Try.underlying26 rfl (off := 0) (cs := b.map bv) (by rw [List.length_map, HL_b.out]; exact size_hash) ((hout 3 (by decide)).trans oe3) (fun j u hu => by rw [Nat.zero_add, (KC_b.out.mod hm (by omega)).cell]; simpa using hu)) (Mod.refl _ _) rfl
    · intro act w' hm hout hsz hd hG
      have h20 := hd ⟨20, .guard⟩ (by simp) rfl _ rfl
      have h24 := hd ⟨24, .data⟩ (by simp) rfl _ rfl
      have h25 := hd ⟨25, .data⟩ (by simp) rfl _ rfl
      refine jv_pure (by decide) apG_st ?_
      exact lv_run rfl ((wanted_of rfl rfl (hsz 35 (by decide)) h20).trans rfl) (ex_bin rfl h24 h25 (hv_guard2 _ _ _ _ _ _) (run_eql_ints _ 26 5 32 Try.underlying26 Try.underlying5 (by kernel_rfl) a b HL_a.out HL_b.out)) (Mod.refl _ _) (congrArg Value.bool EQ.out)
    · intro act w' hm hout hsz hd hG
      have h20 := hd ⟨20, .guard⟩ (by simp) rfl _ rfl
      have h23 := hd ⟨23, .data⟩ (by simp) rfl _ rfl
      have h26 := hd ⟨26, .data⟩ (by simp) rfl _ rfl
      refine jv_pure (by decide) apG_st ?_
      exact lv_run rfl ((wanted_of rfl rfl (hsz 35 (by decide)) h20).trans rfl) (ex_bin rfl h23 h26 (guard_bools _ _ _ _ _ _) (run_eql_bools _ _ _ Try.underlying4)) (Mod.refl _ _) rfl
    · intro act w' hm hout hsz hd hG
      have h20 := hd ⟨20, .data⟩ (by simp) rfl _ rfl
      have h27 := hd ⟨27, .data⟩ (by simp) rfl _ rfl
      refine jv_pure (by decide) apG_st ?_
      exact lv_run rfl (wanted_none rfl) (ex_pick rfl h20 h27 rfl) (Mod.refl _ _) rfl
    · intro act w' hm hout hsz hd hG
      have h28 := hd ⟨28, .data⟩ (by simp) rfl _ rfl
      refine jv_pure (by decide) apG_st ?_
      exact lv_run rfl (wanted_none rfl) (ex_move rfl h28) (Mod.refl _ _) rfl
    · intro act w' hm hout hsz hd hG
      have h29 := hd ⟨29, .guard⟩ (by simp) rfl _ rfl
      refine jv_pure (by decide) apG_st ?_
      exact lv_run rfl ((wanted_of rfl rfl (hsz 44 (by decide)) h29).trans rfl) (ex_move rfl ((hout 5 (by decide)).trans oe5)) (Mod.refl _ _) rfl
    · intro act w' hm hout hsz hd hG
      have h29 := hd ⟨29, .guard⟩ (by simp) rfl _ rfl
      have h30 := hd ⟨30, .data⟩ (by simp) rfl _ rfl
      have hg := hG 5 rfl
      refine jv_call (k := 5) (args := #[.pointer (some ⟨g1, 0, none⟩)]) rfl ((wanted_of rfl rfl (hsz 44 (by decide)) h29).trans rfl) (by rw [ex_callF rfl Try.func32 (by kernel_rfl) (by kernel_rfl)]; exact congrArg (fun z => Result.ok (Next.enter _ z) _) (by simp only [List.map_toArray, List.map_cons, List.map_nil, show act.eval (.tmp 45) = _ from h30]; try rfl)) (Set_len hg.1) (by decide) rfl ?_
      rintro e w2 ⟨rfl, hm2⟩
      exact ⟨_, rfl, hm2.mono (fun _ _ h => h.elim), rfl, apG_st 5 _ _ hg hm2⟩
    · intro act w' hm hout hsz hd hG
      have h29 := hd ⟨29, .guard⟩ (by simp) rfl _ rfl
      have h31 := hd ⟨31, .data⟩ (by simp) rfl _ rfl
      refine jv_pure (by decide) apG_st ?_
      exact lv_run rfl ((wanted_of rfl rfl (hsz 44 (by decide)) h29).trans rfl) (ex_bin rfl h31 rfl (guard_ints _ _ _ _ _ _) (run_eql_i _ _ _ Try.underlying3)) (Mod.refl _ _) rfl
    · intro act w' hm hout hsz hd hG
      have h29 := hd ⟨29, .data⟩ (by simp) rfl _ rfl
      have h32 := hd ⟨32, .data⟩ (by simp) rfl _ rfl
      refine jv_pure (by decide) apG_st ?_
      exact lv_run rfl (wanted_none rfl) (ex_pick rfl h29 h32 rfl) (Mod.refl _ _) rfl
    · intro act w' hm hout hsz hd hG
      have h33 := hd ⟨33, .data⟩ (by simp) rfl _ rfl
      refine jv_pure (by decide) apG_st ?_
      exact lv_run rfl (wanted_none rfl) (ex_move rfl h33) (Mod.refl _ _) rfl
    · intro act w' hm hout hsz hd hG
      have h34 := hd ⟨34, .guard⟩ (by simp) rfl _ rfl
      refine jv_pure (by decide) apG_st ?_
      exact lv_run rfl ((wanted_of rfl rfl (hsz 49 (by decide)) h34).trans rfl) (ex_move rfl ((hout 6 (by decide)).trans oe6)) (Mod.refl _ _) rfl
    · intro act w' hm hout hsz hd hG
      have h34 := hd ⟨34, .guard⟩ (by simp) rfl _ rfl
      have h35 := hd ⟨35, .data⟩ (by simp) rfl _ rfl
      have hg := hG 6 rfl
      refine jv_call (k := 6) (args := #[.pointer (some ⟨g2, 0, none⟩)]) rfl ((wanted_of rfl rfl (hsz 49 (by decide)) h34).trans rfl) (by rw [ex_callF rfl Try.func32 (by kernel_rfl) (by kernel_rfl)]; exact congrArg (fun z => Result.ok (Next.enter _ z) _) (by simp only [List.map_toArray, List.map_cons, List.map_nil, show act.eval (.tmp 50) = _ from h35]; try rfl)) (Set_len hg.2) (by decide) rfl ?_
      rintro e w2 ⟨rfl, hm2⟩
      exact ⟨_, rfl, hm2.mono (fun _ _ h => h.elim), rfl, apG_st 6 _ _ hg hm2⟩
    · intro act w' hm hout hsz hd hG
      have h34 := hd ⟨34, .guard⟩ (by simp) rfl _ rfl
      have h36 := hd ⟨36, .data⟩ (by simp) rfl _ rfl
      refine jv_pure (by decide) apG_st ?_
      exact lv_run rfl ((wanted_of rfl rfl (hsz 49 (by decide)) h34).trans rfl) (ex_bin rfl h36 rfl (guard_ints _ _ _ _ _ _) (run_eql_i _ _ _ Try.underlying3)) (Mod.refl _ _) rfl
    · intro act w' hm hout hsz hd hG
      have h34 := hd ⟨34, .data⟩ (by simp) rfl _ rfl
      have h37 := hd ⟨37, .data⟩ (by simp) rfl _ rfl
      refine jv_pure (by decide) apG_st ?_
      exact lv_run rfl (wanted_none rfl) (ex_pick rfl h34 h37 rfl) (Mod.refl _ _) rfl
    · intro act w' hm hout hsz hd hG
      have h38 := hd ⟨38, .data⟩ (by simp) rfl _ rfl
      refine jv_pure (by decide) apG_st ?_
      exact lv_run rfl (wanted_none rfl) (ex_move rfl h38) (Mod.refl _ _) rfl
    · intro act w' hm hout hsz hd hG
      have h39 := hd ⟨39, .guard⟩ (by simp) rfl _ rfl
      refine jv_pure (by decide) apG_st ?_
      refine lv_call (args := #[]) rfl ((wanted_of rfl rfl (hsz 54 (by decide)) h39).trans rfl) (by rw [ex_callF rfl Try.func19 (by kernel_rfl) (by kernel_rfl)]; simp) (wakes02 _) ?_
      rintro e w2 ⟨rfl, hm2⟩
      exact ⟨_, rfl, hm2, rfl⟩
    · intro act w' hm hout hsz hd hG
      have h39 := hd ⟨39, .data⟩ (by simp) rfl _ rfl
      have h40 := hd ⟨40, .data⟩ (by simp) rfl _ rfl
      refine jv_pure (by decide) apG_st ?_
      exact lv_run rfl (wanted_none rfl) (ex_pick rfl h39 h40 rfl) (Mod.refl _ _) rfl
    · intro act w' hm hout hsz hd hG
      have h41 := hd ⟨41, .data⟩ (by simp) rfl _ rfl
      refine jv_pure (by decide) apG_st ?_
      exact lv_run rfl (wanted_none rfl) (ex_assign rfl h41) (Mod.refl _ _) rfl
    intro vs w4 hl hm hG hV
    obtain ⟨v0, vs0, rfl, hl0⟩ := list_cons hl
    obtain ⟨v1, vs1, rfl, hl1⟩ := list_cons hl0
    obtain ⟨v2, vs2, rfl, hl2⟩ := list_cons hl1
    obtain ⟨v3, vs3, rfl, hl3⟩ := list_cons hl2
    obtain ⟨v4, vs4, rfl, hl4⟩ := list_cons hl3
    obtain ⟨v5, vs5, rfl, hl5⟩ := list_cons hl4
    obtain ⟨v6, vs6, rfl, hl6⟩ := list_cons hl5
    obtain ⟨v7, vs7, rfl, hl7⟩ := list_cons hl6
    obtain ⟨v8, vs8, rfl, hl8⟩ := list_cons hl7
    obtain ⟨v9, vs9, rfl, hl9⟩ := list_cons hl8
    obtain ⟨v10, vs10, rfl, hl10⟩ := list_cons hl9
    obtain ⟨v11, vs11, rfl, hl11⟩ := list_cons hl10
    obtain ⟨v12, vs12, rfl, hl12⟩ := list_cons hl11
    obtain ⟨v13, vs13, rfl, hl13⟩ := list_cons hl12
    obtain ⟨v14, vs14, rfl, hl14⟩ := list_cons hl13
    obtain ⟨v15, vs15, rfl, hl15⟩ := list_cons hl14
    obtain ⟨v16, vs16, rfl, hl16⟩ := list_cons hl15
    obtain ⟨v17, vs17, rfl, hl17⟩ := list_cons hl16
    obtain ⟨v18, vs18, rfl, hl18⟩ := list_cons hl17
    obtain ⟨v19, vs19, rfl, hl19⟩ := list_cons hl18
    obtain ⟨v20, vs20, rfl, hl20⟩ := list_cons hl19
    obtain ⟨v21, vs21, rfl, hl21⟩ := list_cons hl20
    obtain ⟨v22, vs22, rfl, hl22⟩ := list_cons hl21
    obtain ⟨v23, vs23, rfl, hl23⟩ := list_cons hl22
    obtain ⟨v24, vs24, rfl, hl24⟩ := list_cons hl23
    obtain ⟨v25, vs25, rfl, hl25⟩ := list_cons hl24
    obtain ⟨v26, vs26, rfl, hl26⟩ := list_cons hl25
    obtain ⟨v27, vs27, rfl, hl27⟩ := list_cons hl26
    obtain ⟨v28, vs28, rfl, hl28⟩ := list_cons hl27
    obtain ⟨v29, vs29, rfl, hl29⟩ := list_cons hl28
    obtain ⟨v30, vs30, rfl, hl30⟩ := list_cons hl29
    obtain ⟨v31, vs31, rfl, hl31⟩ := list_cons hl30
    obtain ⟨v32, vs32, rfl, hl32⟩ := list_cons hl31
    obtain ⟨v33, vs33, rfl, hl33⟩ := list_cons hl32
    obtain ⟨v34, vs34, rfl, hl34⟩ := list_cons hl33
    obtain ⟨v35, vs35, rfl, hl35⟩ := list_cons hl34
    obtain ⟨v36, vs36, rfl, hl36⟩ := list_cons hl35
    obtain ⟨v37, vs37, rfl, hl37⟩ := list_cons hl36
    obtain ⟨v38, vs38, rfl, hl38⟩ := list_cons hl37
    obtain ⟨v39, vs39, rfl, hl39⟩ := list_cons hl38
    obtain ⟨v40, vs40, rfl, hl40⟩ := list_cons hl39
    obtain ⟨v41, vs41, rfl, hl41⟩ := list_cons hl40
    obtain ⟨v42, vs42, rfl, hl42⟩ := list_cons hl41
    obtain rfl := list_nil hl42
    clear hl hl0 hl1 hl2 hl3 hl4 hl5 hl6 hl7 hl8 hl9 hl10 hl11 hl12 hl13 hl14 hl15 hl16 hl17 hl18 hl19 hl20 hl21 hl22 hl23 hl24 hl25 hl26 hl27 hl28 hl29 hl30 hl31 hl32 hl33 hl34 hl35 hl36 hl37 hl38 hl39 hl40 hl41 hl42
    obtain rfl : v42 = .bool true := hV 42 _ rfl
    have ha0 := HA0.out
    subst ha0
    clear HA0 hV hsz0 oe2 oe3 oe5 oe6
    simp only [putAll, Act.put, List.setIfInBounds_toArray, List.set_cons_zero, List.set_cons_succ]
    have KM4 := Lib.hid (KM3.out.trans hm (fun k hk h => by omega))
    clear hm hG
    go_wp2
    go_ret
    exact ⟨rfl, KM4.out⟩
end Go.Proofs.Ytfgepphankfbfaa
