/- ShaBlocks: the walk. -/
import Derived.Test.YtfgepphankfbfaaSha6
import Derived.Test.YtfgepphankfbfaaSha8
import Derived.Test.YtfgepphankfbfaaKop
import Derived.Test.YtfgepphankfbfaaKeep2
import Derived.Test.YtfgepphankfbfaaNums
set_option maxRecDepth 100000
set_option linter.unusedVariables false
namespace Go.Proofs.Ytfgepphankfbfaa
open Go Go.RowKit Go.Gv

def AppSt (B m : Nat) (X : List Int) : Nat → List Value → World → Prop := fun k t w => match k with
  | 1 => ∃ c, t[0]? = some c ∧ OwnB w c X ∧ (∀ g, c.ownBlock = some g → B ≤ g) ∧ ∃ ao cap, c = .slice ao X.length cap
  | 2 => ∃ c, t[1]? = some c ∧ RdB w c (X ++ [0])
  | 3 => ∃ c, t[2]? = some c ∧ OwnB w c X ∧ (∀ g, c.ownBlock = some g → B ≤ g) ∧ ∃ ao cap, c = .slice ao X.length cap
  | 4 => ∃ c, t[3]? = some c ∧ RdB w c (X ++ [0])
  | 0 => True
  | _ + 5 => False
theorem AppSt_still {B m : Nat} {X : List Int} : ∀ k t w w', AppSt B m X k t w → Mod (fun _ => False) w w' → AppSt B m X k t w' := by
  intro k t w w' h hm
  match k, h with
  | 0, _ => trivial
  | 1, h | 3, h => obtain ⟨c, h1, h2, h3, h4⟩ := h; exact ⟨c, h1, h2.mod hm (fun _ _ h => h), h3, h4⟩
  | 2, h | 4, h => obtain ⟨c, h1, h2⟩ := h; exact ⟨c, h1, h2.mod hm (fun _ _ _ h => h)⟩
  | k + 5, h => exact h
theorem AppSt.le {B m : Nat} {X : List Int} {t : List Value} {w : World} (h : ByLen (AppSt B m X) t w) : t.length ≤ 4 := by
  rcases Nat.lt_or_ge t.length 5 with h5 | h5
  · omega
  · obtain ⟨k, hk⟩ : ∃ k, t.length = k + 5 := ⟨t.length - 5, by omega⟩
    exact (show False from h.at hk).elim
def fills (fill : Int) (m i : Nat) : List Int := List.replicate i fill ++ List.replicate (m - i) 0
theorem fills_len (fill : Int) (m i : Nat) (h : i ≤ m) : (fills fill m i).length = m := by simp [fills]; omega
theorem fills_set (fill : Int) (m i : Nat) (h : i < m) : (fills fill m i).set i fill = fills fill m (i + 1) := by
  unfold fills
  rw [List.set_append_right _ _ (by simp), List.length_replicate, Nat.sub_self, List.replicate_succ', List.append_assoc]
  congr 1
  obtain ⟨k, hk⟩ : ∃ k, m - i = k + 1 := ⟨m - i - 1, by omega⟩
  rw [hk, show m - (i + 1) = k by omega, List.replicate_succ]
  rfl
set_option maxHeartbeats 8000000 in
theorem ShaBlocks_walk (n fill : Int) (ps : List Int) (v : Value) (hn : -9223372036854775808 ≤ n ∧ n ≤ 9223372036854775807) (hf : 0 ≤ fill ∧ fill < 256) (w : World) (hr : RdR (fun k => k < w.heap.size) ps.length w v ps) :
    Calls Try.prog 3 #[.int .i64 n, .int .u8 fill, v] w fun e w' => e = .returned (.bool true) ∧ Mod (fun _ => False) w w' := by
  have HF := Lib.hid hf
  have HR0 := Lib.hid hr
  have HWI := Lib.hid (Within_any n 90 (by omega) (by omega) hn w)
  obtain ⟨kn, hkn, hkl⟩ := within_nat n 90 (by omega)
  rw [hkn] at HWI
  clear hf hr hn hkn
  go_enter Try.func3, Try.ntmps3
  go_wp2_with fail
  refine HWI.out.mono ?_
  rintro e w0 ⟨rfl, rfl⟩
  clear HWI
  go_upto_region 2 with (fail)
  obtain ⟨m, hm⟩ : ∃ m : Nat, m = 50 + kn := ⟨_, rfl⟩
  rw [show (50 : Int) + (kn : Int) = ((m : Nat) : Int) by omega]
  have HM5 := Lib.hid (show 50 ≤ m by omega)
  have hm140 : m < 140 := by omega
  have HMM := Lib.hid (show m ≤ 1000000 by omega)
  clear hm hkl
  have HRm := Lib.hid (show m ≤ Room by unfold Room; omega)
  go_wp2_with (at_make; go_must (refine wpList_makeB rfl (.tmp 12) (.tmp 12) rfl m m rfl rfl rfl rfl (Nat.le_refl _) HRm.out ?_))
  obtain ⟨w1, hw1⟩ : ∃ z, z = w.alloc (.cells (Array.replicate m (bv 0)) 5) := ⟨_, rfl⟩
  rw [← hw1]
  obtain ⟨g7, hg7⟩ : ∃ g, g = w.heap.size := ⟨_, rfl⟩
  rw [← hg7]
  have KX1 := Lib.hid (show Cs w1 g7 ((fills fill m 0).map bv).toArray 5 by rw [hw1, hg7, show ((fills fill m 0).map bv).toArray = Array.replicate m (bv 0) by simp [fills]]; exact Cs.new _ _ _)
  have KM1 := Lib.hid (show Mod (fun _ => False) w w1 by rw [hw1]; exact (Mod.refl _ _).alloc _)
  have hs1 : w1.heap.size = g7 + 1 := by rw [hw1, hg7]; simp
  have HG7 := Lib.hid hg7
  clear hw1 hg7
  go_wp2
  go_loopw [16] (fun t16 wr => ∃ (i : Nat), t16 = .int .i64 i ∧ i ≤ m ∧ Cs wr g7 ((fills fill m i).map bv).toArray 5 ∧ Mod (fun _ => False) w wr) (fun t16 _ => m - (intOf t16).toNat)
  case atStart => exact ⟨0, rfl, by omega, KX1.out, KM1.out⟩
  case round =>
    obtain ⟨w2, rfl⟩ : ∃ x, x = wr := ⟨_, rfl⟩
    obtain ⟨i, rfl, hi, hX, hm⟩ := hrel
    have KX := Lib.hid hX
    have KM := Lib.hid hm
    clear hX hm KX1 KM1
    by_cases hlt : i < m
    · have hc : w2.cell? ⟨g7, i, none⟩ = some (bv ((fills fill m i)[i]'(by rw [fills_len _ _ _ hi]; omega))) := by
        rw [KX.out.cell]; simp
      have hf := KX.out.frozen i
      generalize (fills fill m i)[i]'(by rw [fills_len _ _ _ hi]; omega) = old at hc
      go_wp2
      go_roundw
      case rel =>
        refine ⟨i + 1, by go_num, by omega, ?_, KM.out.setCell (fun h => by have := HG7.out; simp at h; omega) _⟩
        have := KX.out.set i (bv fill)
        rw [← fills_set fill m i hlt]
        simpa [List.map_set] using this
      case measure => first | (simp [intOf]; done) | (simp [intOf]; omega)
    · obtain rfl : i = m := by omega
      obtain ⟨FL, hFL⟩ : ∃ FL, FL = fills fill i i := ⟨_, rfl⟩
      have HFLl := Lib.hid (show FL.length = i by rw [hFL]; exact fills_len _ _ _ (Nat.le_refl _))
      have HFLb := Lib.hid (show Bytes FL by rw [hFL]; intro y hy; simp [fills] at hy; rw [hy.2]; exact HF.out)
      rw [← hFL] at KX
      clear hFL
      go_wp2_with fail
      refine (Cut_R i (HR0.out.mod KM.out (fun _ _ h => h)) HMM.out).mono ?_
      rintro e w3 ⟨v', rfl, ho, hm3⟩
      obtain ⟨bs, hbs⟩ : ∃ bs, bs = ps.take i := ⟨_, rfl⟩
      rw [← hbs] at ho
      have HLB := Lib.hid (show bs.length ≤ i from ho.2.2)
      obtain ⟨ao, cap, hv0⟩ := ho.shape
      have HO := Lib.hid ho.1.rd
      have KX3 := Lib.hid (KX.out.mod hm3 (fun h => h))
      have KM3 := Lib.hid (KM.out.trans hm3 (fun _ _ h => h))
      have z3 := hm3.size
      have zx := KX.out.lt
      obtain ⟨X, hX⟩ : ∃ X, X = bs ++ FL.drop bs.length := ⟨_, rfl⟩
      have HXL := Lib.hid (show X.length = i by have := HLB.out; rw [hX, List.length_append, List.length_drop, HFLl.out]; omega)
      have HXB := Lib.hid (show Bytes X by rw [hX]; exact HO.out.1.append (HFLb.out.drop _))
      have HXE := Lib.hid hX
      clear ho hm3 hbs KX KM HR0 hX
      subst hv0
      have HN := Lib.hid (show bs.length ≤ FL.length by have := HLB.out; have := HFLl.out; omega)
      go_wp2_with ((with_reducible show wpList _ _ _ (Oper.mk (some 28) _ _ _ _ _ :: _) _ _); go_must (refine wpList_copyB rfl (.tmp 24) (.tmp 27) rfl KX3.out HO.out rfl rfl HLB.out HN.out ?_))
      intro w4 hc4 hm4
      rw [← List.map_drop, ← List.map_append, ← HXE.out] at hc4
      have KM4 := Lib.hid (KM3.out.trans hm4 (fun k h1 h2 => by have := HG7.out; omega))
      have hrd : RdB w4 (.slice (some ⟨g7, 0, none⟩) i i) X := ⟨HXB.out, by
        have := HXL.out
        rw [← this]
        exact Rd.mk (Nat.le_refl _) (by rw [maxLen_val]; omega) (by simp) fun j y hy => by rw [Nat.zero_add, Cs.cell hc4]; simpa using hy⟩
      have z4 := hm4.size
      have HX := Lib.hid hrd
      have HXA := Lib.hid (show Apart (.slice (some ⟨g7, 0, none⟩) i i) X.length (fun j => w4.heap.size ≤ j) from fun _ g hg => by cases hg; show ¬ _ ≤ g7; omega)
      have hrt := hrd.upto (i - 1) (by rw [HXL.out]; omega)
      have HXT := Lib.hid hrt
      have HXTA := Lib.hid (show Apart (.slice (some ⟨g7, 0, none⟩) (i - 1) i) (X.take (i - 1)).length (fun j => w4.heap.size ≤ j) from fun _ g hg => by cases hg; show ¬ _ ≤ g7; omega)
      clear hc4 hm4 hrd hrt HFLl HFLb KX3 KM3 HO HXE HN HLB
      go_upto_region 9 with (fail)
      generalize ha0 : Act.mk _ _ = a0
      have oe0 : a0.eval (.tmp 0) = .int .i64 ((i : Nat) : Int) := by rw [← ha0]; rfl
      have oe7 : a0.eval (.tmp 7) = .slice (some ⟨g7, 0, none⟩) i i := by rw [← ha0]; rfl
      have hsz0 : a0.tmps.size = 63 := by rw [← ha0]; rfl
      have HA0 := Lib.hid ha0
      clear ha0
      refine wp_region_K 63 hsz0 (by kernel_rfl) (by kernel_rfl) [29, 30, 31, 32, 33, 34, 35, 36, 37, 38, 39, 40, 41, 42, 43, 44, 45, 46, 47, 48, 49, 50, 51, 52, 53, 54, 55, 56, 57, 58, 59, 60, 61, 62, 6] (by kernel_rfl) (by decide) (fun j => w4.heap.size ≤ j) (KMod w4.heap.size (fun _ _ => False)) (KMod.T (fun _ _ _ h => h.elim) (fun _ h => h)) Still (fun _ _ _ h => h) (fun _ _ _ hm h => hm.trans h (fun _ _ h => h.elim)) [gi (.slice (some ⟨g7, 0, none⟩) i i), gi (hv (shaF (X))), gi (.slice (some ⟨g7, 0, none⟩) i i), gi (hv (shaF (X))), gi (.bool true), gi (.bool true), gi (.slice (some ⟨g7, 0, none⟩) i i), gv 0, litK w4.heap.size 5 (([0] : List Int).map bv).toArray, gv 1, gi (hv (shaF (X ++ [0]))), gi (.slice (some ⟨g7, 0, none⟩) i i), gv 2, litK w4.heap.size 5 (([0] : List Int).map bv).toArray, gv 3, gi (hv (shaF (X ++ [0]))), gi (.bool true), gi (.bool true), gi (.bool true), gi (.slice (some ⟨g7, 0, none⟩) i i), gi (.int .i64 ((i : Nat) : Int)), gi (.int .i64 ((i - 1 : Nat) : Int)), gi (.slice (some ⟨g7, 0, none⟩) (i - 1) i), gi (hv (shaF (X.take (i - 1)))), gi (.slice (some ⟨g7, 0, none⟩) i i), gi (.int .i64 ((i : Nat) : Int)), gi (.int .i64 ((i - 1 : Nat) : Int)), gi (.slice (some ⟨g7, 0, none⟩) (i - 1) i), gi (hv (shaF (X.take (i - 1)))), gi (.bool true), gi (.bool true), gi (.bool true), gi (.bool true), gi (.bool true), gi (.bool true)] ⟨ki_stable, ki_stable, ki_stable, ki_stable, ki_stable, ki_stable, ki_stable, kv_stable, litK_stable, kv_stable, ki_stable, ki_stable, kv_stable, litK_stable, kv_stable, ki_stable, ki_stable, ki_stable, ki_stable, ki_stable, ki_stable, ki_stable, ki_stable, ki_stable, ki_stable, ki_stable, ki_stable, ki_stable, ki_stable, ki_stable, ki_stable, ki_stable, ki_stable, ki_stable, ki_stable, trivial⟩ [7, 9, 12, 14] (by kernel_rfl) (by decide) (by kernel_rfl) (KG (AppSt w4.heap.size i X)) (KG.still AppSt_still) (KG.start trivial) ⟨?_, ?_, ?_, ?_, ?_, ?_, ?_, ?_, ?_, ?_, ?_, ?_, ?_, ?_, ?_, ?_, ?_, ?_, ?_, ?_, ?_, ?_, ?_, ?_, ?_, ?_, ?_, ?_, ?_, ?_, ?_, ?_, ?_, ?_, ?_, trivial⟩ ?_
      · intro tr act w' hm hout hsz hd hG hk hub
        exact kg_run (by rfl) rfl (wanted_none rfl) (ex_move rfl ((hout 7 (by decide)).trans oe7)) (Mod.refl _ _) rfl
      · intro tr act w' hm hout hsz hd hG hk hub
        have h0 := hd ⟨0, .data⟩ (by simp) rfl _ rfl
        refine kg_call (args := #[.slice (some ⟨g7, 0, none⟩) i i]) (by rfl) rfl (wanted_none rfl) (by rw [ex_callF rfl Try.func16 (by kernel_rfl) (by kernel_rfl)]; exact congrArg (fun z => Result.ok (Next.enter _ z) _) (by simp only [List.map_toArray, List.map_cons, List.map_nil, show act.eval (.tmp 29) = _ from h0]; try rfl)) (Sum_any _ (X) _ (HX.out.mod hm HXA.out) (by rw [HXL.out]; have := HMM.out; omega)) ?_
        rintro e w2 ⟨rfl, hm2⟩
        exact ⟨_, rfl, hm2, rfl⟩
      · intro tr act w' hm hout hsz hd hG hk hub
        exact kg_run (by rfl) rfl (wanted_none rfl) (ex_move rfl ((hout 7 (by decide)).trans oe7)) (Mod.refl _ _) rfl
      · intro tr act w' hm hout hsz hd hG hk hub
        have h2 := hd ⟨2, .data⟩ (by simp) rfl _ rfl
        refine kg_call (args := #[.slice (some ⟨g7, 0, none⟩) i i]) (by rfl) rfl (wanted_none rfl) (by rw [ex_callF rfl Try.func17 (by kernel_rfl) (by kernel_rfl)]; exact congrArg (fun z => Result.ok (Next.enter _ z) _) (by simp only [List.map_toArray, List.map_cons, List.map_nil, show act.eval (.tmp 31) = _ from h2]; try rfl)) (RefSum_any _ (X) _ (HX.out.mod hm HXA.out) (by rw [HXL.out]; have := HMM.out; omega)) ?_
        rintro e w2 ⟨rfl, hm2⟩
        exact ⟨_, rfl, hm2, rfl⟩
      · intro tr act w' hm hout hsz hd hG hk hub
        have h1 := hd ⟨1, .data⟩ (by simp) rfl _ rfl
        have h3 := hd ⟨3, .data⟩ (by simp) rfl _ rfl
        exact kg_run (by rfl) rfl (wanted_none rfl) (ex_bin rfl h1 h3 (hv_guard2 _ _ _ _ _ _) (hv_eql (shaF_len _) (shaF_len _) _)) (Mod.refl _ _) (congrArg Value.bool (decide_eq_true rfl))
      · intro tr act w' hm hout hsz hd hG hk hub
        have h4 := hd ⟨4, .data⟩ (by simp) rfl _ rfl
        exact kg_run (by rfl) rfl (wanted_none rfl) (ex_move rfl h4) (Mod.refl _ _) rfl
      · intro tr act w' hm hout hsz hd hG hk hub
        have h5 := hd ⟨5, .guard⟩ (by simp) rfl _ rfl
        exact kg_run (by rfl) rfl ((wanted_of rfl rfl (hsz 34 (by decide)) h5).trans rfl) (ex_move rfl ((hout 7 (by decide)).trans oe7)) (Mod.refl _ _) rfl
      · intro tr act w' hm hout hsz hd hG hk hub
        have h5 := hd ⟨5, .guard⟩ (by simp) rfl _ rfl
        have h6 := hd ⟨6, .data⟩ (by simp) rfl _ rfl
        have hl := hk 0 rfl
        refine kc_call (args := #[.slice (some ⟨g7, 0, none⟩) i i]) (by rfl) rfl ((wanted_of rfl rfl (hsz 34 (by decide)) h5).trans rfl) (by rw [ex_callF rfl Try.func18 (by kernel_rfl) (by kernel_rfl)]; exact congrArg (fun z => Result.ok (Next.enter _ z) _) (by simp only [List.map_toArray, List.map_cons, List.map_nil, show act.eval (.tmp 35) = _ from h6]; try rfl)) (Copy_R (R := fun _ => True) (N := i) ⟨(HX.out.mod hm HXA.out), (fun _ _ _ => trivial), by rw [HXL.out]; exact Nat.le_refl _⟩ HMM.out) ?_
        rintro e w2 ⟨v', rfl, ho, hm2⟩
        obtain ⟨ao, cap, hs⟩ := ho.shape
        exact ⟨v', rfl, KMod.fresh hm2 hs ho.2.1, gv_new tr _ w2 hl, hG.on hl hm2.size (fun j hj => (ho.2.1 j ((owns_block hs).1 hj)).2) ⟨v', by rw [List.getElem?_append_right (by omega), hl]; rfl, ho.1, fun g hg => Nat.le_trans hm.size (ho.2.1 g hg).1, ho.shape⟩⟩
      · intro tr act w' hm hout hsz hd hG hk hub
        have h5 := hd ⟨5, .guard⟩ (by simp) rfl _ rfl
        refine kg_run (by rfl) rfl ((wanted_of rfl rfl (hsz 34 (by decide)) h5).trans rfl) (ex_lit rfl Try.underlying22 (by kernel_rfl) (by decide) (C := (([0] : List Int).map bv).toArray) (by simp only [List.map_toArray, List.map_cons, List.map_nil, Act.eval]; kernel_rfl)) ((Mod.refl _ _).alloc _) ?_
        exact litK_new (T8 := 5) (C := (([0] : List Int).map bv).toArray) hm.size hG.2
      · intro tr act w' hm hout hsz hd hG hk hub
        have h5 := hd ⟨5, .guard⟩ (by simp) rfl _ rfl
        have h7 := hd ⟨7, .data⟩ (by simp) rfl _ rfl
        have h8 := hd ⟨8, .data⟩ (by simp) rfl _ rfl
        have hl := hk 1 rfl
        obtain ⟨c, ec, hc, hcB, hcs⟩ := KG.at hG hl
        have ec1 : act.eval (.tmp 36) = c := Option.some.inj (Eq.trans (Eq.symm h7) ec)
        have hlit := litK.rd (Bytes.one (by decide) (by decide)) h8 (by decide) (by decide)
        obtain ⟨ao, cap, w2, hr, hap1, hap2, hap3⟩ := run_appB w' _ hc hlit (by rw [HXL.out]; have := HMM.out; unfold Room; simp; omega)
        obtain ⟨ao0, cap0, hs0⟩ := hcs
        exact kc_run (by rfl) rfl ((wanted_of rfl rfl (hsz 34 (by decide)) h5).trans rfl) (ex_append rfl ec1 rfl hr) (KMod.app (List.mem_of_getElem? ec) hs0 rfl hcB hap2 hap3) (gv_new tr _ w2 hl) (hG.on hl hap2.size (fun j hj => hap1.lt ((owns_block rfl).1 hj)) ⟨_, by rw [List.getElem?_append_right (by omega), hl]; rfl, hap1.rd⟩)
      · intro tr act w' hm hout hsz hd hG hk hub
        have h5 := hd ⟨5, .guard⟩ (by simp) rfl _ rfl
        have h9 := hd ⟨9, .data⟩ (by simp) rfl _ rfl
        have hlk : tr.length = 2 := Nat.le_antisymm (hub 2 12 rfl (by kernel_rfl)) (by have := (List.getElem?_eq_some_iff.1 h9).1; omega)
        obtain ⟨c, ec, hc⟩ := KG.at hG hlk
        have ec1 : act.eval (.tmp 38) = c := Option.some.inj (Eq.trans (Eq.symm h9) ec)
        refine kg_call (args := #[c]) (by rfl) rfl ((wanted_of rfl rfl (hsz 34 (by decide)) h5).trans rfl) (by rw [ex_callF rfl Try.func16 (by kernel_rfl) (by kernel_rfl)]; exact congrArg (fun z => Result.ok (Next.enter _ z) _) (by simp only [List.map_toArray, List.map_cons, List.map_nil, ec1])) (Sum_any _ _ _ hc (by rw [List.length_append, HXL.out]; have := HMM.out; simp; omega)) ?_
        rintro e w2 ⟨rfl, hm2⟩
        exact ⟨_, rfl, hm2, rfl⟩
      · intro tr act w' hm hout hsz hd hG hk hub
        have h5 := hd ⟨5, .guard⟩ (by simp) rfl _ rfl
        exact kg_run (by rfl) rfl ((wanted_of rfl rfl (hsz 34 (by decide)) h5).trans rfl) (ex_move rfl ((hout 7 (by decide)).trans oe7)) (Mod.refl _ _) rfl
      · intro tr act w' hm hout hsz hd hG hk hub
        have h5 := hd ⟨5, .guard⟩ (by simp) rfl _ rfl
        have h11 := hd ⟨11, .data⟩ (by simp) rfl _ rfl
        have hl := hk 2 rfl
        refine kc_call (args := #[.slice (some ⟨g7, 0, none⟩) i i]) (by rfl) rfl ((wanted_of rfl rfl (hsz 34 (by decide)) h5).trans rfl) (by rw [ex_callF rfl Try.func18 (by kernel_rfl) (by kernel_rfl)]; exact congrArg (fun z => Result.ok (Next.enter _ z) _) (by simp only [List.map_toArray, List.map_cons, List.map_nil, show act.eval (.tmp 40) = _ from h11]; try rfl)) (Copy_R (R := fun _ => True) (N := i) ⟨(HX.out.mod hm HXA.out), (fun _ _ _ => trivial), by rw [HXL.out]; exact Nat.le_refl _⟩ HMM.out) ?_
        rintro e w2 ⟨v', rfl, ho, hm2⟩
        obtain ⟨ao, cap, hs⟩ := ho.shape
        exact ⟨v', rfl, KMod.fresh hm2 hs ho.2.1, gv_new tr _ w2 hl, hG.on hl hm2.size (fun j hj => (ho.2.1 j ((owns_block hs).1 hj)).2) ⟨v', by rw [List.getElem?_append_right (by omega), hl]; rfl, ho.1, fun g hg => Nat.le_trans hm.size (ho.2.1 g hg).1, ho.shape⟩⟩
      · intro tr act w' hm hout hsz hd hG hk hub
        have h5 := hd ⟨5, .guard⟩ (by simp) rfl _ rfl
        refine kg_run (by rfl) rfl ((wanted_of rfl rfl (hsz 34 (by decide)) h5).trans rfl) (ex_lit rfl Try.underlying22 (by kernel_rfl) (by decide) (C := (([0] : List Int).map bv).toArray) (by simp only [List.map_toArray, List.map_cons, List.map_nil, Act.eval]; kernel_rfl)) ((Mod.refl _ _).alloc _) ?_
        exact litK_new (T8 := 5) (C := (([0] : List Int).map bv).toArray) hm.size hG.2
      · intro tr act w' hm hout hsz hd hG hk hub
        have h5 := hd ⟨5, .guard⟩ (by simp) rfl _ rfl
        have h12 := hd ⟨12, .data⟩ (by simp) rfl _ rfl
        have h13 := hd ⟨13, .data⟩ (by simp) rfl _ rfl
        have hl := hk 3 rfl
        obtain ⟨c, ec, hc, hcB, hcs⟩ := KG.at hG hl
        have ec1 : act.eval (.tmp 41) = c := Option.some.inj (Eq.trans (Eq.symm h12) ec)
        have hlit := litK.rd (Bytes.one (by decide) (by decide)) h13 (by decide) (by decide)
        obtain ⟨ao, cap, w2, hr, hap1, hap2, hap3⟩ := run_appB w' _ hc hlit (by rw [HXL.out]; have := HMM.out; unfold Room; simp; omega)
        obtain ⟨ao0, cap0, hs0⟩ := hcs
        exact kc_run (by rfl) rfl ((wanted_of rfl rfl (hsz 34 (by decide)) h5).trans rfl) (ex_append rfl ec1 rfl hr) (KMod.app (List.mem_of_getElem? ec) hs0 rfl hcB hap2 hap3) (gv_new tr _ w2 hl) (hG.on hl hap2.size (fun j hj => hap1.lt ((owns_block rfl).1 hj)) ⟨_, by rw [List.getElem?_append_right (by omega), hl]; rfl, hap1.rd⟩)
      · intro tr act w' hm hout hsz hd hG hk hub
        have h5 := hd ⟨5, .guard⟩ (by simp) rfl _ rfl
        have h14 := hd ⟨14, .data⟩ (by simp) rfl _ rfl
        have hlk : tr.length = 4 := Nat.le_antisymm (AppSt.le hG.1) (by have := (List.getElem?_eq_some_iff.1 h14).1; omega)
        obtain ⟨c, ec, hc⟩ := KG.at hG hlk
        have ec1 : act.eval (.tmp 43) = c := Option.some.inj (Eq.trans (Eq.symm h14) ec)
        refine kg_call (args := #[c]) (by rfl) rfl ((wanted_of rfl rfl (hsz 34 (by decide)) h5).trans rfl) (by rw [ex_callF rfl Try.func17 (by kernel_rfl) (by kernel_rfl)]; exact congrArg (fun z => Result.ok (Next.enter _ z) _) (by simp only [List.map_toArray, List.map_cons, List.map_nil, ec1])) (RefSum_any _ _ _ hc (by rw [List.length_append, HXL.out]; have := HMM.out; simp; omega)) ?_
        rintro e w2 ⟨rfl, hm2⟩
        exact ⟨_, rfl, hm2, rfl⟩
      · intro tr act w' hm hout hsz hd hG hk hub
        have h5 := hd ⟨5, .guard⟩ (by simp) rfl _ rfl
        have h10 := hd ⟨10, .data⟩ (by simp) rfl _ rfl
        have h15 := hd ⟨15, .data⟩ (by simp) rfl _ rfl
        exact kg_run (by rfl) rfl ((wanted_of rfl rfl (hsz 34 (by decide)) h5).trans rfl) (ex_bin rfl h10 h15 (hv_guard2 _ _ _ _ _ _) (hv_eql (shaF_len _) (shaF_len _) _)) (Mod.refl _ _) (congrArg Value.bool (decide_eq_true rfl))
      · intro tr act w' hm hout hsz hd hG hk hub
        have h5 := hd ⟨5, .data⟩ (by simp) rfl _ rfl
        have h16 := hd ⟨16, .data⟩ (by simp) rfl _ rfl
        exact kg_run (by rfl) rfl (wanted_none rfl) (ex_pick rfl h5 h16 rfl) (Mod.refl _ _) rfl
      · intro tr act w' hm hout hsz hd hG hk hub
        have h17 := hd ⟨17, .data⟩ (by simp) rfl _ rfl
        exact kg_run (by rfl) rfl (wanted_none rfl) (ex_move rfl h17) (Mod.refl _ _) rfl
      · intro tr act w' hm hout hsz hd hG hk hub
        have h18 := hd ⟨18, .guard⟩ (by simp) rfl _ rfl
        exact kg_run (by rfl) rfl ((wanted_of rfl rfl (hsz 47 (by decide)) h18).trans rfl) (ex_move rfl ((hout 7 (by decide)).trans oe7)) (Mod.refl _ _) rfl
      · intro tr act w' hm hout hsz hd hG hk hub
        have h18 := hd ⟨18, .guard⟩ (by simp) rfl _ rfl
        exact kg_run (by rfl) rfl ((wanted_of rfl rfl (hsz 47 (by decide)) h18).trans rfl) (ex_move rfl ((hout 0 (by decide)).trans oe0)) (Mod.refl _ _) rfl
      · intro tr act w' hm hout hsz hd hG hk hub
        have h18 := hd ⟨18, .guard⟩ (by simp) rfl _ rfl
        have h20 := hd ⟨20, .data⟩ (by simp) rfl _ rfl
        refine kg_run (by rfl) rfl ((wanted_of rfl rfl (hsz 47 (by decide)) h18).trans rfl) (ex_bin rfl h20 rfl (guard_ints _ _ _ _ _ _) (run_sub_i _ _ Try.underlying3)) (Mod.refl _ _) ?_
        exact congrArg (Value.int .i64) (by have := HM5.out; have := HMM.out; rw [IntWalk.i64_in _ (by omega)]; omega)
      · intro tr act w' hm hout hsz hd hG hk hub
        have h18 := hd ⟨18, .guard⟩ (by simp) rfl _ rfl
        have h19 := hd ⟨19, .data⟩ (by simp) rfl _ rfl
        have h21 := hd ⟨21, .data⟩ (by simp) rfl _ rfl
        exact kg_run (by rfl) rfl ((wanted_of rfl rfl (hsz 47 (by decide)) h18).trans rfl) (ex_sliceHi (s := 1) rfl Try.underlying22 (by kernel_rfl) h19 h21 (by omega)) (Mod.refl _ _) rfl
      · intro tr act w' hm hout hsz hd hG hk hub
        have h18 := hd ⟨18, .guard⟩ (by simp) rfl _ rfl
        have h22 := hd ⟨22, .data⟩ (by simp) rfl _ rfl
        refine kg_call (args := #[.slice (some ⟨g7, 0, none⟩) (i - 1) i]) (by rfl) rfl ((wanted_of rfl rfl (hsz 47 (by decide)) h18).trans rfl) (by rw [ex_callF rfl Try.func16 (by kernel_rfl) (by kernel_rfl)]; exact congrArg (fun z => Result.ok (Next.enter _ z) _) (by simp only [List.map_toArray, List.map_cons, List.map_nil, show act.eval (.tmp 51) = _ from h22]; try rfl)) (Sum_any _ (X.take (i - 1)) _ (HXT.out.mod hm HXTA.out) (by rw [List.length_take, HXL.out]; have := HMM.out; omega)) ?_
        rintro e w2 ⟨rfl, hm2⟩
        exact ⟨_, rfl, hm2, rfl⟩
      · intro tr act w' hm hout hsz hd hG hk hub
        have h18 := hd ⟨18, .guard⟩ (by simp) rfl _ rfl
        exact kg_run (by rfl) rfl ((wanted_of rfl rfl (hsz 47 (by decide)) h18).trans rfl) (ex_move rfl ((hout 7 (by decide)).trans oe7)) (Mod.refl _ _) rfl
      · intro tr act w' hm hout hsz hd hG hk hub
        have h18 := hd ⟨18, .guard⟩ (by simp) rfl _ rfl
        exact kg_run (by rfl) rfl ((wanted_of rfl rfl (hsz 47 (by decide)) h18).trans rfl) (ex_move rfl ((hout 0 (by decide)).trans oe0)) (Mod.refl _ _) rfl
      · intro tr act w' hm hout hsz hd hG hk hub
        have h18 := hd ⟨18, .guard⟩ (by simp) rfl _ rfl
        have h25 := hd ⟨25, .data⟩ (by simp) rfl _ rfl
        refine kg_run (by rfl) rfl ((wanted_of rfl rfl (hsz 47 (by decide)) h18).trans rfl) (ex_bin rfl h25 rfl (guard_ints _ _ _ _ _ _) (run_sub_i _ _ Try.underlying3)) (Mod.refl _ _) ?_
        exact congrArg (Value.int .i64) (by have := HM5.out; have := HMM.out; rw [IntWalk.i64_in _ (by omega)]; omega)
      · intro tr act w' hm hout hsz hd hG hk hub
        have h18 := hd ⟨18, .guard⟩ (by simp) rfl _ rfl
        have h24 := hd ⟨24, .data⟩ (by simp) rfl _ rfl
        have h26 := hd ⟨26, .data⟩ (by simp) rfl _ rfl
        exact kg_run (by rfl) rfl ((wanted_of rfl rfl (hsz 47 (by decide)) h18).trans rfl) (ex_sliceHi (s := 1) rfl Try.underlying22 (by kernel_rfl) h24 h26 (by omega)) (Mod.refl _ _) rfl
      · intro tr act w' hm hout hsz hd hG hk hub
        have h18 := hd ⟨18, .guard⟩ (by simp) rfl _ rfl
        have h27 := hd ⟨27, .data⟩ (by simp) rfl _ rfl
        refine kg_call (args := #[.slice (some ⟨g7, 0, none⟩) (i - 1) i]) (by rfl) rfl ((wanted_of rfl rfl (hsz 47 (by decide)) h18).trans rfl) (by rw [ex_callF rfl Try.func17 (by kernel_rfl) (by kernel_rfl)]; exact congrArg (fun z => Result.ok (Next.enter _ z) _) (by simp only [List.map_toArray, List.map_cons, List.map_nil, show act.eval (.tmp 56) = _ from h27]; try rfl)) (RefSum_any _ (X.take (i - 1)) _ (HXT.out.mod hm HXTA.out) (by rw [List.length_take, HXL.out]; have := HMM.out; omega)) ?_
        rintro e w2 ⟨rfl, hm2⟩
        exact ⟨_, rfl, hm2, rfl⟩
      · intro tr act w' hm hout hsz hd hG hk hub
        have h18 := hd ⟨18, .guard⟩ (by simp) rfl _ rfl
        have h23 := hd ⟨23, .data⟩ (by simp) rfl _ rfl
        have h28 := hd ⟨28, .data⟩ (by simp) rfl _ rfl
        exact kg_run (by rfl) rfl ((wanted_of rfl rfl (hsz 47 (by decide)) h18).trans rfl) (ex_bin rfl h23 h28 (hv_guard2 _ _ _ _ _ _) (hv_eql (shaF_len _) (shaF_len _) _)) (Mod.refl _ _) (congrArg Value.bool (decide_eq_true rfl))
      · intro tr act w' hm hout hsz hd hG hk hub
        have h18 := hd ⟨18, .data⟩ (by simp) rfl _ rfl
        have h29 := hd ⟨29, .data⟩ (by simp) rfl _ rfl
        exact kg_run (by rfl) rfl (wanted_none rfl) (ex_pick rfl h18 h29 rfl) (Mod.refl _ _) rfl
      · intro tr act w' hm hout hsz hd hG hk hub
        have h30 := hd ⟨30, .data⟩ (by simp) rfl _ rfl
        exact kg_run (by rfl) rfl (wanted_none rfl) (ex_move rfl h30) (Mod.refl _ _) rfl
      · intro tr act w' hm hout hsz hd hG hk hub
        have h31 := hd ⟨31, .guard⟩ (by simp) rfl _ rfl
        refine kg_call (args := #[]) (by rfl) rfl ((wanted_of rfl rfl (hsz 60 (by decide)) h31).trans rfl) (by rw [ex_callF rfl Try.func19 (by kernel_rfl) (by kernel_rfl)]; simp) (wakes02 _) ?_
        rintro e w2 ⟨rfl, hm2⟩
        exact ⟨_, rfl, hm2, rfl⟩
      · intro tr act w' hm hout hsz hd hG hk hub
        have h31 := hd ⟨31, .data⟩ (by simp) rfl _ rfl
        have h32 := hd ⟨32, .data⟩ (by simp) rfl _ rfl
        exact kg_run (by rfl) rfl (wanted_none rfl) (ex_pick rfl h31 h32 rfl) (Mod.refl _ _) rfl
      · intro tr act w' hm hout hsz hd hG hk hub
        have h33 := hd ⟨33, .data⟩ (by simp) rfl _ rfl
        exact kg_run (by rfl) rfl (wanted_none rfl) (ex_assign rfl h33) (Mod.refl _ _) rfl
      intro vs tr w5 hl htl hm hG hV
      obtain ⟨v0, vs0, rfl, hl0⟩ := list_cons hl
      obtain ⟨v1, vs1, rfl, hl1⟩ := list_cons hl0
      obtain ⟨v2, vs2, rfl, hl2⟩ := list_cons hl1
      obtain ⟨v3, vs3, rfl, hl3⟩ := list_cons hl2
      obtain ⟨v4, vs4, rfl, hl4⟩ := list_cons hl3
      obtain ⟨v5, vs5, rfl, hl5⟩ := list_cons hl4
      obtain ⟨v6, vs6, rfl, hl6⟩ := list_cons hl5
      obtain ⟨v7, vs7, rfl, hl7⟩ := list_cons hl6
      obtain ⟨v8, vs8, rfl, hl8⟩ := list_cons hl7
      obtain ⟨v9, vs9, rfl, hl9⟩ := list_cons hl8
      obtain ⟨v10, vs10, rfl, hl10⟩ := list_cons hl9
      obtain ⟨v11, vs11, rfl, hl11⟩ := list_cons hl10
      obtain ⟨v12, vs12, rfl, hl12⟩ := list_cons hl11
      obtain ⟨v13, vs13, rfl, hl13⟩ := list_cons hl12
      obtain ⟨v14, vs14, rfl, hl14⟩ := list_cons hl13
      obtain ⟨v15, vs15, rfl, hl15⟩ := list_cons hl14
      obtain ⟨v16, vs16, rfl, hl16⟩ := list_cons hl15
      obtain ⟨v17, vs17, rfl, hl17⟩ := list_cons hl16
      obtain ⟨v18, vs18, rfl, hl18⟩ := list_cons hl17
      obtain ⟨v19, vs19, rfl, hl19⟩ := list_cons hl18
      obtain ⟨v20, vs20, rfl, hl20⟩ := list_cons hl19
      obtain ⟨v21, vs21, rfl, hl21⟩ := list_cons hl20
      obtain ⟨v22, vs22, rfl, hl22⟩ := list_cons hl21
      obtain ⟨v23, vs23, rfl, hl23⟩ := list_cons hl22
      obtain ⟨v24, vs24, rfl, hl24⟩ := list_cons hl23
      obtain ⟨v25, vs25, rfl, hl25⟩ := list_cons hl24
      obtain ⟨v26, vs26, rfl, hl26⟩ := list_cons hl25
      obtain ⟨v27, vs27, rfl, hl27⟩ := list_cons hl26
      obtain ⟨v28, vs28, rfl, hl28⟩ := list_cons hl27
      obtain ⟨v29, vs29, rfl, hl29⟩ := list_cons hl28
      obtain ⟨v30, vs30, rfl, hl30⟩ := list_cons hl29
      obtain ⟨v31, vs31, rfl, hl31⟩ := list_cons hl30
      obtain ⟨v32, vs32, rfl, hl32⟩ := list_cons hl31
      obtain ⟨v33, vs33, rfl, hl33⟩ := list_cons hl32
      obtain ⟨v34, vs34, rfl, hl34⟩ := list_cons hl33
      obtain rfl := list_nil hl34
      clear hl hl0 hl1 hl2 hl3 hl4 hl5 hl6 hl7 hl8 hl9 hl10 hl11 hl12 hl13 hl14 hl15 hl16 hl17 hl18 hl19 hl20 hl21 hl22 hl23 hl24 hl25 hl26 hl27 hl28 hl29 hl30 hl31 hl32 hl33 hl34
      obtain rfl : v34 = .bool true := hV 34 _ rfl
      have ha0 := HA0.out
      subst ha0
      clear HA0 hV hsz0 oe0 oe7
      simp only [putAll, Act.put, List.setIfInBounds_toArray, List.set_cons_zero, List.set_cons_succ]
      have KM5 := Lib.hid (KM4.out.trans hm (fun k h1 h2 => by have := HG7.out; omega))
      clear hG hm htl
      go_wp2
      go_ret
      exact ⟨rfl, KM5.out⟩
end Go.Proofs.Ytfgepphankfbfaa
