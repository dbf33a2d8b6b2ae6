/- CommitUnlike: the walk. -/
import Derived.Test.YtgnmdnmmemdemaaCm7
set_option maxRecDepth 100000
set_option linter.unusedVariables false
namespace Go.Proofs.Ytgnmdnmmemdemaa
open Go Go.RowKit Go.Gv

theorem Cs_new2 (w : World) (o o' : Obj) (c : Array Value) (e : TypeId) : Cs (((w.alloc o).alloc o').alloc (.cells c e)) (w.heap.size + 1 + 1) c e := by
  have := Cs_new1 (w.alloc o) o' c e
  rwa [show (w.alloc o).heap.size = w.heap.size + 1 by simp] at this
theorem Cs_new3 (w : World) (o o' o'' : Obj) (c : Array Value) (e : TypeId) : Cs ((((w.alloc o).alloc o').alloc o'').alloc (.cells c e)) (w.heap.size + 1 + 1 + 1) c e := by
  have := Cs_new2 (w.alloc o) o' o'' c e
  rwa [show (w.alloc o).heap.size = w.heap.size + 1 by simp] at this
set_option maxHeartbeats 8000000 in
theorem CommitUnlike_walk (n1 n2 m1 m2 : Int) (ha hb P Q : List Int) (u v : Value) (h1 : I64 n1) (h2 : I64 n2) (h3 : I64 m1) (h4 : I64 m2) (hha : HK ha) (hhb : HK hb) (w : World) (hp : RdR (fun k => k < w.heap.size) P.length w u P) (hq : RdR (fun k => k < w.heap.size) Q.length w v Q) :
    Calls Try.prog 6 #[.agg #[.int .i64 n1, .int .i64 n2], .agg #[.int .i64 m1, .int .i64 m2], hv ha, hv hb, u, v] w fun e w' => e = .returned (.bool true) ∧ Mod (fun _ => False) w w' := by
  have H1 := Lib.hid h1
  have H2 := Lib.hid h2
  have H3 := Lib.hid h3
  have H4 := Lib.hid h4
  have HHa := Lib.hid hha
  have HHb := Lib.hid hhb
  have HP0 := Lib.hid hp
  have HQ0 := Lib.hid hq
  have w1' := within_range n1 3 (by decide)
  have w2' := within_range n2 3 (by decide)
  have w3' := within_range m1 3 (by decide)
  have w4' := within_range m2 3 (by decide)
  obtain ⟨a, ea⟩ : ∃ a, a = within n1 3 := ⟨_, rfl⟩
  obtain ⟨b, eb⟩ : ∃ b, b = within n2 3 := ⟨_, rfl⟩
  obtain ⟨c, ec⟩ : ∃ b, b = within m1 3 := ⟨_, rfl⟩
  obtain ⟨d, ed⟩ : ∃ b, b = within m2 3 := ⟨_, rfl⟩
  have HA := Lib.hid (show I64 a from ⟨by omega, by omega⟩)
  have HBb := Lib.hid (show I64 b from ⟨by omega, by omega⟩)
  have HC := Lib.hid (show I64 c from ⟨by omega, by omega⟩)
  have HD := Lib.hid (show I64 d from ⟨by omega, by omega⟩)
  have EA := Lib.hid ea.symm
  have EB := Lib.hid eb.symm
  have EC := Lib.hid ec.symm
  have ED := Lib.hid ed.symm
  clear h1 h2 h3 h4 hha hhb hp hq w1' w2' w3' w4' ea eb ec ed
  change Calls _ _ #[.agg #[.int .i64 n1, .int .i64 n2], .agg #[.int .i64 m1, .int .i64 m2], .agg (ha.map bv).toArray, .agg (hb.map bv).toArray, u, v] _ _
  go_enter Try.func6, Try.ntmps6
  go_upto_region 1 with (fail)
  obtain ⟨w1, hw1⟩ : ∃ z, z = (((w.alloc (.cells #[.int .i64 n1, .int .i64 n2] 26)).alloc (.cells #[.int .i64 m1, .int .i64 m2] 26)).alloc (.cells (ha.map bv).toArray 28)).alloc (.cells (hb.map bv).toArray 28) := ⟨_, rfl⟩
  change Code.wp _ _ _ _ ((((w.alloc (.cells #[.int .i64 n1, .int .i64 n2] 26)).alloc (.cells #[.int .i64 m1, .int .i64 m2] 26)).alloc (.cells (ha.map bv).toArray 28)).alloc (.cells (hb.map bv).toArray 28))
  rw [← hw1]
  have KN1 := Lib.hid (show Cs w1 w.heap.size #[.int .i64 n1, .int .i64 n2] 26 by rw [hw1]; exact (((Cs.new _ _ _).alloc _).alloc _).alloc _)
  have KO1 := Lib.hid (show Cs w1 (w.heap.size + 1) #[.int .i64 m1, .int .i64 m2] 26 by rw [hw1]; exact ((Cs_new1 _ _ _ _).alloc _).alloc _)
  have KHa1 := Lib.hid (show Cs w1 (w.heap.size + 1 + 1) (ha.map bv).toArray 28 by rw [hw1]; exact (Cs_new2 _ _ _ _ _).alloc _)
  have KHb1 := Lib.hid (show Cs w1 (w.heap.size + 1 + 1 + 1) (hb.map bv).toArray 28 by rw [hw1]; exact Cs_new3 _ _ _ _ _ _)
  have KM1 := Lib.hid (show Mod (fun _ => False) w w1 by rw [hw1]; exact ((((Mod.refl _ _).alloc _).alloc _).alloc _).alloc _)
  have hs1 : w1.heap.size = w.heap.size + 4 := by rw [hw1]; simp
  clear hw1
  go_wp2_with fail
  refine (Cut_R 60 (HP0.out.mod KM1.out (fun _ _ h => h)) (by decide)).mono ?_
  rintro e w2 ⟨u', rfl, ho, hm2⟩
  obtain ⟨ps, hps⟩ : ∃ ps, ps = P.take 60 := ⟨_, rfl⟩
  rw [← hps] at ho
  have HLP := Lib.hid ho.2.2
  have HO := Lib.hid ho.rd.1
  have HPB := Lib.hid (show ∀ g', u'.ownBlock = some g' → w1.heap.size ≤ g' ∧ g' < w2.heap.size from fun g' hg => ho.2.1 g' hg)
  have KN2 := Lib.hid (KN1.out.mod hm2 (fun h => h))
  have KO2 := Lib.hid (KO1.out.mod hm2 (fun h => h))
  have KHa2 := Lib.hid (KHa1.out.mod hm2 (fun h => h))
  have KHb2 := Lib.hid (KHb1.out.mod hm2 (fun h => h))
  have KM2 := Lib.hid (KM1.out.trans hm2 (fun _ _ h => h))
  have z2 := hm2.size
  clear ho hm2 KN1 KO1 KHa1 KHb1 KM1 hps HP0
  go_wp2_with fail
  refine (Cut_R 60 (HQ0.out.mod KM2.out (fun _ _ h => h)) (by decide)).mono ?_
  rintro e w3 ⟨v', rfl, ho, hm3⟩
  obtain ⟨qs, hqs⟩ : ∃ qs, qs = Q.take 60 := ⟨_, rfl⟩
  rw [← hqs] at ho
  have HLQ := Lib.hid ho.2.2
  obtain ⟨ao, cap, hv0⟩ := ho.shape
  have HVQ := Lib.hid hv0
  have HQ3 := Lib.hid ho.rd.1
  have HQB := Lib.hid (show ∀ g', v'.ownBlock = some g' → w2.heap.size ≤ g' ∧ g' < w3.heap.size from fun g' hg => ho.2.1 g' hg)
  have HP3 := Lib.hid (HO.out.mod hm3 (fun _ _ _ h => h))
  have KN := Lib.hid (show ByLen (ResSt w.heap.size 26 [.int .i64 n1, .int .i64 n2] [.int .i64 a, .int .i64 b]) [] w3 from KN2.out.mod hm3 (fun h => h))
  have KO3 := Lib.hid (KO2.out.mod hm3 (fun h => h))
  have KHa3 := Lib.hid (KHa2.out.mod hm3 (fun h => h))
  have KHb3 := Lib.hid (KHb2.out.mod hm3 (fun h => h))
  have KM3 := Lib.hid (KM2.out.trans hm3 (fun _ _ h => h))
  have z3 := hm3.size
  clear ho hm3 KN2 KO2 KHa2 KHb2 KM2 hqs HQ0 HO hv0
  go_upto_region 2 with (fail)
  generalize ha0 : Act.mk _ _ = a0
  have oe6 : a0.eval (.tmp 6) = .pointer (some ⟨w.heap.size, 0, none⟩) := by rw [← ha0]; rfl
  have hsz0 : a0.tmps.size = 83 := by rw [← ha0]; rfl
  have HA0 := Lib.hid ha0
  clear ha0
  refine wp_region_G 83 hsz0 (by kernel_rfl) (by kernel_rfl) [20, 21, 22, 23, 24, 25, 26, 90] (by kernel_rfl) (by decide) (fun j => j = w.heap.size) (fun _ j => j = w.heap.size) (fun _ _ h => h) Still (fun _ _ _ h => h) (fun _ _ _ hm h => hm.trans h (fun _ _ h => h.elim)) [gi (.pointer (some ⟨w.heap.size, 0, none⟩)), gi (.int .i64 n1), gi (.int .i64 a), gi (.pointer (some ⟨w.heap.size, 1, none⟩)), gi (.int .i64 n2), gi (.int .i64 b), gi (.agg ([.int .i64 a, .int .i64 b] : List Value).toArray), ga] ⟨gi_stable, gi_stable, gi_stable, gi_stable, gi_stable, gi_stable, gi_stable, ga_stable, trivial⟩ [7] (by kernel_rfl) (by decide) (by kernel_rfl) (ByLen (ResSt (w.heap.size) 26 [.int .i64 n1, .int .i64 n2] [.int .i64 a, .int .i64 b])) (ByLen.still ResSt_still) KN.out ⟨?_, ?_, ?_, ?_, ?_, ?_, ?_, ?_, trivial⟩ ?_
  · intro tr act w' hm hout hsz hd hG hk hub
    refine jg_run (by rfl) rfl (wanted_none rfl) (ex_field rfl Try.underlying26 rfl (by kernel_rfl) ((hout 6 (by decide)).trans oe6)) (Mod.refl _ _) ?_
    rfl
  · intro tr act w' hm hout hsz hd hG hk hub
    have h0 := hd ⟨0, .data⟩ (by simp) rfl _ rfl
    exact jg_run (by rfl) rfl (wanted_none rfl) (ex_load1 rfl Try.underlying3 rfl h0 (by rw [Cs.cell (hG.at (show tr.length = 0 from Nat.le_zero.1 (hub 0 7 rfl (by kernel_rfl))))]; rfl)) (Mod.refl _ _) rfl
  · intro tr act w' hm hout hsz hd hG hk hub
    have h1 := hd ⟨1, .data⟩ (by simp) rfl _ rfl
    refine jg_call (args := #[.int .i64 n1, .int .i64 3]) (by rfl) rfl (wanted_none rfl) (by rw [ex_callF rfl Try.func14 (by kernel_rfl) (by kernel_rfl)]; exact congrArg (fun z => Result.ok (Next.enter _ z) _) (by simp only [List.map_toArray, List.map_cons, List.map_nil, show act.eval (.tmp 21) = _ from h1]; try rfl)) (Within_any n1 3 (by decide) (by decide) H1.out _) ?_
    rintro e w2 ⟨rfl, rfl⟩
    exact ⟨_, rfl, Mod.refl _ _, congrArg (Value.int .i64) EA.out⟩
  · intro tr act w' hm hout hsz hd hG hk hub
    refine jg_run (by rfl) rfl (wanted_none rfl) (ex_field rfl Try.underlying26 rfl (by kernel_rfl) ((hout 6 (by decide)).trans oe6)) (Mod.refl _ _) ?_
    rfl
  · intro tr act w' hm hout hsz hd hG hk hub
    have h3 := hd ⟨3, .data⟩ (by simp) rfl _ rfl
    exact jg_run (by rfl) rfl (wanted_none rfl) (ex_load1 rfl Try.underlying3 rfl h3 (by rw [Cs.cell (hG.at (show tr.length = 0 from Nat.le_zero.1 (hub 0 7 rfl (by kernel_rfl))))]; rfl)) (Mod.refl _ _) rfl
  · intro tr act w' hm hout hsz hd hG hk hub
    have h4 := hd ⟨4, .data⟩ (by simp) rfl _ rfl
    refine jg_call (args := #[.int .i64 n2, .int .i64 3]) (by rfl) rfl (wanted_none rfl) (by rw [ex_callF rfl Try.func14 (by kernel_rfl) (by kernel_rfl)]; exact congrArg (fun z => Result.ok (Next.enter _ z) _) (by simp only [List.map_toArray, List.map_cons, List.map_nil, show act.eval (.tmp 24) = _ from h4]; try rfl)) (Within_any n2 3 (by decide) (by decide) H2.out _) ?_
    rintro e w2 ⟨rfl, rfl⟩
    exact ⟨_, rfl, Mod.refl _ _, congrArg (Value.int .i64) EB.out⟩
  · intro tr act w' hm hout hsz hd hG hk hub
    have h2 := hd ⟨2, .data⟩ (by simp) rfl _ rfl
    have h5 := hd ⟨5, .data⟩ (by simp) rfl _ rfl
    exact jg_run (by rfl) rfl (wanted_none rfl) (ex_build rfl (z := [.int .i64 0, .int .i64 0]) (places := [(0, 1), (1, 1)]) (by kernel_rfl) (parts := [(0, .int .i64 a), (1, .int .i64 b)]) (by simp only [List.map_toArray, List.map_cons, List.map_nil, show act.eval (.tmp 22) = _ from h2, show act.eval (.tmp 25) = _ from h5]; try rfl) (r := [.int .i64 a, .int .i64 b]) (by rfl)) (Mod.refl _ _) rfl
  · intro tr act w' hm hout hsz hd hG hk hub
    have h6 := hd ⟨6, .data⟩ (by simp) rfl _ rfl
    have hl := hk 0 rfl
    refine jc_turn (by rfl) rfl (wanted_none rfl) (ex_storeA rfl (hG.at hl) (off := 0) (vs := [.int .i64 a, .int .i64 b]) (by kernel_rfl) (by intro u hu; simp at hu; rcases hu with rfl | rfl <;> rfl) (by simp) ((hout 6 (by decide)).trans oe6) (by rw [show act.eval (.tmp 26) = _ from h6]; rfl)) setRow_Mod trivial (ByLen.on hl ?_)
    rw [lay_whole _ _ (by simp)]
    exact setRow_Cs (hG.at hl)
  intro vs tr w4 hl htl hm hG hV
  obtain ⟨v0, vs0, rfl, hl0⟩ := list_cons hl
  obtain ⟨v1, vs1, rfl, hl1⟩ := list_cons hl0
  obtain ⟨v2, vs2, rfl, hl2⟩ := list_cons hl1
  obtain ⟨v3, vs3, rfl, hl3⟩ := list_cons hl2
  obtain ⟨v4, vs4, rfl, hl4⟩ := list_cons hl3
  obtain ⟨v5, vs5, rfl, hl5⟩ := list_cons hl4
  obtain ⟨v6, vs6, rfl, hl6⟩ := list_cons hl5
  obtain ⟨v7, vs7, rfl, hl7⟩ := list_cons hl6
  obtain rfl := list_nil hl7
  clear hl hl0 hl1 hl2 hl3 hl4 hl5 hl6 hl7
  have ha0 := HA0.out
  subst ha0
  clear HA0 hV hsz0 oe6
  simp only [putAll, Act.put, List.setIfInBounds_toArray, List.set_cons_zero, List.set_cons_succ, List.set_nil]
  have KN4 := Lib.hid (show Cs w4 w.heap.size #[.int .i64 a, .int .i64 b] 26 from hG.at htl)
  have KO := Lib.hid (show ByLen (ResSt (w.heap.size + 1) 26 [.int .i64 m1, .int .i64 m2] [.int .i64 c, .int .i64 d]) [] w4 from KO3.out.mod hm (by omega))
  have KHa4 := Lib.hid (KHa3.out.mod hm (by omega))
  have KHb4 := Lib.hid (KHb3.out.mod hm (by omega))
  have KM4 := Lib.hid (KM3.out.trans hm (fun k h1 h2 => by omega))
  have HP4 := Lib.hid (HP3.out.mod hm (fun h0 g' hg h => by have := HPB.out g' hg; omega))
  have HQ4 := Lib.hid (HQ3.out.mod hm (fun h0 g' hg h => by have := HQB.out g' hg; omega))
  have z4 := hm.size
  clear hG hm htl KN KO3 KHa3 KHb3 KM3 HP3 HQ3
  go_upto_region 3 with (fail)
  generalize ha0 : Act.mk _ _ = a0
  have oe7 : a0.eval (.tmp 7) = .pointer (some ⟨w.heap.size + 1, 0, none⟩) := by rw [← ha0]; rfl
  have hsz0 : a0.tmps.size = 83 := by rw [← ha0]; rfl
  have HA0 := Lib.hid ha0
  clear ha0
  refine wp_region_G 83 hsz0 (by kernel_rfl) (by kernel_rfl) [27, 28, 29, 30, 31, 32, 33, 90] (by kernel_rfl) (by decide) (fun j => j = w.heap.size + 1) (fun _ j => j = w.heap.size + 1) (fun _ _ h => h) Still (fun _ _ _ h => h) (fun _ _ _ hm h => hm.trans h (fun _ _ h => h.elim)) [gi (.pointer (some ⟨w.heap.size + 1, 0, none⟩)), gi (.int .i64 m1), gi (.int .i64 c), gi (.pointer (some ⟨w.heap.size + 1, 1, none⟩)), gi (.int .i64 m2), gi (.int .i64 d), gi (.agg ([.int .i64 c, .int .i64 d] : List Value).toArray), ga] ⟨gi_stable, gi_stable, gi_stable, gi_stable, gi_stable, gi_stable, gi_stable, ga_stable, trivial⟩ [7] (by kernel_rfl) (by decide) (by kernel_rfl) (ByLen (ResSt (w.heap.size + 1) 26 [.int .i64 m1, .int .i64 m2] [.int .i64 c, .int .i64 d])) (ByLen.still ResSt_still) KO.out ⟨?_, ?_, ?_, ?_, ?_, ?_, ?_, ?_, trivial⟩ ?_
  · intro tr act w' hm hout hsz hd hG hk hub
    refine jg_run (by rfl) rfl (wanted_none rfl) (ex_field rfl Try.underlying26 rfl (by kernel_rfl) ((hout 7 (by decide)).trans oe7)) (Mod.refl _ _) ?_
    rfl
  · intro tr act w' hm hout hsz hd hG hk hub
    have h0 := hd ⟨0, .data⟩ (by simp) rfl _ rfl
    exact jg_run (by rfl) rfl (wanted_none rfl) (ex_load1 rfl Try.underlying3 rfl h0 (by rw [Cs.cell (hG.at (show tr.length = 0 from Nat.le_zero.1 (hub 0 7 rfl (by kernel_rfl))))]; rfl)) (Mod.refl _ _) rfl
  · intro tr act w' hm hout hsz hd hG hk hub
    have h1 := hd ⟨1, .data⟩ (by simp) rfl _ rfl
    refine jg_call (args := #[.int .i64 m1, .int .i64 3]) (by rfl) rfl (wanted_none rfl) (by rw [ex_callF rfl Try.func14 (by kernel_rfl) (by kernel_rfl)]; exact congrArg (fun z => Result.ok (Next.enter _ z) _) (by simp only [List.map_toArray, List.map_cons, List.map_nil, show act.eval (.tmp 28) = _ from h1]; try rfl)) (Within_any m1 3 (by decide) (by decide) H3.out _) ?_
    rintro e w2 ⟨rfl, rfl⟩
    exact ⟨_, rfl, Mod.refl _ _, congrArg (Value.int .i64) EC.out⟩
  · intro tr act w' hm hout hsz hd hG hk hub
    refine jg_run (by rfl) rfl (wanted_none rfl) (ex_field rfl Try.underlying26 rfl (by kernel_rfl) ((hout 7 (by decide)).trans oe7)) (Mod.refl _ _) ?_
    rfl
  · intro tr act w' hm hout hsz hd hG hk hub
    have h3 := hd ⟨3, .data⟩ (by simp) rfl _ rfl
    exact jg_run (by rfl) rfl (wanted_none rfl) (ex_load1 rfl Try.underlying3 rfl h3 (by rw [Cs.cell (hG.at (show tr.length = 0 from Nat.le_zero.1 (hub 0 7 rfl (by kernel_rfl))))]; rfl)) (Mod.refl _ _) rfl
  · intro tr act w' hm hout hsz hd hG hk hub
    have h4 := hd ⟨4, .data⟩ (by simp) rfl _ rfl
    refine jg_call (args := #[.int .i64 m2, .int .i64 3]) (by rfl) rfl (wanted_none rfl) (by rw [ex_callF rfl Try.func14 (by kernel_rfl) (by kernel_rfl)]; exact congrArg (fun z => Result.ok (Next.enter _ z) _) (by simp only [List.map_toArray, List.map_cons, List.map_nil, show act.eval (.tmp 31) = _ from h4]; try rfl)) (Within_any m2 3 (by decide) (by decide) H4.out _) ?_
    rintro e w2 ⟨rfl, rfl⟩
    exact ⟨_, rfl, Mod.refl _ _, congrArg (Value.int .i64) ED.out⟩
  · intro tr act w' hm hout hsz hd hG hk hub
    have h2 := hd ⟨2, .data⟩ (by simp) rfl _ rfl
    have h5 := hd ⟨5, .data⟩ (by simp) rfl _ rfl
    exact jg_run (by rfl) rfl (wanted_none rfl) (ex_build rfl (z := [.int .i64 0, .int .i64 0]) (places := [(0, 1), (1, 1)]) (by kernel_rfl) (parts := [(0, .int .i64 c), (1, .int .i64 d)]) (by simp only [List.map_toArray, List.map_cons, List.map_nil, show act.eval (.tmp 29) = _ from h2, show act.eval (.tmp 32) = _ from h5]; try rfl) (r := [.int .i64 c, .int .i64 d]) (by rfl)) (Mod.refl _ _) rfl
  · intro tr act w' hm hout hsz hd hG hk hub
    have h6 := hd ⟨6, .data⟩ (by simp) rfl _ rfl
    have hl := hk 0 rfl
    refine jc_turn (by rfl) rfl (wanted_none rfl) (ex_storeA rfl (hG.at hl) (off := 0) (vs := [.int .i64 c, .int .i64 d]) (by kernel_rfl) (by intro u hu; simp at hu; rcases hu with rfl | rfl <;> rfl) (by simp) ((hout 7 (by decide)).trans oe7) (by rw [show act.eval (.tmp 33) = _ from h6]; rfl)) setRow_Mod trivial (ByLen.on hl ?_)
    rw [lay_whole _ _ (by simp)]
    exact setRow_Cs (hG.at hl)
  intro vs tr w5 hl htl hm hG hV
  obtain ⟨v0, vs0, rfl, hl0⟩ := list_cons hl
  obtain ⟨v1, vs1, rfl, hl1⟩ := list_cons hl0
  obtain ⟨v2, vs2, rfl, hl2⟩ := list_cons hl1
  obtain ⟨v3, vs3, rfl, hl3⟩ := list_cons hl2
  obtain ⟨v4, vs4, rfl, hl4⟩ := list_cons hl3
  obtain ⟨v5, vs5, rfl, hl5⟩ := list_cons hl4
  obtain ⟨v6, vs6, rfl, hl6⟩ := list_cons hl5
  obtain ⟨v7, vs7, rfl, hl7⟩ := list_cons hl6
  obtain rfl := list_nil hl7
  clear hl hl0 hl1 hl2 hl3 hl4 hl5 hl6 hl7
  have ha0 := HA0.out
  subst ha0
  clear HA0 hV hsz0 oe7
  simp only [putAll, Act.put, List.setIfInBounds_toArray, List.set_cons_zero, List.set_cons_succ, List.set_nil]
  have KN5 := Lib.hid (KN4.out.mod hm (by omega))
  have KO5 := Lib.hid (show Cs w5 (w.heap.size + 1) #[.int .i64 c, .int .i64 d] 26 from hG.at htl)
  have KHa5 := Lib.hid (KHa4.out.mod hm (by omega))
  have KHb5 := Lib.hid (KHb4.out.mod hm (by omega))
  have KM5 := Lib.hid (KM4.out.trans hm (fun k h1 h2 => by omega))
  have HP5 := Lib.hid (HP4.out.mod hm (fun h0 g' hg h => by have := HPB.out g' hg; omega))
  have HQ5 := Lib.hid (HQ4.out.mod hm (fun h0 g' hg h => by have := HQB.out g' hg; omega))
  have z5 := hm.size
  have HPA := Lib.hid (show Apart u' ps.length (fun j => w5.heap.size ≤ j) from fun h0 g' hg h => by have := HPB.out g' hg; omega)
  have HQA := Lib.hid (show Apart v' qs.length (fun j => w5.heap.size ≤ j) from fun h0 g' hg h => by have := HQB.out g' hg; omega)
  clear hG hm htl KN4 KO KHa4 KHb4 KM4 HP4 HQ4
  go_upto_region 4 with (fail)
  generalize ha0 : Act.mk _ _ = a0
  have oe4 : a0.eval (.tmp 4) = u' := by rw [← ha0]; rfl
  have oe5 : a0.eval (.tmp 5) = v' := by rw [← ha0]; rfl
  have oe6 : a0.eval (.tmp 6) = .pointer (some ⟨w.heap.size, 0, none⟩) := by rw [← ha0]; rfl
  have oe7 : a0.eval (.tmp 7) = .pointer (some ⟨w.heap.size + 1, 0, none⟩) := by rw [← ha0]; rfl
  have oe8 : a0.eval (.tmp 8) = .pointer (some ⟨w.heap.size + 1 + 1, 0, none⟩) := by rw [← ha0]; rfl
  have oe9 : a0.eval (.tmp 9) = .pointer (some ⟨w.heap.size + 1 + 1 + 1, 0, none⟩) := by rw [← ha0]; rfl
  have hsz0 : a0.tmps.size = 83 := by rw [← ha0]; rfl
  have HA0 := Lib.hid ha0
  clear ha0
  refine wp_region_A 83 hsz0 (by kernel_rfl) (by kernel_rfl) [34, 35, 36, 37, 38, 39, 40, 41, 13, 14, 93, 94] (by kernel_rfl) (by decide) (fun j => w5.heap.size ≤ j) (fun _ _ => False) (fun _ _ h => h.elim) Still (fun _ _ _ h => h) (fun _ _ _ hm h => hm.trans h (fun _ _ h => h.elim)) [gi (.agg #[.int .i64 a, .int .i64 b]), gi (hv ha), gi (u'), gi (hv (shaF (ofT a b ha ps))), gi (.agg #[.int .i64 c, .int .i64 d]), gi (hv hb), gi (v'), gi (hv (shaF (ofT c d hb qs))), ga, ga, ga, ga] ⟨gi_stable, gi_stable, gi_stable, gi_stable, gi_stable, gi_stable, gi_stable, gi_stable, ga_stable, ga_stable, ga_stable, ga_stable, trivial⟩ [] (by kernel_rfl) (by decide) (by kernel_rfl) (fun _ _ => True) (fun _ _ _ _ _ => trivial) trivial [⟨8, 10, 28, [.int .u8 0, .int .u8 0, .int .u8 0, .int .u8 0, .int .u8 0, .int .u8 0, .int .u8 0, .int .u8 0, .int .u8 0, .int .u8 0, .int .u8 0, .int .u8 0, .int .u8 0, .int .u8 0, .int .u8 0, .int .u8 0, .int .u8 0, .int .u8 0, .int .u8 0, .int .u8 0, .int .u8 0, .int .u8 0, .int .u8 0, .int .u8 0, .int .u8 0, .int .u8 0, .int .u8 0, .int .u8 0, .int .u8 0, .int .u8 0, .int .u8 0, .int .u8 0], (shaF (ofT a b ha ps)).map bv⟩, ⟨9, 11, 28, [.int .u8 0, .int .u8 0, .int .u8 0, .int .u8 0, .int .u8 0, .int .u8 0, .int .u8 0, .int .u8 0, .int .u8 0, .int .u8 0, .int .u8 0, .int .u8 0, .int .u8 0, .int .u8 0, .int .u8 0, .int .u8 0, .int .u8 0, .int .u8 0, .int .u8 0, .int .u8 0, .int .u8 0, .int .u8 0, .int .u8 0, .int .u8 0, .int .u8 0, .int .u8 0, .int .u8 0, .int .u8 0, .int .u8 0, .int .u8 0, .int .u8 0, .int .u8 0], (shaF (ofT c d hb qs)).map bv⟩] (by kernel_rfl) (by intro r hr; simp only [List.mem_cons, List.not_mem_nil, or_false] at hr; rcases hr with rfl | rfl <;> exact ⟨rfl, rfl⟩) (fun _ _ h => h.elim) (fun _ h => h) stillA (fun _ _ _ _ _ _ => trivial) (AllEnd.get _ ⟨gi_end, gi_end, gi_end, gi_end, gi_end, gi_end, gi_end, gi_end, ga_end, ga_end, ga_end, ga_end, trivial⟩) (by intro r hr; simp only [List.mem_cons, List.not_mem_nil, or_false] at hr; rcases hr with rfl | rfl <;> exact ⟨of_decide_eq_true (by kernel_rfl), of_decide_eq_true (by kernel_rfl)⟩) (by intro r hr; simp only [List.mem_cons, List.not_mem_nil, or_false] at hr; rcases hr with rfl | rfl <;> exact fun _ _ _ => ⟨trivial, trivial⟩) ⟨?_, ?_, ?_, ?_, ?_, ?_, ?_, ?_, ?_, ?_, ?_, ?_, trivial⟩ ?_
  · refine ⟨fun r hr e => ?_, fun r hr e => ?_, fun hno => ?_⟩
    · simp only [List.mem_cons, List.not_mem_nil, or_false] at hr
      rcases hr with rfl | rfl
      · simp at e
      · simp at e
    · simp only [List.mem_cons, List.not_mem_nil, or_false] at hr
      rcases hr with rfl | rfl
      · simp at e
      · simp at e
    · intro tr act w' hm hout hsz hd hG hk hub
      exact jg_run (by rfl) rfl (wanted_none rfl) (ex_loadA rfl Try.underlying26 rfl (off := 0) (cs := [.int .i64 a, .int .i64 b]) (by kernel_rfl) ((hout 6 (by decide)).trans oe6) (Cs.whole (KN5.out.mod hm (by omega)))) (Mod.refl _ _) rfl
  · refine ⟨fun r hr e => ?_, fun r hr e => ?_, fun hno => ?_⟩
    · simp only [List.mem_cons, List.not_mem_nil, or_false] at hr
      rcases hr with rfl | rfl
      · simp at e
      · simp at e
    · simp only [List.mem_cons, List.not_mem_nil, or_false] at hr
      rcases hr with rfl | rfl
      · simp at e
      · simp at e
    · intro tr act w' hm hout hsz hd hG hk hub
      exact jg_run (by rfl) rfl (wanted_none rfl) (ex_loadA rfl Try.underlying28 rfl (off := 0) (cs := ha.map bv) (by rw [List.length_map, HHa.out.1]; exact size_hash) ((hout 8 (by decide)).trans oe8) (Cs.whole (KHa5.out.mod hm (by omega)))) (Mod.refl _ _) rfl
  · refine ⟨fun r hr e => ?_, fun r hr e => ?_, fun hno => ?_⟩
    · simp only [List.mem_cons, List.not_mem_nil, or_false] at hr
      rcases hr with rfl | rfl
      · simp at e
      · simp at e
    · simp only [List.mem_cons, List.not_mem_nil, or_false] at hr
      rcases hr with rfl | rfl
      · simp at e
      · simp at e
    · intro tr act w' hm hout hsz hd hG hk hub
      exact jg_run (by rfl) rfl (wanted_none rfl) (ex_move rfl ((hout 4 (by decide)).trans oe4)) (Mod.refl _ _) rfl
  · refine ⟨fun r hr e => ?_, fun r hr e => ?_, fun hno => ?_⟩
    · simp only [List.mem_cons, List.not_mem_nil, or_false] at hr
      rcases hr with rfl | rfl
      · simp at e
      · simp at e
    · simp only [List.mem_cons, List.not_mem_nil, or_false] at hr
      rcases hr with rfl | rfl
      · simp at e
      · simp at e
    · intro tr act w' hm hout hsz hd hG hk hub
      have h0 := hd ⟨0, .data⟩ (by simp) rfl _ rfl
      have h1 := hd ⟨1, .data⟩ (by simp) rfl _ rfl
      have h2 := hd ⟨2, .data⟩ (by simp) rfl _ rfl
      refine jg_call (args := #[.agg #[.int .i64 a, .int .i64 b], hv ha, u']) (by rfl) rfl (wanted_none rfl) (by rw [ex_callF rfl Try.func24 (by kernel_rfl) (by kernel_rfl)]; exact congrArg (fun z => Result.ok (Next.enter _ z) _) (by simp only [List.map_toArray, List.map_cons, List.map_nil, show act.eval (.tmp 34) = _ from h0, show act.eval (.tmp 35) = _ from h1, show act.eval (.tmp 36) = _ from h2]; try rfl)) (Of_any a b ha ps u' _ HA.out HBb.out HHa.out.1 HHa.out.2 (HP5.out.mod hm HPA.out) (by have := HLP.out; omega)) ?_
      rintro e w2 ⟨rfl, hm2⟩
      exact ⟨_, rfl, hm2, rfl⟩
  · refine ⟨fun r hr e => ?_, fun r hr e => ?_, fun hno => ?_⟩
    · simp only [List.mem_cons, List.not_mem_nil, or_false] at hr
      rcases hr with rfl | rfl
      · simp at e
      · simp at e
    · simp only [List.mem_cons, List.not_mem_nil, or_false] at hr
      rcases hr with rfl | rfl
      · simp at e
      · simp at e
    · intro tr act w' hm hout hsz hd hG hk hub
      exact jg_run (by rfl) rfl (wanted_none rfl) (ex_loadA rfl Try.underlying26 rfl (off := 0) (cs := [.int .i64 c, .int .i64 d]) (by kernel_rfl) ((hout 7 (by decide)).trans oe7) (Cs.whole (KO5.out.mod hm (by omega)))) (Mod.refl _ _) rfl
  · refine ⟨fun r hr e => ?_, fun r hr e => ?_, fun hno => ?_⟩
    · simp only [List.mem_cons, List.not_mem_nil, or_false] at hr
      rcases hr with rfl | rfl
      · simp at e
      · simp at e
    · simp only [List.mem_cons, List.not_mem_nil, or_false] at hr
      rcases hr with rfl | rfl
      · simp at e
      · simp at e
    · intro tr act w' hm hout hsz hd hG hk hub
      exact jg_run (by rfl) rfl (wanted_none rfl) (ex_loadA rfl Try.underlying28 rfl (off := 0) (cs := hb.map bv) (by rw [List.length_map, HHb.out.1]; exact size_hash) ((hout 9 (by decide)).trans oe9) (Cs.whole (KHb5.out.mod hm (by omega)))) (Mod.refl _ _) rfl
  · refine ⟨fun r hr e => ?_, fun r hr e => ?_, fun hno => ?_⟩
    · simp only [List.mem_cons, List.not_mem_nil, or_false] at hr
      rcases hr with rfl | rfl
      · simp at e
      · simp at e
    · simp only [List.mem_cons, List.not_mem_nil, or_false] at hr
      rcases hr with rfl | rfl
      · simp at e
      · simp at e
    · intro tr act w' hm hout hsz hd hG hk hub
      exact jg_run (by rfl) rfl (wanted_none rfl) (ex_move rfl ((hout 5 (by decide)).trans oe5)) (Mod.refl _ _) rfl
  · refine ⟨fun r hr e => ?_, fun r hr e => ?_, fun hno => ?_⟩
    · simp only [List.mem_cons, List.not_mem_nil, or_false] at hr
      rcases hr with rfl | rfl
      · simp at e
      · simp at e
    · simp only [List.mem_cons, List.not_mem_nil, or_false] at hr
      rcases hr with rfl | rfl
      · simp at e
      · simp at e
    · intro tr act w' hm hout hsz hd hG hk hub
      have h4 := hd ⟨4, .data⟩ (by simp) rfl _ rfl
      have h5 := hd ⟨5, .data⟩ (by simp) rfl _ rfl
      have h6 := hd ⟨6, .data⟩ (by simp) rfl _ rfl
      refine jg_call (args := #[.agg #[.int .i64 c, .int .i64 d], hv hb, v']) (by rfl) rfl (wanted_none rfl) (by rw [ex_callF rfl Try.func24 (by kernel_rfl) (by kernel_rfl)]; exact congrArg (fun z => Result.ok (Next.enter _ z) _) (by simp only [List.map_toArray, List.map_cons, List.map_nil, show act.eval (.tmp 38) = _ from h4, show act.eval (.tmp 39) = _ from h5, show act.eval (.tmp 40) = _ from h6]; try rfl)) (Of_any c d hb qs v' _ HC.out HD.out HHb.out.1 HHb.out.2 (HQ5.out.mod hm HQA.out) (by have := HLQ.out; omega)) ?_
      rintro e w2 ⟨rfl, hm2⟩
      exact ⟨_, rfl, hm2, rfl⟩
  · refine ⟨fun r hr e => ?_, fun r hr e => ?_, fun hno => ?_⟩
    · simp only [List.mem_cons, List.not_mem_nil, or_false] at hr
      rcases hr with rfl | rfl
      · exact ⟨rfl, rfl, by kernel_rfl, (by rw [List.length_map, shaF_len]; rfl), (ints_oneCell .u8 _), (by rw [List.length_map, shaF_len]; exact size_hash)⟩
      · simp at e
    · simp only [List.mem_cons, List.not_mem_nil, or_false] at hr
      rcases hr with rfl | rfl
      · simp at e
      · simp at e
    · exact absurd rfl (hno ⟨8, 10, 28, [.int .u8 0, .int .u8 0, .int .u8 0, .int .u8 0, .int .u8 0, .int .u8 0, .int .u8 0, .int .u8 0, .int .u8 0, .int .u8 0, .int .u8 0, .int .u8 0, .int .u8 0, .int .u8 0, .int .u8 0, .int .u8 0, .int .u8 0, .int .u8 0, .int .u8 0, .int .u8 0, .int .u8 0, .int .u8 0, .int .u8 0, .int .u8 0, .int .u8 0, .int .u8 0, .int .u8 0, .int .u8 0, .int .u8 0, .int .u8 0, .int .u8 0, .int .u8 0], (shaF (ofT a b ha ps)).map bv⟩ (by simp)).1
  · refine ⟨fun r hr e => ?_, fun r hr e => ?_, fun hno => ?_⟩
    · simp only [List.mem_cons, List.not_mem_nil, or_false] at hr
      rcases hr with rfl | rfl
      · simp at e
      · exact ⟨rfl, rfl, by kernel_rfl, (by rw [List.length_map, shaF_len]; rfl), (ints_oneCell .u8 _), (by rw [List.length_map, shaF_len]; exact size_hash)⟩
    · simp only [List.mem_cons, List.not_mem_nil, or_false] at hr
      rcases hr with rfl | rfl
      · simp at e
      · simp at e
    · exact absurd rfl (hno ⟨9, 11, 28, [.int .u8 0, .int .u8 0, .int .u8 0, .int .u8 0, .int .u8 0, .int .u8 0, .int .u8 0, .int .u8 0, .int .u8 0, .int .u8 0, .int .u8 0, .int .u8 0, .int .u8 0, .int .u8 0, .int .u8 0, .int .u8 0, .int .u8 0, .int .u8 0, .int .u8 0, .int .u8 0, .int .u8 0, .int .u8 0, .int .u8 0, .int .u8 0, .int .u8 0, .int .u8 0, .int .u8 0, .int .u8 0, .int .u8 0, .int .u8 0, .int .u8 0, .int .u8 0], (shaF (ofT c d hb qs)).map bv⟩ (by simp)).1
  · refine ⟨fun r hr e => ?_, fun r hr e => ?_, fun hno => ?_⟩
    · simp only [List.mem_cons, List.not_mem_nil, or_false] at hr
      rcases hr with rfl | rfl
      · simp at e
      · simp at e
    · simp only [List.mem_cons, List.not_mem_nil, or_false] at hr
      rcases hr with rfl | rfl
      · refine ⟨rfl, _, (.tmp 37), rfl, by decide, rfl, by kernel_rfl, by kernel_rfl, fun tr act w' hm hout hd hG => ?_⟩
        have h3 := hd ⟨3, .data⟩ (by simp) rfl _ rfl
        rw [show act.eval ((.tmp 37)) = _ from h3]
        rfl
      · simp at e
    · exact absurd rfl (hno ⟨8, 10, 28, [.int .u8 0, .int .u8 0, .int .u8 0, .int .u8 0, .int .u8 0, .int .u8 0, .int .u8 0, .int .u8 0, .int .u8 0, .int .u8 0, .int .u8 0, .int .u8 0, .int .u8 0, .int .u8 0, .int .u8 0, .int .u8 0, .int .u8 0, .int .u8 0, .int .u8 0, .int .u8 0, .int .u8 0, .int .u8 0, .int .u8 0, .int .u8 0, .int .u8 0, .int .u8 0, .int .u8 0, .int .u8 0, .int .u8 0, .int .u8 0, .int .u8 0, .int .u8 0], (shaF (ofT a b ha ps)).map bv⟩ (by simp)).2
  · refine ⟨fun r hr e => ?_, fun r hr e => ?_, fun hno => ?_⟩
    · simp only [List.mem_cons, List.not_mem_nil, or_false] at hr
      rcases hr with rfl | rfl
      · simp at e
      · simp at e
    · simp only [List.mem_cons, List.not_mem_nil, or_false] at hr
      rcases hr with rfl | rfl
      · simp at e
      · refine ⟨rfl, _, (.tmp 41), rfl, by decide, rfl, by kernel_rfl, by kernel_rfl, fun tr act w' hm hout hd hG => ?_⟩
        have h7 := hd ⟨7, .data⟩ (by simp) rfl _ rfl
        rw [show act.eval ((.tmp 41)) = _ from h7]
        rfl
    · exact absurd rfl (hno ⟨9, 11, 28, [.int .u8 0, .int .u8 0, .int .u8 0, .int .u8 0, .int .u8 0, .int .u8 0, .int .u8 0, .int .u8 0, .int .u8 0, .int .u8 0, .int .u8 0, .int .u8 0, .int .u8 0, .int .u8 0, .int .u8 0, .int .u8 0, .int .u8 0, .int .u8 0, .int .u8 0, .int .u8 0, .int .u8 0, .int .u8 0, .int .u8 0, .int .u8 0, .int .u8 0, .int .u8 0, .int .u8 0, .int .u8 0, .int .u8 0, .int .u8 0, .int .u8 0, .int .u8 0], (shaF (ofT c d hb qs)).map bv⟩ (by simp)).2
  intro vs tr w6 hl htl hm hG hV hAL hNE
  obtain ⟨v0, vs0, rfl, hl0⟩ := list_cons hl
  obtain ⟨v1, vs1, rfl, hl1⟩ := list_cons hl0
  obtain ⟨v2, vs2, rfl, hl2⟩ := list_cons hl1
  obtain ⟨v3, vs3, rfl, hl3⟩ := list_cons hl2
  obtain ⟨v4, vs4, rfl, hl4⟩ := list_cons hl3
  obtain ⟨v5, vs5, rfl, hl5⟩ := list_cons hl4
  obtain ⟨v6, vs6, rfl, hl6⟩ := list_cons hl5
  obtain ⟨v7, vs7, rfl, hl7⟩ := list_cons hl6
  obtain ⟨v8, vs8, rfl, hl8⟩ := list_cons hl7
  obtain ⟨v9, vs9, rfl, hl9⟩ := list_cons hl8
  obtain ⟨v10, vs10, rfl, hl10⟩ := list_cons hl9
  obtain ⟨v11, vs11, rfl, hl11⟩ := list_cons hl10
  obtain rfl := list_nil hl11
  obtain ⟨q0, fq0, hqB0, hqC0⟩ := hAL _ (by simp only [List.mem_cons, List.not_mem_nil, or_false]; exact Or.inl rfl)
  obtain rfl : v8 = _ := Option.some.inj fq0
  obtain ⟨q1, fq1, hqB1, hqC1⟩ := hAL _ (by simp only [List.mem_cons, List.not_mem_nil, or_false]; exact Or.inr (rfl))
  obtain rfl : v9 = _ := Option.some.inj fq1
  clear hl hl0 hl1 hl2 hl3 hl4 hl5 hl6 hl7 hl8 hl9 hl10 hl11
  have ha0 := HA0.out
  subst ha0
  clear HA0 hV hsz0 oe4 oe5 oe6 oe7 oe8 oe9
  simp only [putAll, Act.put, List.setIfInBounds_toArray, List.set_cons_zero, List.set_cons_succ, List.set_nil]
  have KX6 := Lib.hid hqC0
  have KY6 := Lib.hid hqC1
  have KN6 := Lib.hid (KN5.out.mod hm (by omega))
  have KO6 := Lib.hid (KO5.out.mod hm (by omega))
  have KHa6 := Lib.hid (KHa5.out.mod hm (by omega))
  have KHb6 := Lib.hid (KHb5.out.mod hm (by omega))
  have KM6 := Lib.hid (KM5.out.trans hm (fun k h1 h2 => by omega))
  have HP6 := Lib.hid (HP5.out.mod hm HPA.out)
  have HQ6 := Lib.hid (HQ5.out.mod hm HQA.out)
  clear hG hm htl hAL hNE hqC0 hqC1 fq0 fq1 KN5 KO5 KHa5 KHb5 KM5 HP5 HQ5
  cases hN : (a == c && b == d) with
  | false =>
    have EN := Lib.hid hN
    clear hN
    go_upto_region 5 with (fail)
    generalize ha0 : Act.mk _ _ = a0
    have oe4 : a0.eval (.tmp 4) = u' := by rw [← ha0]; rfl
    have oe5 : a0.eval (.tmp 5) = v' := by rw [← ha0]; rfl
    have oe6 : a0.eval (.tmp 6) = .pointer (some ⟨w.heap.size, 0, none⟩) := by rw [← ha0]; rfl
    have oe7 : a0.eval (.tmp 7) = .pointer (some ⟨w.heap.size + 1, 0, none⟩) := by rw [← ha0]; rfl
    have oe8 : a0.eval (.tmp 8) = .pointer (some ⟨w.heap.size + 1 + 1, 0, none⟩) := by rw [← ha0]; rfl
    have oe9 : a0.eval (.tmp 9) = .pointer (some ⟨w.heap.size + 1 + 1 + 1, 0, none⟩) := by rw [← ha0]; rfl
    have hsz0 : a0.tmps.size = 83 := by rw [← ha0]; rfl
    have HA0 := Lib.hid ha0
    clear ha0
    refine wp_region_G 83 hsz0 (by kernel_rfl) (by kernel_rfl) [42, 43, 44, 45, 46, 47, 48, 49, 50, 51, 52, 53, 54, 15] (by kernel_rfl) (by decide) (fun _ => False) (fun _ _ => False) (fun _ _ h => h) Still (fun _ _ _ h => h) (fun _ _ _ hm h => hm.trans h (fun _ _ h => h.elim)) [gi (.agg #[.int .i64 a, .int .i64 b]), gi (.agg #[.int .i64 c, .int .i64 d]), gi (.bool false), gi (.bool false), gi (undef), gi (undef), gi (undef), gi (.bool false), gi (.bool false), gi (undef), gi (undef), gi (undef), gi (.bool false), gi (.bool false)] ⟨gi_stable, gi_stable, gi_stable, gi_stable, gi_stable, gi_stable, gi_stable, gi_stable, gi_stable, gi_stable, gi_stable, gi_stable, gi_stable, gi_stable, trivial⟩ [] (by kernel_rfl) (by decide) (by kernel_rfl) (fun _ _ => True) (fun _ _ _ _ _ => trivial) trivial ⟨?_, ?_, ?_, ?_, ?_, ?_, ?_, ?_, ?_, ?_, ?_, ?_, ?_, ?_, trivial⟩ ?_
    · intro tr act w' hm hout hsz hd hG hk hub
      exact jg_run (by rfl) rfl (wanted_none rfl) (ex_loadA rfl Try.underlying26 rfl (off := 0) (cs := [.int .i64 a, .int .i64 b]) (by kernel_rfl) ((hout 6 (by decide)).trans oe6) (Cs.whole (KN6.out.mod hm (fun h => h)))) (Mod.refl _ _) rfl
    · intro tr act w' hm hout hsz hd hG hk hub
      exact jg_run (by rfl) rfl (wanted_none rfl) (ex_loadA rfl Try.underlying26 rfl (off := 0) (cs := [.int .i64 c, .int .i64 d]) (by kernel_rfl) ((hout 7 (by decide)).trans oe7) (Cs.whole (KO6.out.mod hm (fun h => h)))) (Mod.refl _ _) rfl
    · intro tr act w' hm hout hsz hd hG hk hub
      have h0 := hd ⟨0, .data⟩ (by simp) rfl _ rfl
      have h1 := hd ⟨1, .data⟩ (by simp) rfl _ rfl
      refine jg_run (by rfl) rfl (wanted_none rfl) (ex_bin rfl h0 h1 (agg_guard _ _ _ _ _ _ (by kernel_rfl) _) (name_eql _ _ _ _ _)) (Mod.refl _ _) ?_
      exact congrArg Value.bool EN.out
    · intro tr act w' hm hout hsz hd hG hk hub
      have h2 := hd ⟨2, .data⟩ (by simp) rfl _ rfl
      exact jg_run (by rfl) rfl (wanted_none rfl) (ex_move rfl h2) (Mod.refl _ _) rfl
    · intro tr act w' hm hout hsz hd hG hk hub
      have h3 := hd ⟨3, .guard⟩ (by simp) rfl _ rfl
      exact jg_skip (fun _ _ _ h => h) (by rfl) rfl ((wanted_of rfl rfl (hsz 45 (by decide)) h3).trans rfl) rfl
    · intro tr act w' hm hout hsz hd hG hk hub
      have h3 := hd ⟨3, .guard⟩ (by simp) rfl _ rfl
      exact jg_skip (fun _ _ _ h => h) (by rfl) rfl ((wanted_of rfl rfl (hsz 45 (by decide)) h3).trans rfl) rfl
    · intro tr act w' hm hout hsz hd hG hk hub
      have h3 := hd ⟨3, .guard⟩ (by simp) rfl _ rfl
      exact jg_skip (fun _ _ _ h => h) (by rfl) rfl ((wanted_of rfl rfl (hsz 45 (by decide)) h3).trans rfl) rfl
    · intro tr act w' hm hout hsz hd hG hk hub
      have h3 := hd ⟨3, .data⟩ (by simp) rfl _ rfl
      have h6 := hd ⟨6, .data⟩ (by simp) rfl _ rfl
      exact jg_run (by rfl) rfl (wanted_none rfl) (ex_pick rfl h3 h6 rfl) (Mod.refl _ _) rfl
    · intro tr act w' hm hout hsz hd hG hk hub
      have h7 := hd ⟨7, .data⟩ (by simp) rfl _ rfl
      exact jg_run (by rfl) rfl (wanted_none rfl) (ex_move rfl h7) (Mod.refl _ _) rfl
    · intro tr act w' hm hout hsz hd hG hk hub
      have h8 := hd ⟨8, .guard⟩ (by simp) rfl _ rfl
      exact jg_skip (fun _ _ _ h => h) (by rfl) rfl ((wanted_of rfl rfl (hsz 50 (by decide)) h8).trans rfl) rfl
    · intro tr act w' hm hout hsz hd hG hk hub
      have h8 := hd ⟨8, .guard⟩ (by simp) rfl _ rfl
      exact jg_skip (fun _ _ _ h => h) (by rfl) rfl ((wanted_of rfl rfl (hsz 50 (by decide)) h8).trans rfl) rfl
    · intro tr act w' hm hout hsz hd hG hk hub
      have h8 := hd ⟨8, .guard⟩ (by simp) rfl _ rfl
      exact jg_skip (fun _ _ _ h => h) (by rfl) rfl ((wanted_of rfl rfl (hsz 50 (by decide)) h8).trans rfl) rfl
    · intro tr act w' hm hout hsz hd hG hk hub
      have h8 := hd ⟨8, .data⟩ (by simp) rfl _ rfl
      have h11 := hd ⟨11, .data⟩ (by simp) rfl _ rfl
      exact jg_run (by rfl) rfl (wanted_none rfl) (ex_pick rfl h8 h11 rfl) (Mod.refl _ _) rfl
    · intro tr act w' hm hout hsz hd hG hk hub
      have h12 := hd ⟨12, .data⟩ (by simp) rfl _ rfl
      exact jg_run (by rfl) rfl (wanted_none rfl) (ex_assign rfl h12) (Mod.refl _ _) rfl
    intro vs tr w7 hl htl hm hG hV
    obtain ⟨v0, vs0, rfl, hl0⟩ := list_cons hl
    obtain ⟨v1, vs1, rfl, hl1⟩ := list_cons hl0
    obtain ⟨v2, vs2, rfl, hl2⟩ := list_cons hl1
    obtain ⟨v3, vs3, rfl, hl3⟩ := list_cons hl2
    obtain ⟨v4, vs4, rfl, hl4⟩ := list_cons hl3
    obtain ⟨v5, vs5, rfl, hl5⟩ := list_cons hl4
    obtain ⟨v6, vs6, rfl, hl6⟩ := list_cons hl5
    obtain ⟨v7, vs7, rfl, hl7⟩ := list_cons hl6
    obtain ⟨v8, vs8, rfl, hl8⟩ := list_cons hl7
    obtain ⟨v9, vs9, rfl, hl9⟩ := list_cons hl8
    obtain ⟨v10, vs10, rfl, hl10⟩ := list_cons hl9
    obtain ⟨v11, vs11, rfl, hl11⟩ := list_cons hl10
    obtain ⟨v12, vs12, rfl, hl12⟩ := list_cons hl11
    obtain ⟨v13, vs13, rfl, hl13⟩ := list_cons hl12
    obtain rfl := list_nil hl13
    clear hl hl0 hl1 hl2 hl3 hl4 hl5 hl6 hl7 hl8 hl9 hl10 hl11 hl12 hl13
    obtain rfl : v13 = .bool false := hV 13 _ rfl
    have ha0 := HA0.out
    subst ha0
    clear HA0 hV hsz0 oe4 oe5 oe6 oe7 oe8 oe9
    simp only [putAll, Act.put, List.setIfInBounds_toArray, List.set_cons_zero, List.set_cons_succ]
    have KN7 := Lib.hid (KN6.out.mod hm (fun h => h))
    have KO7 := Lib.hid (KO6.out.mod hm (fun h => h))
    have KHa7 := Lib.hid (KHa6.out.mod hm (fun h => h))
    have KHb7 := Lib.hid (KHb6.out.mod hm (fun h => h))
    have KX := Lib.hid (KX6.out.mod hm (fun h => h))
    have KY := Lib.hid (KY6.out.mod hm (fun h => h))
    have HQ7 := Lib.hid (HQ6.out.mod hm (fun _ _ _ h => h))
    have KM7 := Lib.hid (KM6.out.trans hm (fun _ _ h => h))
    clear hm hG KN6 KO6 KHa6 KHb6 KX6 KY6 HQ6 HP6 KM6
    go_upto_region 8 with (fail)
    generalize ha0 : Act.mk _ _ = a0
    have oe4 : a0.eval (.tmp 4) = u' := by rw [← ha0]; rfl
    have oe5 : a0.eval (.tmp 5) = v' := by rw [← ha0]; rfl
    have oe6 : a0.eval (.tmp 6) = .pointer (some ⟨w.heap.size, 0, none⟩) := by rw [← ha0]; rfl
    have oe7 : a0.eval (.tmp 7) = .pointer (some ⟨w.heap.size + 1, 0, none⟩) := by rw [← ha0]; rfl
    have oe8 : a0.eval (.tmp 8) = .pointer (some ⟨w.heap.size + 1 + 1, 0, none⟩) := by rw [← ha0]; rfl
    have oe9 : a0.eval (.tmp 9) = .pointer (some ⟨w.heap.size + 1 + 1 + 1, 0, none⟩) := by rw [← ha0]; rfl
    have oe13 : a0.eval (.tmp 13) = .pointer (some ⟨q0, 0, none⟩) := by rw [← ha0]; rfl
    have oe14 : a0.eval (.tmp 14) = .pointer (some ⟨q1, 0, none⟩) := by rw [← ha0]; rfl
    have hsz0 : a0.tmps.size = 83 := by rw [← ha0]; rfl
    have HA0 := Lib.hid ha0
    clear ha0
    refine wp_region_G 83 hsz0 (by kernel_rfl) (by kernel_rfl) [70, 71, 72, 73, 74, 75, 76, 77, 78, 79, 80, 81, 82, 12] (by kernel_rfl) (by decide) (fun _ => False) (fun _ _ => False) (fun _ _ h => h) Still (fun _ _ _ h => h) (fun _ _ _ hm h => hm.trans h (fun _ _ h => h.elim)) [gi (hv (shaF (ofT a b ha ps))), gi (hv (shaF (ofT c d hb qs))), gi (.bool (decide ((shaF (ofT a b ha ps)) = (shaF (ofT c d hb qs))))), gi (hv (shaF (ofT a b ha ps))), gi (.agg #[.int .i64 c, .int .i64 d]), gi (v'), gi (hv hb), gi (.agg (opC 0 v' hb).toArray), gi (.bool (decide ((shaF (ofT a b ha ps)) = (shaF (ofT c d hb qs))))), gi (.bool true), gi (.bool true), gi (.bool true), gi (.bool true), gi (.bool true)] ⟨gi_stable, gi_stable, gi_stable, gi_stable, gi_stable, gi_stable, gi_stable, gi_stable, gi_stable, gi_stable, gi_stable, gi_stable, gi_stable, gi_stable, trivial⟩ [] (by kernel_rfl) (by decide) (by kernel_rfl) (fun _ _ => True) (fun _ _ _ _ _ => trivial) trivial ⟨?_, ?_, ?_, ?_, ?_, ?_, ?_, ?_, ?_, ?_, ?_, ?_, ?_, ?_, trivial⟩ ?_
    · intro tr act w' hm hout hsz hd hG hk hub
      exact jg_run (by rfl) rfl (wanted_none rfl) (ex_loadA rfl Try.underlying28 rfl (off := 0) (cs := (shaF (ofT a b ha ps)).map bv) (by rw [List.length_map, shaF_len]; exact size_hash) ((hout 13 (by decide)).trans oe13) (Cs.whole (KX.out.mod hm (fun h => h)))) (Mod.refl _ _) rfl
    · intro tr act w' hm hout hsz hd hG hk hub
      exact jg_run (by rfl) rfl (wanted_none rfl) (ex_loadA rfl Try.underlying28 rfl (off := 0) (cs := (shaF (ofT c d hb qs)).map bv) (by rw [List.length_map, shaF_len]; exact size_hash) ((hout 14 (by decide)).trans oe14) (Cs.whole (KY.out.mod hm (fun h => h)))) (Mod.refl _ _) rfl
    · intro tr act w' hm hout hsz hd hG hk hub
      have h0 := hd ⟨0, .data⟩ (by simp) rfl _ rfl
      have h1 := hd ⟨1, .data⟩ (by simp) rfl _ rfl
      exact jg_run (by rfl) rfl (wanted_none rfl) (ex_bin rfl h0 h1 (hv_guard2 _ _ _ _ _ _) (hv_eql (shaF_len _) (shaF_len _) _)) (Mod.refl _ _) rfl
    · intro tr act w' hm hout hsz hd hG hk hub
      exact jg_run (by rfl) rfl (wanted_none rfl) (ex_loadA rfl Try.underlying28 rfl (off := 0) (cs := (shaF (ofT a b ha ps)).map bv) (by rw [List.length_map, shaF_len]; exact size_hash) ((hout 13 (by decide)).trans oe13) (Cs.whole (KX.out.mod hm (fun h => h)))) (Mod.refl _ _) rfl
    · intro tr act w' hm hout hsz hd hG hk hub
      exact jg_run (by rfl) rfl (wanted_none rfl) (ex_loadA rfl Try.underlying26 rfl (off := 0) (cs := [.int .i64 c, .int .i64 d]) (by kernel_rfl) ((hout 7 (by decide)).trans oe7) (Cs.whole (KO7.out.mod hm (fun h => h)))) (Mod.refl _ _) rfl
    · intro tr act w' hm hout hsz hd hG hk hub
      exact jg_run (by rfl) rfl (wanted_none rfl) (ex_move rfl ((hout 5 (by decide)).trans oe5)) (Mod.refl _ _) rfl
    · intro tr act w' hm hout hsz hd hG hk hub
      exact jg_run (by rfl) rfl (wanted_none rfl) (ex_loadA rfl Try.underlying28 rfl (off := 0) (cs := hb.map bv) (by rw [List.length_map, HHb.out.1]; exact size_hash) ((hout 9 (by decide)).trans oe9) (Cs.whole (KHb7.out.mod hm (fun h => h)))) (Mod.refl _ _) rfl
    · intro tr act w' hm hout hsz hd hG hk hub
      have h5 := hd ⟨5, .data⟩ (by simp) rfl _ rfl
      have h6 := hd ⟨6, .data⟩ (by simp) rfl _ rfl
      exact jg_run (by rfl) rfl (wanted_none rfl) (ex_build rfl (z := [.int .i64 0, .slice none 0 0, .int .u8 0, .int .u8 0, .int .u8 0, .int .u8 0, .int .u8 0, .int .u8 0, .int .u8 0, .int .u8 0, .int .u8 0, .int .u8 0, .int .u8 0, .int .u8 0, .int .u8 0, .int .u8 0, .int .u8 0, .int .u8 0, .int .u8 0, .int .u8 0, .int .u8 0, .int .u8 0, .int .u8 0, .int .u8 0, .int .u8 0, .int .u8 0, .int .u8 0, .int .u8 0, .int .u8 0, .int .u8 0, .int .u8 0, .int .u8 0, .int .u8 0, .int .u8 0]) (places := [(0, 1), (1, 1), (2, 32)]) (by kernel_rfl) (parts := [(1, v'), (2, hv hb)]) (by simp only [List.map_toArray, List.map_cons, List.map_nil, show act.eval (.tmp 75) = _ from h5, show act.eval (.tmp 76) = _ from h6]; try rfl) (r := opC 0 v' hb) (by exact laid_op1 HHb.out.1 (by rw [HVQ.out]; rfl))) (Mod.refl _ _) rfl
    · intro tr act w' hm hout hsz hd hG hk hub
      have h3 := hd ⟨3, .data⟩ (by simp) rfl _ rfl
      have h4 := hd ⟨4, .data⟩ (by simp) rfl _ rfl
      have h7 := hd ⟨7, .data⟩ (by simp) rfl _ rfl
      refine jg_call (args := #[hv (shaF (ofT a b ha ps)), .agg #[.int .i64 c, .int .i64 d], .agg (opC 0 v' hb).toArray]) (by rfl) rfl (wanted_none rfl) (by rw [ex_callF rfl Try.func26 (by kernel_rfl) (by kernel_rfl)]; exact congrArg (fun z => Result.ok (Next.enter _ z) _) (by simp only [List.map_toArray, List.map_cons, List.map_nil, show act.eval (.tmp 73) = _ from h3, show act.eval (.tmp 74) = _ from h4, show act.eval (.tmp 77) = _ from h7]; try rfl)) (Matches_any (shaF (ofT a b ha ps)) c d 0 hb qs v' _ (shaF_len _) HC.out HD.out HHb.out (HQ7.out.mod hm (fun _ _ _ h => h)) (by have := HLQ.out; omega)) ?_
      rintro e w2 ⟨rfl, hm2⟩
      exact ⟨_, rfl, hm2, rfl⟩
    · intro tr act w' hm hout hsz hd hG hk hub
      have h2 := hd ⟨2, .data⟩ (by simp) rfl _ rfl
      have h8 := hd ⟨8, .data⟩ (by simp) rfl _ rfl
      refine jg_run (by rfl) rfl (wanted_none rfl) (ex_bin rfl h2 h8 (guard_bools _ _ _ _ _ _) (run_eql_bools _ _ _ Try.underlying4)) (Mod.refl _ _) ?_
      exact congrArg Value.bool (beq_self_eq_true _)
    · intro tr act w' hm hout hsz hd hG hk hub
      have h9 := hd ⟨9, .data⟩ (by simp) rfl _ rfl
      exact jg_run (by rfl) rfl (wanted_none rfl) (ex_move rfl h9) (Mod.refl _ _) rfl
    · intro tr act w' hm hout hsz hd hG hk hub
      have h10 := hd ⟨10, .guard⟩ (by simp) rfl _ rfl
      refine jg_call (args := #[]) (by rfl) rfl ((wanted_of rfl rfl (hsz 80 (by decide)) h10).trans rfl) (by rw [ex_callF rfl Try.func16 (by kernel_rfl) (by kernel_rfl)]; simp) (wakes04 _) ?_
      rintro e w2 ⟨rfl, hm2⟩
      exact ⟨_, rfl, hm2, rfl⟩
    · intro tr act w' hm hout hsz hd hG hk hub
      have h10 := hd ⟨10, .data⟩ (by simp) rfl _ rfl
      have h11 := hd ⟨11, .data⟩ (by simp) rfl _ rfl
      exact jg_run (by rfl) rfl (wanted_none rfl) (ex_pick rfl h10 h11 rfl) (Mod.refl _ _) rfl
    · intro tr act w' hm hout hsz hd hG hk hub
      have h12 := hd ⟨12, .data⟩ (by simp) rfl _ rfl
      exact jg_run (by rfl) rfl (wanted_none rfl) (ex_assign rfl h12) (Mod.refl _ _) rfl
    intro vs tr w8 hl htl hm hG hV
    obtain ⟨v0x, vs0, rfl, hl0⟩ := list_cons hl
    obtain ⟨v1x, vs1, rfl, hl1⟩ := list_cons hl0
    obtain ⟨v2x, vs2, rfl, hl2⟩ := list_cons hl1
    obtain ⟨v3x, vs3, rfl, hl3⟩ := list_cons hl2
    obtain ⟨v4x, vs4, rfl, hl4⟩ := list_cons hl3
    obtain ⟨v5x, vs5, rfl, hl5⟩ := list_cons hl4
    obtain ⟨v6x, vs6, rfl, hl6⟩ := list_cons hl5
    obtain ⟨v7x, vs7, rfl, hl7⟩ := list_cons hl6
    obtain ⟨v8x, vs8, rfl, hl8⟩ := list_cons hl7
    obtain ⟨v9x, vs9, rfl, hl9⟩ := list_cons hl8
    obtain ⟨v10x, vs10, rfl, hl10⟩ := list_cons hl9
    obtain ⟨v11x, vs11, rfl, hl11⟩ := list_cons hl10
    obtain ⟨v12x, vs12, rfl, hl12⟩ := list_cons hl11
    obtain ⟨v13x, vs13, rfl, hl13⟩ := list_cons hl12
    obtain rfl := list_nil hl13
    clear hl hl0 hl1 hl2 hl3 hl4 hl5 hl6 hl7 hl8 hl9 hl10 hl11 hl12 hl13
    obtain rfl : v13x = .bool true := hV 13 _ rfl
    have ha0 := HA0.out
    subst ha0
    clear HA0 hV hsz0 oe4 oe5 oe6 oe7 oe8 oe9 oe13 oe14
    simp only [putAll, Act.put, List.setIfInBounds_toArray, List.set_cons_zero, List.set_cons_succ]
    have KM8 := Lib.hid (KM7.out.trans hm (fun _ _ h => h))
    clear hm hG
    go_wp2
    go_ret
    exact ⟨rfl, KM8.out⟩
  | true =>
    have EN := Lib.hid hN
    clear hN
    cases hH : decide (ha = hb) with
    | false =>
      have EH := Lib.hid hH
      clear hH
      go_upto_region 5 with (fail)
      generalize ha0 : Act.mk _ _ = a0
      have oe4 : a0.eval (.tmp 4) = u' := by rw [← ha0]; rfl
      have oe5 : a0.eval (.tmp 5) = v' := by rw [← ha0]; rfl
      have oe6 : a0.eval (.tmp 6) = .pointer (some ⟨w.heap.size, 0, none⟩) := by rw [← ha0]; rfl
      have oe7 : a0.eval (.tmp 7) = .pointer (some ⟨w.heap.size + 1, 0, none⟩) := by rw [← ha0]; rfl
      have oe8 : a0.eval (.tmp 8) = .pointer (some ⟨w.heap.size + 1 + 1, 0, none⟩) := by rw [← ha0]; rfl
      have oe9 : a0.eval (.tmp 9) = .pointer (some ⟨w.heap.size + 1 + 1 + 1, 0, none⟩) := by rw [← ha0]; rfl
      have hsz0 : a0.tmps.size = 83 := by rw [← ha0]; rfl
      have HA0 := Lib.hid ha0
      clear ha0
      refine wp_region_G 83 hsz0 (by kernel_rfl) (by kernel_rfl) [42, 43, 44, 45, 46, 47, 48, 49, 50, 51, 52, 53, 54, 15] (by kernel_rfl) (by decide) (fun _ => False) (fun _ _ => False) (fun _ _ h => h) Still (fun _ _ _ h => h) (fun _ _ _ hm h => hm.trans h (fun _ _ h => h.elim)) [gi (.agg #[.int .i64 a, .int .i64 b]), gi (.agg #[.int .i64 c, .int .i64 d]), gi (.bool true), gi (.bool true), gi (hv ha), gi (hv hb), gi (.bool false), gi (.bool false), gi (.bool false), gi (undef), gi (undef), gi (undef), gi (.bool false), gi (.bool false)] ⟨gi_stable, gi_stable, gi_stable, gi_stable, gi_stable, gi_stable, gi_stable, gi_stable, gi_stable, gi_stable, gi_stable, gi_stable, gi_stable, gi_stable, trivial⟩ [] (by kernel_rfl) (by decide) (by kernel_rfl) (fun _ _ => True) (fun _ _ _ _ _ => trivial) trivial ⟨?_, ?_, ?_, ?_, ?_, ?_, ?_, ?_, ?_, ?_, ?_, ?_, ?_, ?_, trivial⟩ ?_
      · intro tr act w' hm hout hsz hd hG hk hub
        exact jg_run (by rfl) rfl (wanted_none rfl) (ex_loadA rfl Try.underlying26 rfl (off := 0) (cs := [.int .i64 a, .int .i64 b]) (by kernel_rfl) ((hout 6 (by decide)).trans oe6) (Cs.whole (KN6.out.mod hm (fun h => h)))) (Mod.refl _ _) rfl
      · intro tr act w' hm hout hsz hd hG hk hub
        exact jg_run (by rfl) rfl (wanted_none rfl) (ex_loadA rfl Try.underlying26 rfl (off := 0) (cs := [.int .i64 c, .int .i64 d]) (by kernel_rfl) ((hout 7 (by decide)).trans oe7) (Cs.whole (KO6.out.mod hm (fun h => h)))) (Mod.refl _ _) rfl
      · intro tr act w' hm hout hsz hd hG hk hub
        have h0 := hd ⟨0, .data⟩ (by simp) rfl _ rfl
        have h1 := hd ⟨1, .data⟩ (by simp) rfl _ rfl
        refine jg_run (by rfl) rfl (wanted_none rfl) (ex_bin rfl h0 h1 (agg_guard _ _ _ _ _ _ (by kernel_rfl) _) (name_eql _ _ _ _ _)) (Mod.refl _ _) ?_
        exact congrArg Value.bool EN.out
      · intro tr act w' hm hout hsz hd hG hk hub
        have h2 := hd ⟨2, .data⟩ (by simp) rfl _ rfl
        exact jg_run (by rfl) rfl (wanted_none rfl) (ex_move rfl h2) (Mod.refl _ _) rfl
      · intro tr act w' hm hout hsz hd hG hk hub
        have h3 := hd ⟨3, .guard⟩ (by simp) rfl _ rfl
        exact jg_run (by rfl) rfl ((wanted_of rfl rfl (hsz 45 (by decide)) h3).trans rfl) (ex_loadA rfl Try.underlying28 rfl (off := 0) (cs := ha.map bv) (by rw [List.length_map, HHa.out.1]; exact size_hash) ((hout 8 (by decide)).trans oe8) (Cs.whole (KHa6.out.mod hm (fun h => h)))) (Mod.refl _ _) rfl
      · intro tr act w' hm hout hsz hd hG hk hub
        have h3 := hd ⟨3, .guard⟩ (by simp) rfl _ rfl
        exact jg_run (by rfl) rfl ((wanted_of rfl rfl (hsz 45 (by decide)) h3).trans rfl) (ex_loadA rfl Try.underlying28 rfl (off := 0) (cs := hb.map bv) (by rw [List.length_map, HHb.out.1]; exact size_hash) ((hout 9 (by decide)).trans oe9) (Cs.whole (KHb6.out.mod hm (fun h => h)))) (Mod.refl _ _) rfl
      · intro tr act w' hm hout hsz hd hG hk hub
        have h3 := hd ⟨3, .guard⟩ (by simp) rfl _ rfl
        have h4 := hd ⟨4, .data⟩ (by simp) rfl _ rfl
        have h5 := hd ⟨5, .data⟩ (by simp) rfl _ rfl
        refine jg_run (by rfl) rfl ((wanted_of rfl rfl (hsz 45 (by decide)) h3).trans rfl) (ex_bin rfl h4 h5 (hv_guard2 _ _ _ _ _ _) (hv_eql HHa.out.1 HHb.out.1 _)) (Mod.refl _ _) ?_
        exact congrArg Value.bool EH.out
      · intro tr act w' hm hout hsz hd hG hk hub
        have h3 := hd ⟨3, .data⟩ (by simp) rfl _ rfl
        have h6 := hd ⟨6, .data⟩ (by simp) rfl _ rfl
        exact jg_run (by rfl) rfl (wanted_none rfl) (ex_pick rfl h3 h6 rfl) (Mod.refl _ _) rfl
      · intro tr act w' hm hout hsz hd hG hk hub
        have h7 := hd ⟨7, .data⟩ (by simp) rfl _ rfl
        exact jg_run (by rfl) rfl (wanted_none rfl) (ex_move rfl h7) (Mod.refl _ _) rfl
      · intro tr act w' hm hout hsz hd hG hk hub
        have h8 := hd ⟨8, .guard⟩ (by simp) rfl _ rfl
        exact jg_skip (fun _ _ _ h => h) (by rfl) rfl ((wanted_of rfl rfl (hsz 50 (by decide)) h8).trans rfl) rfl
      · intro tr act w' hm hout hsz hd hG hk hub
        have h8 := hd ⟨8, .guard⟩ (by simp) rfl _ rfl
        exact jg_skip (fun _ _ _ h => h) (by rfl) rfl ((wanted_of rfl rfl (hsz 50 (by decide)) h8).trans rfl) rfl
      · intro tr act w' hm hout hsz hd hG hk hub
        have h8 := hd ⟨8, .guard⟩ (by simp) rfl _ rfl
        exact jg_skip (fun _ _ _ h => h) (by rfl) rfl ((wanted_of rfl rfl (hsz 50 (by decide)) h8).trans rfl) rfl
      · intro tr act w' hm hout hsz hd hG hk hub
        have h8 := hd ⟨8, .data⟩ (by simp) rfl _ rfl
        have h11 := hd ⟨11, .data⟩ (by simp) rfl _ rfl
        exact jg_run (by rfl) rfl (wanted_none rfl) (ex_pick rfl h8 h11 rfl) (Mod.refl _ _) rfl
      · intro tr act w' hm hout hsz hd hG hk hub
        have h12 := hd ⟨12, .data⟩ (by simp) rfl _ rfl
        exact jg_run (by rfl) rfl (wanted_none rfl) (ex_assign rfl h12) (Mod.refl _ _) rfl
      intro vs tr w7 hl htl hm hG hV
      obtain ⟨v0, vs0, rfl, hl0⟩ := list_cons hl
      obtain ⟨v1, vs1, rfl, hl1⟩ := list_cons hl0
      obtain ⟨v2, vs2, rfl, hl2⟩ := list_cons hl1
      obtain ⟨v3, vs3, rfl, hl3⟩ := list_cons hl2
      obtain ⟨v4, vs4, rfl, hl4⟩ := list_cons hl3
      obtain ⟨v5, vs5, rfl, hl5⟩ := list_cons hl4
      obtain ⟨v6, vs6, rfl, hl6⟩ := list_cons hl5
      obtain ⟨v7, vs7, rfl, hl7⟩ := list_cons hl6
      obtain ⟨v8, vs8, rfl, hl8⟩ := list_cons hl7
      obtain ⟨v9, vs9, rfl, hl9⟩ := list_cons hl8
      obtain ⟨v10, vs10, rfl, hl10⟩ := list_cons hl9
      obtain ⟨v11, vs11, rfl, hl11⟩ := list_cons hl10
      obtain ⟨v12, vs12, rfl, hl12⟩ := list_cons hl11
      obtain ⟨v13, vs13, rfl, hl13⟩ := list_cons hl12
      obtain rfl := list_nil hl13
      clear hl hl0 hl1 hl2 hl3 hl4 hl5 hl6 hl7 hl8 hl9 hl10 hl11 hl12 hl13
      obtain rfl : v13 = .bool false := hV 13 _ rfl
      have ha0 := HA0.out
      subst ha0
      clear HA0 hV hsz0 oe4 oe5 oe6 oe7 oe8 oe9
      simp only [putAll, Act.put, List.setIfInBounds_toArray, List.set_cons_zero, List.set_cons_succ]
      have KN7 := Lib.hid (KN6.out.mod hm (fun h => h))
      have KO7 := Lib.hid (KO6.out.mod hm (fun h => h))
      have KHa7 := Lib.hid (KHa6.out.mod hm (fun h => h))
      have KHb7 := Lib.hid (KHb6.out.mod hm (fun h => h))
      have KX := Lib.hid (KX6.out.mod hm (fun h => h))
      have KY := Lib.hid (KY6.out.mod hm (fun h => h))
      have HQ7 := Lib.hid (HQ6.out.mod hm (fun _ _ _ h => h))
      have KM7 := Lib.hid (KM6.out.trans hm (fun _ _ h => h))
      clear hm hG KN6 KO6 KHa6 KHb6 KX6 KY6 HQ6 HP6 KM6
      go_upto_region 8 with (fail)
      generalize ha0 : Act.mk _ _ = a0
      have oe4 : a0.eval (.tmp 4) = u' := by rw [← ha0]; rfl
      have oe5 : a0.eval (.tmp 5) = v' := by rw [← ha0]; rfl
      have oe6 : a0.eval (.tmp 6) = .pointer (some ⟨w.heap.size, 0, none⟩) := by rw [← ha0]; rfl
      have oe7 : a0.eval (.tmp 7) = .pointer (some ⟨w.heap.size + 1, 0, none⟩) := by rw [← ha0]; rfl
      have oe8 : a0.eval (.tmp 8) = .pointer (some ⟨w.heap.size + 1 + 1, 0, none⟩) := by rw [← ha0]; rfl
      have oe9 : a0.eval (.tmp 9) = .pointer (some ⟨w.heap.size + 1 + 1 + 1, 0, none⟩) := by rw [← ha0]; rfl
      have oe13 : a0.eval (.tmp 13) = .pointer (some ⟨q0, 0, none⟩) := by rw [← ha0]; rfl
      have oe14 : a0.eval (.tmp 14) = .pointer (some ⟨q1, 0, none⟩) := by rw [← ha0]; rfl
      have hsz0 : a0.tmps.size = 83 := by rw [← ha0]; rfl
      have HA0 := Lib.hid ha0
      clear ha0
      refine wp_region_G 83 hsz0 (by kernel_rfl) (by kernel_rfl) [70, 71, 72, 73, 74, 75, 76, 77, 78, 79, 80, 81, 82, 12] (by kernel_rfl) (by decide) (fun _ => False) (fun _ _ => False) (fun _ _ h => h) Still (fun _ _ _ h => h) (fun _ _ _ hm h => hm.trans h (fun _ _ h => h.elim)) [gi (hv (shaF (ofT a b ha ps))), gi (hv (shaF (ofT c d hb qs))), gi (.bool (decide ((shaF (ofT a b ha ps)) = (shaF (ofT c d hb qs))))), gi (hv (shaF (ofT a b ha ps))), gi (.agg #[.int .i64 c, .int .i64 d]), gi (v'), gi (hv hb), gi (.agg (opC 0 v' hb).toArray), gi (.bool (decide ((shaF (ofT a b ha ps)) = (shaF (ofT c d hb qs))))), gi (.bool true), gi (.bool true), gi (.bool true), gi (.bool true), gi (.bool true)] ⟨gi_stable, gi_stable, gi_stable, gi_stable, gi_stable, gi_stable, gi_stable, gi_stable, gi_stable, gi_stable, gi_stable, gi_stable, gi_stable, gi_stable, trivial⟩ [] (by kernel_rfl) (by decide) (by kernel_rfl) (fun _ _ => True) (fun _ _ _ _ _ => trivial) trivial ⟨?_, ?_, ?_, ?_, ?_, ?_, ?_, ?_, ?_, ?_, ?_, ?_, ?_, ?_, trivial⟩ ?_
      · intro tr act w' hm hout hsz hd hG hk hub
        exact jg_run (by rfl) rfl (wanted_none rfl) (ex_loadA rfl Try.underlying28 rfl (off := 0) (cs := (shaF (ofT a b ha ps)).map bv) (by rw [List.length_map, shaF_len]; exact size_hash) ((hout 13 (by decide)).trans oe13) (Cs.whole (KX.out.mod hm (fun h => h)))) (Mod.refl _ _) rfl
      · intro tr act w' hm hout hsz hd hG hk hub
        exact jg_run (by rfl) rfl (wanted_none rfl) (ex_loadA rfl Try.underlying28 rfl (off := 0) (cs := (shaF (ofT c d hb qs)).map bv) (by rw [List.length_map, shaF_len]; exact size_hash) ((hout 14 (by decide)).trans oe14) (Cs.whole (KY.out.mod hm (fun h => h)))) (Mod.refl _ _) rfl
      · intro tr act w' hm hout hsz hd hG hk hub
        have h0 := hd ⟨0, .data⟩ (by simp) rfl _ rfl
        have h1 := hd ⟨1, .data⟩ (by simp) rfl _ rfl
        exact jg_run (by rfl) rfl (wanted_none rfl) (ex_bin rfl h0 h1 (hv_guard2 _ _ _ _ _ _) (hv_eql (shaF_len _) (shaF_len _) _)) (Mod.refl _ _) rfl
      · intro tr act w' hm hout hsz hd hG hk hub
        exact jg_run (by rfl) rfl (wanted_none rfl) (ex_loadA rfl Try.underlying28 rfl (off := 0) (cs := (shaF (ofT a b ha ps)).map bv) (by rw [List.length_map, shaF_len]; exact size_hash) ((hout 13 (by decide)).trans oe13) (Cs.whole (KX.out.mod hm (fun h => h)))) (Mod.refl _ _) rfl
      · intro tr act w' hm hout hsz hd hG hk hub
        exact jg_run (by rfl) rfl (wanted_none rfl) (ex_loadA rfl Try.underlying26 rfl (off := 0) (cs := [.int .i64 c, .int .i64 d]) (by kernel_rfl) ((hout 7 (by decide)).trans oe7) (Cs.whole (KO7.out.mod hm (fun h => h)))) (Mod.refl _ _) rfl
      · intro tr act w' hm hout hsz hd hG hk hub
        exact jg_run (by rfl) rfl (wanted_none rfl) (ex_move rfl ((hout 5 (by decide)).trans oe5)) (Mod.refl _ _) rfl
      · intro tr act w' hm hout hsz hd hG hk hub
        exact jg_run (by rfl) rfl (wanted_none rfl) (ex_loadA rfl Try.underlying28 rfl (off := 0) (cs := hb.map bv) (by rw [List.length_map, HHb.out.1]; exact size_hash) ((hout 9 (by decide)).trans oe9) (Cs.whole (KHb7.out.mod hm (fun h => h)))) (Mod.refl _ _) rfl
      · intro tr act w' hm hout hsz hd hG hk hub
        have h5 := hd ⟨5, .data⟩ (by simp) rfl _ rfl
        have h6 := hd ⟨6, .data⟩ (by simp) rfl _ rfl
        exact jg_run (by rfl) rfl (wanted_none rfl) (ex_build rfl (z := [.int .i64 0, .slice none 0 0, .int .u8 0, .int .u8 0, .int .u8 0, .int .u8 0, .int .u8 0, .int .u8 0, .int .u8 0, .int .u8 0, .int .u8 0, .int .u8 0, .int .u8 0, .int .u8 0, .int .u8 0, .int .u8 0, .int .u8 0, .int .u8 0, .int .u8 0, .int .u8 0, .int .u8 0, .int .u8 0, .int .u8 0, .int .u8 0, .int .u8 0, .int .u8 0, .int .u8 0, .int .u8 0, .int .u8 0, .int .u8 0, .int .u8 0, .int .u8 0, .int .u8 0, .int .u8 0]) (places := [(0, 1), (1, 1), (2, 32)]) (by kernel_rfl) (parts := [(1, v'), (2, hv hb)]) (by simp only [List.map_toArray, List.map_cons, List.map_nil, show act.eval (.tmp 75) = _ from h5, show act.eval (.tmp 76) = _ from h6]; try rfl) (r := opC 0 v' hb) (by exact laid_op1 HHb.out.1 (by rw [HVQ.out]; rfl))) (Mod.refl _ _) rfl
      · intro tr act w' hm hout hsz hd hG hk hub
        have h3 := hd ⟨3, .data⟩ (by simp) rfl _ rfl
        have h4 := hd ⟨4, .data⟩ (by simp) rfl _ rfl
        have h7 := hd ⟨7, .data⟩ (by simp) rfl _ rfl
        refine jg_call (args := #[hv (shaF (ofT a b ha ps)), .agg #[.int .i64 c, .int .i64 d], .agg (opC 0 v' hb).toArray]) (by rfl) rfl (wanted_none rfl) (by rw [ex_callF rfl Try.func26 (by kernel_rfl) (by kernel_rfl)]; exact congrArg (fun z => Result.ok (Next.enter _ z) _) (by simp only [List.map_toArray, List.map_cons, List.map_nil, show act.eval (.tmp 73) = _ from h3, show act.eval (.tmp 74) = _ from h4, show act.eval (.tmp 77) = _ from h7]; try rfl)) (Matches_any (shaF (ofT a b ha ps)) c d 0 hb qs v' _ (shaF_len _) HC.out HD.out HHb.out (HQ7.out.mod hm (fun _ _ _ h => h)) (by have := HLQ.out; omega)) ?_
        rintro e w2 ⟨rfl, hm2⟩
        exact ⟨_, rfl, hm2, rfl⟩
      · intro tr act w' hm hout hsz hd hG hk hub
        have h2 := hd ⟨2, .data⟩ (by simp) rfl _ rfl
        have h8 := hd ⟨8, .data⟩ (by simp) rfl _ rfl
        refine jg_run (by rfl) rfl (wanted_none rfl) (ex_bin rfl h2 h8 (guard_bools _ _ _ _ _ _) (run_eql_bools _ _ _ Try.underlying4)) (Mod.refl _ _) ?_
        exact congrArg Value.bool (beq_self_eq_true _)
      · intro tr act w' hm hout hsz hd hG hk hub
        have h9 := hd ⟨9, .data⟩ (by simp) rfl _ rfl
        exact jg_run (by rfl) rfl (wanted_none rfl) (ex_move rfl h9) (Mod.refl _ _) rfl
      · intro tr act w' hm hout hsz hd hG hk hub
        have h10 := hd ⟨10, .guard⟩ (by simp) rfl _ rfl
        refine jg_call (args := #[]) (by rfl) rfl ((wanted_of rfl rfl (hsz 80 (by decide)) h10).trans rfl) (by rw [ex_callF rfl Try.func16 (by kernel_rfl) (by kernel_rfl)]; simp) (wakes04 _) ?_
        rintro e w2 ⟨rfl, hm2⟩
        exact ⟨_, rfl, hm2, rfl⟩
      · intro tr act w' hm hout hsz hd hG hk hub
        have h10 := hd ⟨10, .data⟩ (by simp) rfl _ rfl
        have h11 := hd ⟨11, .data⟩ (by simp) rfl _ rfl
        exact jg_run (by rfl) rfl (wanted_none rfl) (ex_pick rfl h10 h11 rfl) (Mod.refl _ _) rfl
      · intro tr act w' hm hout hsz hd hG hk hub
        have h12 := hd ⟨12, .data⟩ (by simp) rfl _ rfl
        exact jg_run (by rfl) rfl (wanted_none rfl) (ex_assign rfl h12) (Mod.refl _ _) rfl
      intro vs tr w8 hl htl hm hG hV
      obtain ⟨v0x, vs0, rfl, hl0⟩ := list_cons hl
      obtain ⟨v1x, vs1, rfl, hl1⟩ := list_cons hl0
      obtain ⟨v2x, vs2, rfl, hl2⟩ := list_cons hl1
      obtain ⟨v3x, vs3, rfl, hl3⟩ := list_cons hl2
      obtain ⟨v4x, vs4, rfl, hl4⟩ := list_cons hl3
      obtain ⟨v5x, vs5, rfl, hl5⟩ := list_cons hl4
      obtain ⟨v6x, vs6, rfl, hl6⟩ := list_cons hl5
      obtain ⟨v7x, vs7, rfl, hl7⟩ := list_cons hl6
      obtain ⟨v8x, vs8, rfl, hl8⟩ := list_cons hl7
      obtain ⟨v9x, vs9, rfl, hl9⟩ := list_cons hl8
      obtain ⟨v10x, vs10, rfl, hl10⟩ := list_cons hl9
      obtain ⟨v11x, vs11, rfl, hl11⟩ := list_cons hl10
      obtain ⟨v12x, vs12, rfl, hl12⟩ := list_cons hl11
      obtain ⟨v13x, vs13, rfl, hl13⟩ := list_cons hl12
      obtain rfl := list_nil hl13
      clear hl hl0 hl1 hl2 hl3 hl4 hl5 hl6 hl7 hl8 hl9 hl10 hl11 hl12 hl13
      obtain rfl : v13x = .bool true := hV 13 _ rfl
      have ha0 := HA0.out
      subst ha0
      clear HA0 hV hsz0 oe4 oe5 oe6 oe7 oe8 oe9 oe13 oe14
      simp only [putAll, Act.put, List.setIfInBounds_toArray, List.set_cons_zero, List.set_cons_succ]
      have KM8 := Lib.hid (KM7.out.trans hm (fun _ _ h => h))
      clear hm hG
      go_wp2
      go_ret
      exact ⟨rfl, KM8.out⟩
    | true =>
      have EH := Lib.hid hH
      clear hH
      cases hS : decide (ps = qs) with
      | false =>
        have ES := Lib.hid hS
        clear hS
        go_upto_region 5 with (fail)
        generalize ha0 : Act.mk _ _ = a0
        have oe4 : a0.eval (.tmp 4) = u' := by rw [← ha0]; rfl
        have oe5 : a0.eval (.tmp 5) = v' := by rw [← ha0]; rfl
        have oe6 : a0.eval (.tmp 6) = .pointer (some ⟨w.heap.size, 0, none⟩) := by rw [← ha0]; rfl
        have oe7 : a0.eval (.tmp 7) = .pointer (some ⟨w.heap.size + 1, 0, none⟩) := by rw [← ha0]; rfl
        have oe8 : a0.eval (.tmp 8) = .pointer (some ⟨w.heap.size + 1 + 1, 0, none⟩) := by rw [← ha0]; rfl
        have oe9 : a0.eval (.tmp 9) = .pointer (some ⟨w.heap.size + 1 + 1 + 1, 0, none⟩) := by rw [← ha0]; rfl
        have hsz0 : a0.tmps.size = 83 := by rw [← ha0]; rfl
        have HA0 := Lib.hid ha0
        clear ha0
        refine wp_region_G 83 hsz0 (by kernel_rfl) (by kernel_rfl) [42, 43, 44, 45, 46, 47, 48, 49, 50, 51, 52, 53, 54, 15] (by kernel_rfl) (by decide) (fun _ => False) (fun _ _ => False) (fun _ _ h => h) Still (fun _ _ _ h => h) (fun _ _ _ hm h => hm.trans h (fun _ _ h => h.elim)) [gi (.agg #[.int .i64 a, .int .i64 b]), gi (.agg #[.int .i64 c, .int .i64 d]), gi (.bool true), gi (.bool true), gi (hv ha), gi (hv hb), gi (.bool true), gi (.bool true), gi (.bool true), gi (u'), gi (v'), gi (.bool false), gi (.bool false), gi (.bool false)] ⟨gi_stable, gi_stable, gi_stable, gi_stable, gi_stable, gi_stable, gi_stable, gi_stable, gi_stable, gi_stable, gi_stable, gi_stable, gi_stable, gi_stable, trivial⟩ [] (by kernel_rfl) (by decide) (by kernel_rfl) (fun _ _ => True) (fun _ _ _ _ _ => trivial) trivial ⟨?_, ?_, ?_, ?_, ?_, ?_, ?_, ?_, ?_, ?_, ?_, ?_, ?_, ?_, trivial⟩ ?_
        · intro tr act w' hm hout hsz hd hG hk hub
          exact jg_run (by rfl) rfl (wanted_none rfl) (ex_loadA rfl Try.underlying26 rfl (off := 0) (cs := [.int .i64 a, .int .i64 b]) (by kernel_rfl) ((hout 6 (by decide)).trans oe6) (Cs.whole (KN6.out.mod hm (fun h => h)))) (Mod.refl _ _) rfl
        · intro tr act w' hm hout hsz hd hG hk hub
          exact jg_run (by rfl) rfl (wanted_none rfl) (ex_loadA rfl Try.underlying26 rfl (off := 0) (cs := [.int .i64 c, .int .i64 d]) (by kernel_rfl) ((hout 7 (by decide)).trans oe7) (Cs.whole (KO6.out.mod hm (fun h => h)))) (Mod.refl _ _) rfl
        · intro tr act w' hm hout hsz hd hG hk hub
          have h0 := hd ⟨0, .data⟩ (by simp) rfl _ rfl
          have h1 := hd ⟨1, .data⟩ (by simp) rfl _ rfl
          refine jg_run (by rfl) rfl (wanted_none rfl) (ex_bin rfl h0 h1 (agg_guard _ _ _ _ _ _ (by kernel_rfl) _) (name_eql _ _ _ _ _)) (Mod.refl _ _) ?_
          exact congrArg Value.bool EN.out
        · intro tr act w' hm hout hsz hd hG hk hub
          have h2 := hd ⟨2, .data⟩ (by simp) rfl _ rfl
          exact jg_run (by rfl) rfl (wanted_none rfl) (ex_move rfl h2) (Mod.refl _ _) rfl
        · intro tr act w' hm hout hsz hd hG hk hub
          have h3 := hd ⟨3, .guard⟩ (by simp) rfl _ rfl
          exact jg_run (by rfl) rfl ((wanted_of rfl rfl (hsz 45 (by decide)) h3).trans rfl) (ex_loadA rfl Try.underlying28 rfl (off := 0) (cs := ha.map bv) (by rw [List.length_map, HHa.out.1]; exact size_hash) ((hout 8 (by decide)).trans oe8) (Cs.whole (KHa6.out.mod hm (fun h => h)))) (Mod.refl _ _) rfl
        · intro tr act w' hm hout hsz hd hG hk hub
          have h3 := hd ⟨3, .guard⟩ (by simp) rfl _ rfl
          exact jg_run (by rfl) rfl ((wanted_of rfl rfl (hsz 45 (by decide)) h3).trans rfl) (ex_loadA rfl Try.underlying28 rfl (off := 0) (cs := hb.map bv) (by rw [List.length_map, HHb.out.1]; exact size_hash) ((hout 9 (by decide)).trans oe9) (Cs.whole (KHb6.out.mod hm (fun h => h)))) (Mod.refl _ _) rfl
        · intro tr act w' hm hout hsz hd hG hk hub
          have h3 := hd ⟨3, .guard⟩ (by simp) rfl _ rfl
          have h4 := hd ⟨4, .data⟩ (by simp) rfl _ rfl
          have h5 := hd ⟨5, .data⟩ (by simp) rfl _ rfl
          refine jg_run (by rfl) rfl ((wanted_of rfl rfl (hsz 45 (by decide)) h3).trans rfl) (ex_bin rfl h4 h5 (hv_guard2 _ _ _ _ _ _) (hv_eql HHa.out.1 HHb.out.1 _)) (Mod.refl _ _) ?_
          exact congrArg Value.bool EH.out
        · intro tr act w' hm hout hsz hd hG hk hub
          have h3 := hd ⟨3, .data⟩ (by simp) rfl _ rfl
          have h6 := hd ⟨6, .data⟩ (by simp) rfl _ rfl
          exact jg_run (by rfl) rfl (wanted_none rfl) (ex_pick rfl h3 h6 rfl) (Mod.refl _ _) rfl
        · intro tr act w' hm hout hsz hd hG hk hub
          have h7 := hd ⟨7, .data⟩ (by simp) rfl _ rfl
          exact jg_run (by rfl) rfl (wanted_none rfl) (ex_move rfl h7) (Mod.refl _ _) rfl
        · intro tr act w' hm hout hsz hd hG hk hub
          have h8 := hd ⟨8, .guard⟩ (by simp) rfl _ rfl
          exact jg_run (by rfl) rfl ((wanted_of rfl rfl (hsz 50 (by decide)) h8).trans rfl) (ex_move rfl ((hout 4 (by decide)).trans oe4)) (Mod.refl _ _) rfl
        · intro tr act w' hm hout hsz hd hG hk hub
          have h8 := hd ⟨8, .guard⟩ (by simp) rfl _ rfl
          exact jg_run (by rfl) rfl ((wanted_of rfl rfl (hsz 50 (by decide)) h8).trans rfl) (ex_move rfl ((hout 5 (by decide)).trans oe5)) (Mod.refl _ _) rfl
        · intro tr act w' hm hout hsz hd hG hk hub
          have h8 := hd ⟨8, .guard⟩ (by simp) rfl _ rfl
          have h9 := hd ⟨9, .data⟩ (by simp) rfl _ rfl
          have h10 := hd ⟨10, .data⟩ (by simp) rfl _ rfl
          refine jg_call (args := #[u', v']) (by rfl) rfl ((wanted_of rfl rfl (hsz 50 (by decide)) h8).trans rfl) (by rw [ex_callF rfl Try.func29 (by kernel_rfl) (by kernel_rfl)]; exact congrArg (fun z => Result.ok (Next.enter _ z) _) (by simp only [List.map_toArray, List.map_cons, List.map_nil, show act.eval (.tmp 51) = _ from h9, show act.eval (.tmp 52) = _ from h10]; try rfl)) (Same_R (R := fun _ => True) (R' := fun _ => True) (N := 60) (N' := 60) ⟨HP6.out.mod hm (fun _ _ _ h => h), fun _ _ _ => trivial, HLP.out⟩ ⟨HQ6.out.mod hm (fun _ _ _ h => h), fun _ _ _ => trivial, HLQ.out⟩) ?_
          rintro e w2 ⟨rfl, hm2⟩
          exact ⟨_, rfl, hm2, congrArg Value.bool ES.out⟩
        · intro tr act w' hm hout hsz hd hG hk hub
          have h8 := hd ⟨8, .data⟩ (by simp) rfl _ rfl
          have h11 := hd ⟨11, .data⟩ (by simp) rfl _ rfl
          exact jg_run (by rfl) rfl (wanted_none rfl) (ex_pick rfl h8 h11 rfl) (Mod.refl _ _) rfl
        · intro tr act w' hm hout hsz hd hG hk hub
          have h12 := hd ⟨12, .data⟩ (by simp) rfl _ rfl
          exact jg_run (by rfl) rfl (wanted_none rfl) (ex_assign rfl h12) (Mod.refl _ _) rfl
        intro vs tr w7 hl htl hm hG hV
        obtain ⟨v0, vs0, rfl, hl0⟩ := list_cons hl
        obtain ⟨v1, vs1, rfl, hl1⟩ := list_cons hl0
        obtain ⟨v2, vs2, rfl, hl2⟩ := list_cons hl1
        obtain ⟨v3, vs3, rfl, hl3⟩ := list_cons hl2
        obtain ⟨v4, vs4, rfl, hl4⟩ := list_cons hl3
        obtain ⟨v5, vs5, rfl, hl5⟩ := list_cons hl4
        obtain ⟨v6, vs6, rfl, hl6⟩ := list_cons hl5
        obtain ⟨v7, vs7, rfl, hl7⟩ := list_cons hl6
        obtain ⟨v8, vs8, rfl, hl8⟩ := list_cons hl7
        obtain ⟨v9, vs9, rfl, hl9⟩ := list_cons hl8
        obtain ⟨v10, vs10, rfl, hl10⟩ := list_cons hl9
        obtain ⟨v11, vs11, rfl, hl11⟩ := list_cons hl10
        obtain ⟨v12, vs12, rfl, hl12⟩ := list_cons hl11
        obtain ⟨v13, vs13, rfl, hl13⟩ := list_cons hl12
        obtain rfl := list_nil hl13
        clear hl hl0 hl1 hl2 hl3 hl4 hl5 hl6 hl7 hl8 hl9 hl10 hl11 hl12 hl13
        obtain rfl : v13 = .bool false := hV 13 _ rfl
        have ha0 := HA0.out
        subst ha0
        clear HA0 hV hsz0 oe4 oe5 oe6 oe7 oe8 oe9
        simp only [putAll, Act.put, List.setIfInBounds_toArray, List.set_cons_zero, List.set_cons_succ]
        have KN7 := Lib.hid (KN6.out.mod hm (fun h => h))
        have KO7 := Lib.hid (KO6.out.mod hm (fun h => h))
        have KHa7 := Lib.hid (KHa6.out.mod hm (fun h => h))
        have KHb7 := Lib.hid (KHb6.out.mod hm (fun h => h))
        have KX := Lib.hid (KX6.out.mod hm (fun h => h))
        have KY := Lib.hid (KY6.out.mod hm (fun h => h))
        have HQ7 := Lib.hid (HQ6.out.mod hm (fun _ _ _ h => h))
        have KM7 := Lib.hid (KM6.out.trans hm (fun _ _ h => h))
        clear hm hG KN6 KO6 KHa6 KHb6 KX6 KY6 HQ6 HP6 KM6
        go_upto_region 8 with (fail)
        generalize ha0 : Act.mk _ _ = a0
        have oe4 : a0.eval (.tmp 4) = u' := by rw [← ha0]; rfl
        have oe5 : a0.eval (.tmp 5) = v' := by rw [← ha0]; rfl
        have oe6 : a0.eval (.tmp 6) = .pointer (some ⟨w.heap.size, 0, none⟩) := by rw [← ha0]; rfl
        have oe7 : a0.eval (.tmp 7) = .pointer (some ⟨w.heap.size + 1, 0, none⟩) := by rw [← ha0]; rfl
        have oe8 : a0.eval (.tmp 8) = .pointer (some ⟨w.heap.size + 1 + 1, 0, none⟩) := by rw [← ha0]; rfl
        have oe9 : a0.eval (.tmp 9) = .pointer (some ⟨w.heap.size + 1 + 1 + 1, 0, none⟩) := by rw [← ha0]; rfl
        have oe13 : a0.eval (.tmp 13) = .pointer (some ⟨q0, 0, none⟩) := by rw [← ha0]; rfl
        have oe14 : a0.eval (.tmp 14) = .pointer (some ⟨q1, 0, none⟩) := by rw [← ha0]; rfl
        have hsz0 : a0.tmps.size = 83 := by rw [← ha0]; rfl
        have HA0 := Lib.hid ha0
        clear ha0
        refine wp_region_G 83 hsz0 (by kernel_rfl) (by kernel_rfl) [70, 71, 72, 73, 74, 75, 76, 77, 78, 79, 80, 81, 82, 12] (by kernel_rfl) (by decide) (fun _ => False) (fun _ _ => False) (fun _ _ h => h) Still (fun _ _ _ h => h) (fun _ _ _ hm h => hm.trans h (fun _ _ h => h.elim)) [gi (hv (shaF (ofT a b ha ps))), gi (hv (shaF (ofT c d hb qs))), gi (.bool (decide ((shaF (ofT a b ha ps)) = (shaF (ofT c d hb qs))))), gi (hv (shaF (ofT a b ha ps))), gi (.agg #[.int .i64 c, .int .i64 d]), gi (v'), gi (hv hb), gi (.agg (opC 0 v' hb).toArray), gi (.bool (decide ((shaF (ofT a b ha ps)) = (shaF (ofT c d hb qs))))), gi (.bool true), gi (.bool true), gi (.bool true), gi (.bool true), gi (.bool true)] ⟨gi_stable, gi_stable, gi_stable, gi_stable, gi_stable, gi_stable, gi_stable, gi_stable, gi_stable, gi_stable, gi_stable, gi_stable, gi_stable, gi_stable, trivial⟩ [] (by kernel_rfl) (by decide) (by kernel_rfl) (fun _ _ => True) (fun _ _ _ _ _ => trivial) trivial ⟨?_, ?_, ?_, ?_, ?_, ?_, ?_, ?_, ?_, ?_, ?_, ?_, ?_, ?_, trivial⟩ ?_
        · intro tr act w' hm hout hsz hd hG hk hub
          exact jg_run (by rfl) rfl (wanted_none rfl) (ex_loadA rfl Try.underlying28 rfl (off := 0) (cs := (shaF (ofT a b ha ps)).map bv) (by rw [List.length_map, shaF_len]; exact size_hash) ((hout 13 (by decide)).trans oe13) (Cs.whole (KX.out.mod hm (fun h => h)))) (Mod.refl _ _) rfl
        · intro tr act w' hm hout hsz hd hG hk hub
          exact jg_run (by rfl) rfl (wanted_none rfl) (ex_loadA rfl Try.underlying28 rfl (off := 0) (cs := (shaF (ofT c d hb qs)).map bv) (by rw [List.length_map, shaF_len]; exact size_hash) ((hout 14 (by decide)).trans oe14) (Cs.whole (KY.out.mod hm (fun h => h)))) (Mod.refl _ _) rfl
        · intro tr act w' hm hout hsz hd hG hk hub
          have h0 := hd ⟨0, .data⟩ (by simp) rfl _ rfl
          have h1 := hd ⟨1, .data⟩ (by simp) rfl _ rfl
          exact jg_run (by rfl) rfl (wanted_none rfl) (ex_bin rfl h0 h1 (hv_guard2 _ _ _ _ _ _) (hv_eql (shaF_len _) (shaF_len _) _)) (Mod.refl _ _) rfl
        · intro tr act w' hm hout hsz hd hG hk hub
          exact jg_run (by rfl) rfl (wanted_none rfl) (ex_loadA rfl Try.underlying28 rfl (off := 0) (cs := (shaF (ofT a b ha ps)).map bv) (by rw [List.length_map, shaF_len]; exact size_hash) ((hout 13 (by decide)).trans oe13) (Cs.whole (KX.out.mod hm (fun h => h)))) (Mod.refl _ _) rfl
        · intro tr act w' hm hout hsz hd hG hk hub
          exact jg_run (by rfl) rfl (wanted_none rfl) (ex_loadA rfl Try.underlying26 rfl (off := 0) (cs := [.int .i64 c, .int .i64 d]) (by kernel_rfl) ((hout 7 (by decide)).trans oe7) (Cs.whole (KO7.out.mod hm (fun h => h)))) (Mod.refl _ _) rfl
        · intro tr act w' hm hout hsz hd hG hk hub
          exact jg_run (by rfl) rfl (wanted_none rfl) (ex_move rfl ((hout 5 (by decide)).trans oe5)) (Mod.refl _ _) rfl
        · intro tr act w' hm hout hsz hd hG hk hub
          exact jg_run (by rfl) rfl (wanted_none rfl) (ex_loadA rfl Try.underlying28 rfl (off := 0) (cs := hb.map bv) (by rw [List.length_map, HHb.out.1]; exact size_hash) ((hout 9 (by decide)).trans oe9) (Cs.whole (KHb7.out.mod hm (fun h => h)))) (Mod.refl _ _) rfl
        · intro tr act w' hm hout hsz hd hG hk hub
          have h5 := hd ⟨5, .data⟩ (by simp) rfl _ rfl
          have h6 := hd ⟨6, .data⟩ (by simp) rfl _ rfl
          exact jg_run (by rfl) rfl (wanted_none rfl) (ex_build rfl (z := [.int .i64 0, .slice none 0 0, .int .u8 0, .int .u8 0, .int .u8 0, .int .u8 0, .int .u8 0, .int .u8 0, .int .u8 0, .int .u8 0, .int .u8 0, .int .u8 0, .int .u8 0, .int .u8 0, .int .u8 0, .int .u8 0, .int .u8 0, .int .u8 0, .int .u8 0, .int .u8 0, .int .u8 0, .int .u8 0, .int .u8 0, .int .u8 0, .int .u8 0, .int .u8 0, .int .u8 0, .int .u8 0, .int .u8 0, .int .u8 0, .int .u8 0, .int .u8 0, .int .u8 0, .int .u8 0]) (places := [(0, 1), (1, 1), (2, 32)]) (by kernel_rfl) (parts := [(1, v'), (2, hv hb)]) (by simp only [List.map_toArray, List.map_cons, List.map_nil, show act.eval (.tmp 75) = _ from h5, show act.eval (.tmp 76) = _ from h6]; try rfl) (r := opC 0 v' hb) (by exact laid_op1 HHb.out.1 (by rw [HVQ.out]; rfl))) (Mod.refl _ _) rfl
        · intro tr act w' hm hout hsz hd hG hk hub
          have h3 := hd ⟨3, .data⟩ (by simp) rfl _ rfl
          have h4 := hd ⟨4, .data⟩ (by simp) rfl _ rfl
          have h7 := hd ⟨7, .data⟩ (by simp) rfl _ rfl
          refine jg_call (args := #[hv (shaF (ofT a b ha ps)), .agg #[.int .i64 c, .int .i64 d], .agg (opC 0 v' hb).toArray]) (by rfl) rfl (wanted_none rfl) (by rw [ex_callF rfl Try.func26 (by kernel_rfl) (by kernel_rfl)]; exact congrArg (fun z => Result.ok (Next.enter _ z) _) (by simp only [List.map_toArray, List.map_cons, List.map_nil, show act.eval (.tmp 73) = _ from h3, show act.eval (.tmp 74) = _ from h4, show act.eval (.tmp 77) = _ from h7]; try rfl)) (Matches_any (shaF (ofT a b ha ps)) c d 0 hb qs v' _ (shaF_len _) HC.out HD.out HHb.out (HQ7.out.mod hm (fun _ _ _ h => h)) (by have := HLQ.out; omega)) ?_
          rintro e w2 ⟨rfl, hm2⟩
          exact ⟨_, rfl, hm2, rfl⟩
        · intro tr act w' hm hout hsz hd hG hk hub
          have h2 := hd ⟨2, .data⟩ (by simp) rfl _ rfl
          have h8 := hd ⟨8, .data⟩ (by simp) rfl _ rfl
          refine jg_run (by rfl) rfl (wanted_none rfl) (ex_bin rfl h2 h8 (guard_bools _ _ _ _ _ _) (run_eql_bools _ _ _ Try.underlying4)) (Mod.refl _ _) ?_
          exact congrArg Value.bool (beq_self_eq_true _)
        · intro tr act w' hm hout hsz hd hG hk hub
          have h9 := hd ⟨9, .data⟩ (by simp) rfl _ rfl
          exact jg_run (by rfl) rfl (wanted_none rfl) (ex_move rfl h9) (Mod.refl _ _) rfl
        · intro tr act w' hm hout hsz hd hG hk hub
          have h10 := hd ⟨10, .guard⟩ (by simp) rfl _ rfl
          refine jg_call (args := #[]) (by rfl) rfl ((wanted_of rfl rfl (hsz 80 (by decide)) h10).trans rfl) (by rw [ex_callF rfl Try.func16 (by kernel_rfl) (by kernel_rfl)]; simp) (wakes04 _) ?_
          rintro e w2 ⟨rfl, hm2⟩
          exact ⟨_, rfl, hm2, rfl⟩
        · intro tr act w' hm hout hsz hd hG hk hub
          have h10 := hd ⟨10, .data⟩ (by simp) rfl _ rfl
          have h11 := hd ⟨11, .data⟩ (by simp) rfl _ rfl
          exact jg_run (by rfl) rfl (wanted_none rfl) (ex_pick rfl h10 h11 rfl) (Mod.refl _ _) rfl
        · intro tr act w' hm hout hsz hd hG hk hub
          have h12 := hd ⟨12, .data⟩ (by simp) rfl _ rfl
          exact jg_run (by rfl) rfl (wanted_none rfl) (ex_assign rfl h12) (Mod.refl _ _) rfl
        intro vs tr w8 hl htl hm hG hV
        obtain ⟨v0x, vs0, rfl, hl0⟩ := list_cons hl
        obtain ⟨v1x, vs1, rfl, hl1⟩ := list_cons hl0
        obtain ⟨v2x, vs2, rfl, hl2⟩ := list_cons hl1
        obtain ⟨v3x, vs3, rfl, hl3⟩ := list_cons hl2
        obtain ⟨v4x, vs4, rfl, hl4⟩ := list_cons hl3
        obtain ⟨v5x, vs5, rfl, hl5⟩ := list_cons hl4
        obtain ⟨v6x, vs6, rfl, hl6⟩ := list_cons hl5
        obtain ⟨v7x, vs7, rfl, hl7⟩ := list_cons hl6
        obtain ⟨v8x, vs8, rfl, hl8⟩ := list_cons hl7
        obtain ⟨v9x, vs9, rfl, hl9⟩ := list_cons hl8
        obtain ⟨v10x, vs10, rfl, hl10⟩ := list_cons hl9
        obtain ⟨v11x, vs11, rfl, hl11⟩ := list_cons hl10
        obtain ⟨v12x, vs12, rfl, hl12⟩ := list_cons hl11
        obtain ⟨v13x, vs13, rfl, hl13⟩ := list_cons hl12
        obtain rfl := list_nil hl13
        clear hl hl0 hl1 hl2 hl3 hl4 hl5 hl6 hl7 hl8 hl9 hl10 hl11 hl12 hl13
        obtain rfl : v13x = .bool true := hV 13 _ rfl
        have ha0 := HA0.out
        subst ha0
        clear HA0 hV hsz0 oe4 oe5 oe6 oe7 oe8 oe9 oe13 oe14
        simp only [putAll, Act.put, List.setIfInBounds_toArray, List.set_cons_zero, List.set_cons_succ]
        have KM8 := Lib.hid (KM7.out.trans hm (fun _ _ h => h))
        clear hm hG
        go_wp2
        go_ret
        exact ⟨rfl, KM8.out⟩
      | true =>
        have ES := Lib.hid hS
        clear hS
        have EXY := Lib.hid (show decide ((shaF (ofT a b ha ps)) = (shaF (ofT c d hb qs))) = true by
          have e1 := EN.out
          have e2 := of_decide_eq_true EH.out
          have e3 := of_decide_eq_true ES.out
          simp only [Bool.and_eq_true, beq_iff_eq] at e1
          rw [e1.1, e1.2, e2, e3]
          exact decide_eq_true rfl)
        go_upto_region 5 with (fail)
        generalize ha0 : Act.mk _ _ = a0
        have oe4 : a0.eval (.tmp 4) = u' := by rw [← ha0]; rfl
        have oe5 : a0.eval (.tmp 5) = v' := by rw [← ha0]; rfl
        have oe6 : a0.eval (.tmp 6) = .pointer (some ⟨w.heap.size, 0, none⟩) := by rw [← ha0]; rfl
        have oe7 : a0.eval (.tmp 7) = .pointer (some ⟨w.heap.size + 1, 0, none⟩) := by rw [← ha0]; rfl
        have oe8 : a0.eval (.tmp 8) = .pointer (some ⟨w.heap.size + 1 + 1, 0, none⟩) := by rw [← ha0]; rfl
        have oe9 : a0.eval (.tmp 9) = .pointer (some ⟨w.heap.size + 1 + 1 + 1, 0, none⟩) := by rw [← ha0]; rfl
        have hsz0 : a0.tmps.size = 83 := by rw [← ha0]; rfl
        have HA0 := Lib.hid ha0
        clear ha0
        refine wp_region_G 83 hsz0 (by kernel_rfl) (by kernel_rfl) [42, 43, 44, 45, 46, 47, 48, 49, 50, 51, 52, 53, 54, 15] (by kernel_rfl) (by decide) (fun _ => False) (fun _ _ => False) (fun _ _ h => h) Still (fun _ _ _ h => h) (fun _ _ _ hm h => hm.trans h (fun _ _ h => h.elim)) [gi (.agg #[.int .i64 a, .int .i64 b]), gi (.agg #[.int .i64 c, .int .i64 d]), gi (.bool true), gi (.bool true), gi (hv ha), gi (hv hb), gi (.bool true), gi (.bool true), gi (.bool true), gi (u'), gi (v'), gi (.bool true), gi (.bool true), gi (.bool true)] ⟨gi_stable, gi_stable, gi_stable, gi_stable, gi_stable, gi_stable, gi_stable, gi_stable, gi_stable, gi_stable, gi_stable, gi_stable, gi_stable, gi_stable, trivial⟩ [] (by kernel_rfl) (by decide) (by kernel_rfl) (fun _ _ => True) (fun _ _ _ _ _ => trivial) trivial ⟨?_, ?_, ?_, ?_, ?_, ?_, ?_, ?_, ?_, ?_, ?_, ?_, ?_, ?_, trivial⟩ ?_
        · intro tr act w' hm hout hsz hd hG hk hub
          exact jg_run (by rfl) rfl (wanted_none rfl) (ex_loadA rfl Try.underlying26 rfl (off := 0) (cs := [.int .i64 a, .int .i64 b]) (by kernel_rfl) ((hout 6 (by decide)).trans oe6) (Cs.whole (KN6.out.mod hm (fun h => h)))) (Mod.refl _ _) rfl
        · intro tr act w' hm hout hsz hd hG hk hub
          exact jg_run (by rfl) rfl (wanted_none rfl) (ex_loadA rfl Try.underlying26 rfl (off := 0) (cs := [.int .i64 c, .int .i64 d]) (by kernel_rfl) ((hout 7 (by decide)).trans oe7) (Cs.whole (KO6.out.mod hm (fun h => h)))) (Mod.refl _ _) rfl
        · intro tr act w' hm hout hsz hd hG hk hub
          have h0 := hd ⟨0, .data⟩ (by simp) rfl _ rfl
          have h1 := hd ⟨1, .data⟩ (by simp) rfl _ rfl
          refine jg_run (by rfl) rfl (wanted_none rfl) (ex_bin rfl h0 h1 (agg_guard _ _ _ _ _ _ (by kernel_rfl) _) (name_eql _ _ _ _ _)) (Mod.refl _ _) ?_
          exact congrArg Value.bool EN.out
        · intro tr act w' hm hout hsz hd hG hk hub
          have h2 := hd ⟨2, .data⟩ (by simp) rfl _ rfl
          exact jg_run (by rfl) rfl (wanted_none rfl) (ex_move rfl h2) (Mod.refl _ _) rfl
        · intro tr act w' hm hout hsz hd hG hk hub
          have h3 := hd ⟨3, .guard⟩ (by simp) rfl _ rfl
          exact jg_run (by rfl) rfl ((wanted_of rfl rfl (hsz 45 (by decide)) h3).trans rfl) (ex_loadA rfl Try.underlying28 rfl (off := 0) (cs := ha.map bv) (by rw [List.length_map, HHa.out.1]; exact size_hash) ((hout 8 (by decide)).trans oe8) (Cs.whole (KHa6.out.mod hm (fun h => h)))) (Mod.refl _ _) rfl
        · intro tr act w' hm hout hsz hd hG hk hub
          have h3 := hd ⟨3, .guard⟩ (by simp) rfl _ rfl
          exact jg_run (by rfl) rfl ((wanted_of rfl rfl (hsz 45 (by decide)) h3).trans rfl) (ex_loadA rfl Try.underlying28 rfl (off := 0) (cs := hb.map bv) (by rw [List.length_map, HHb.out.1]; exact size_hash) ((hout 9 (by decide)).trans oe9) (Cs.whole (KHb6.out.mod hm (fun h => h)))) (Mod.refl _ _) rfl
        · intro tr act w' hm hout hsz hd hG hk hub
          have h3 := hd ⟨3, .guard⟩ (by simp) rfl _ rfl
          have h4 := hd ⟨4, .data⟩ (by simp) rfl _ rfl
          have h5 := hd ⟨5, .data⟩ (by simp) rfl _ rfl
          refine jg_run (by rfl) rfl ((wanted_of rfl rfl (hsz 45 (by decide)) h3).trans rfl) (ex_bin rfl h4 h5 (hv_guard2 _ _ _ _ _ _) (hv_eql HHa.out.1 HHb.out.1 _)) (Mod.refl _ _) ?_
          exact congrArg Value.bool EH.out
        · intro tr act w' hm hout hsz hd hG hk hub
          have h3 := hd ⟨3, .data⟩ (by simp) rfl _ rfl
          have h6 := hd ⟨6, .data⟩ (by simp) rfl _ rfl
          exact jg_run (by rfl) rfl (wanted_none rfl) (ex_pick rfl h3 h6 rfl) (Mod.refl _ _) rfl
        · intro tr act w' hm hout hsz hd hG hk hub
          have h7 := hd ⟨7, .data⟩ (by simp) rfl _ rfl
          exact jg_run (by rfl) rfl (wanted_none rfl) (ex_move rfl h7) (Mod.refl _ _) rfl
        · intro tr act w' hm hout hsz hd hG hk hub
          have h8 := hd ⟨8, .guard⟩ (by simp) rfl _ rfl
          exact jg_run (by rfl) rfl ((wanted_of rfl rfl (hsz 50 (by decide)) h8).trans rfl) (ex_move rfl ((hout 4 (by decide)).trans oe4)) (Mod.refl _ _) rfl
        · intro tr act w' hm hout hsz hd hG hk hub
          have h8 := hd ⟨8, .guard⟩ (by simp) rfl _ rfl
          exact jg_run (by rfl) rfl ((wanted_of rfl rfl (hsz 50 (by decide)) h8).trans rfl) (ex_move rfl ((hout 5 (by decide)).trans oe5)) (Mod.refl _ _) rfl
        · intro tr act w' hm hout hsz hd hG hk hub
          have h8 := hd ⟨8, .guard⟩ (by simp) rfl _ rfl
          have h9 := hd ⟨9, .data⟩ (by simp) rfl _ rfl
          have h10 := hd ⟨10, .data⟩ (by simp) rfl _ rfl
          refine jg_call (args := #[u', v']) (by rfl) rfl ((wanted_of rfl rfl (hsz 50 (by decide)) h8).trans rfl) (by rw [ex_callF rfl Try.func29 (by kernel_rfl) (by kernel_rfl)]; exact congrArg (fun z => Result.ok (Next.enter _ z) _) (by simp only [List.map_toArray, List.map_cons, List.map_nil, show act.eval (.tmp 51) = _ from h9, show act.eval (.tmp 52) = _ from h10]; try rfl)) (Same_R (R := fun _ => True) (R' := fun _ => True) (N := 60) (N' := 60) ⟨HP6.out.mod hm (fun _ _ _ h => h), fun _ _ _ => trivial, HLP.out⟩ ⟨HQ6.out.mod hm (fun _ _ _ h => h), fun _ _ _ => trivial, HLQ.out⟩) ?_
          rintro e w2 ⟨rfl, hm2⟩
          exact ⟨_, rfl, hm2, congrArg Value.bool ES.out⟩
        · intro tr act w' hm hout hsz hd hG hk hub
          have h8 := hd ⟨8, .data⟩ (by simp) rfl _ rfl
          have h11 := hd ⟨11, .data⟩ (by simp) rfl _ rfl
          exact jg_run (by rfl) rfl (wanted_none rfl) (ex_pick rfl h8 h11 rfl) (Mod.refl _ _) rfl
        · intro tr act w' hm hout hsz hd hG hk hub
          have h12 := hd ⟨12, .data⟩ (by simp) rfl _ rfl
          exact jg_run (by rfl) rfl (wanted_none rfl) (ex_assign rfl h12) (Mod.refl _ _) rfl
        intro vs tr w7 hl htl hm hG hV
        obtain ⟨v0, vs0, rfl, hl0⟩ := list_cons hl
        obtain ⟨v1, vs1, rfl, hl1⟩ := list_cons hl0
        obtain ⟨v2, vs2, rfl, hl2⟩ := list_cons hl1
        obtain ⟨v3, vs3, rfl, hl3⟩ := list_cons hl2
        obtain ⟨v4, vs4, rfl, hl4⟩ := list_cons hl3
        obtain ⟨v5, vs5, rfl, hl5⟩ := list_cons hl4
        obtain ⟨v6, vs6, rfl, hl6⟩ := list_cons hl5
        obtain ⟨v7, vs7, rfl, hl7⟩ := list_cons hl6
        obtain ⟨v8, vs8, rfl, hl8⟩ := list_cons hl7
        obtain ⟨v9, vs9, rfl, hl9⟩ := list_cons hl8
        obtain ⟨v10, vs10, rfl, hl10⟩ := list_cons hl9
        obtain ⟨v11, vs11, rfl, hl11⟩ := list_cons hl10
        obtain ⟨v12, vs12, rfl, hl12⟩ := list_cons hl11
        obtain ⟨v13, vs13, rfl, hl13⟩ := list_cons hl12
        obtain rfl := list_nil hl13
        clear hl hl0 hl1 hl2 hl3 hl4 hl5 hl6 hl7 hl8 hl9 hl10 hl11 hl12 hl13
        obtain rfl : v13 = .bool true := hV 13 _ rfl
        have ha0 := HA0.out
        subst ha0
        clear HA0 hV hsz0 oe4 oe5 oe6 oe7 oe8 oe9
        simp only [putAll, Act.put, List.setIfInBounds_toArray, List.set_cons_zero, List.set_cons_succ]
        have KN7 := Lib.hid (KN6.out.mod hm (fun h => h))
        have KO7 := Lib.hid (KO6.out.mod hm (fun h => h))
        have KHa7 := Lib.hid (KHa6.out.mod hm (fun h => h))
        have KHb7 := Lib.hid (KHb6.out.mod hm (fun h => h))
        have KX := Lib.hid (KX6.out.mod hm (fun h => h))
        have KY := Lib.hid (KY6.out.mod hm (fun h => h))
        have HQ7 := Lib.hid (HQ6.out.mod hm (fun _ _ _ h => h))
        have KM7 := Lib.hid (KM6.out.trans hm (fun _ _ h => h))
        clear hm hG KN6 KO6 KHa6 KHb6 KX6 KY6 HQ6 HP6 KM6
        go_upto_region 7 with (fail)
        generalize ha0 : Act.mk _ _ = a0
        have oe4 : a0.eval (.tmp 4) = u' := by rw [← ha0]; rfl
        have oe5 : a0.eval (.tmp 5) = v' := by rw [← ha0]; rfl
        have oe6 : a0.eval (.tmp 6) = .pointer (some ⟨w.heap.size, 0, none⟩) := by rw [← ha0]; rfl
        have oe7 : a0.eval (.tmp 7) = .pointer (some ⟨w.heap.size + 1, 0, none⟩) := by rw [← ha0]; rfl
        have oe8 : a0.eval (.tmp 8) = .pointer (some ⟨w.heap.size + 1 + 1, 0, none⟩) := by rw [← ha0]; rfl
        have oe9 : a0.eval (.tmp 9) = .pointer (some ⟨w.heap.size + 1 + 1 + 1, 0, none⟩) := by rw [← ha0]; rfl
        have oe13 : a0.eval (.tmp 13) = .pointer (some ⟨q0, 0, none⟩) := by rw [← ha0]; rfl
        have oe14 : a0.eval (.tmp 14) = .pointer (some ⟨q1, 0, none⟩) := by rw [← ha0]; rfl
        have hsz0 : a0.tmps.size = 83 := by rw [← ha0]; rfl
        have HA0 := Lib.hid ha0
        clear ha0
        refine wp_region_G 83 hsz0 (by kernel_rfl) (by kernel_rfl) [56, 57, 58, 59, 60, 61, 62, 63, 64, 65, 66, 67, 68, 69, 12] (by kernel_rfl) (by decide) (fun _ => False) (fun _ _ => False) (fun _ _ h => h) Still (fun _ _ _ h => h) (fun _ _ _ hm h => hm.trans h (fun _ _ h => h.elim)) [gi (hv (shaF (ofT a b ha ps))), gi (hv (shaF (ofT c d hb qs))), gi (.bool true), gi (.bool true), gi (hv (shaF (ofT a b ha ps))), gi (.agg #[.int .i64 c, .int .i64 d]), gi (v'), gi (hv hb), gi (.agg (opC 0 v' hb).toArray), gi (.bool true), gi (.bool true), gi (.bool true), gi (.bool true), gi (.bool true), gi (.bool true)] ⟨gi_stable, gi_stable, gi_stable, gi_stable, gi_stable, gi_stable, gi_stable, gi_stable, gi_stable, gi_stable, gi_stable, gi_stable, gi_stable, gi_stable, gi_stable, trivial⟩ [] (by kernel_rfl) (by decide) (by kernel_rfl) (fun _ _ => True) (fun _ _ _ _ _ => trivial) trivial ⟨?_, ?_, ?_, ?_, ?_, ?_, ?_, ?_, ?_, ?_, ?_, ?_, ?_, ?_, ?_, trivial⟩ ?_
        · intro tr act w' hm hout hsz hd hG hk hub
          exact jg_run (by rfl) rfl (wanted_none rfl) (ex_loadA rfl Try.underlying28 rfl (off := 0) (cs := (shaF (ofT a b ha ps)).map bv) (by rw [List.length_map, shaF_len]; exact size_hash) ((hout 13 (by decide)).trans oe13) (Cs.whole (KX.out.mod hm (fun h => h)))) (Mod.refl _ _) rfl
        · intro tr act w' hm hout hsz hd hG hk hub
          exact jg_run (by rfl) rfl (wanted_none rfl) (ex_loadA rfl Try.underlying28 rfl (off := 0) (cs := (shaF (ofT c d hb qs)).map bv) (by rw [List.length_map, shaF_len]; exact size_hash) ((hout 14 (by decide)).trans oe14) (Cs.whole (KY.out.mod hm (fun h => h)))) (Mod.refl _ _) rfl
        · intro tr act w' hm hout hsz hd hG hk hub
          have h0 := hd ⟨0, .data⟩ (by simp) rfl _ rfl
          have h1 := hd ⟨1, .data⟩ (by simp) rfl _ rfl
          refine jg_run (by rfl) rfl (wanted_none rfl) (ex_bin rfl h0 h1 (hv_guard2 _ _ _ _ _ _) (hv_eql (shaF_len _) (shaF_len _) _)) (Mod.refl _ _) ?_
          exact congrArg Value.bool EXY.out
        · intro tr act w' hm hout hsz hd hG hk hub
          have h2 := hd ⟨2, .data⟩ (by simp) rfl _ rfl
          exact jg_run (by rfl) rfl (wanted_none rfl) (ex_move rfl h2) (Mod.refl _ _) rfl
        · intro tr act w' hm hout hsz hd hG hk hub
          have h3 := hd ⟨3, .guard⟩ (by simp) rfl _ rfl
          exact jg_run (by rfl) rfl ((wanted_of rfl rfl (hsz 59 (by decide)) h3).trans rfl) (ex_loadA rfl Try.underlying28 rfl (off := 0) (cs := (shaF (ofT a b ha ps)).map bv) (by rw [List.length_map, shaF_len]; exact size_hash) ((hout 13 (by decide)).trans oe13) (Cs.whole (KX.out.mod hm (fun h => h)))) (Mod.refl _ _) rfl
        · intro tr act w' hm hout hsz hd hG hk hub
          have h3 := hd ⟨3, .guard⟩ (by simp) rfl _ rfl
          exact jg_run (by rfl) rfl ((wanted_of rfl rfl (hsz 59 (by decide)) h3).trans rfl) (ex_loadA rfl Try.underlying26 rfl (off := 0) (cs := [.int .i64 c, .int .i64 d]) (by kernel_rfl) ((hout 7 (by decide)).trans oe7) (Cs.whole (KO7.out.mod hm (fun h => h)))) (Mod.refl _ _) rfl
        · intro tr act w' hm hout hsz hd hG hk hub
          have h3 := hd ⟨3, .guard⟩ (by simp) rfl _ rfl
          exact jg_run (by rfl) rfl ((wanted_of rfl rfl (hsz 59 (by decide)) h3).trans rfl) (ex_move rfl ((hout 5 (by decide)).trans oe5)) (Mod.refl _ _) rfl
        · intro tr act w' hm hout hsz hd hG hk hub
          have h3 := hd ⟨3, .guard⟩ (by simp) rfl _ rfl
          exact jg_run (by rfl) rfl ((wanted_of rfl rfl (hsz 59 (by decide)) h3).trans rfl) (ex_loadA rfl Try.underlying28 rfl (off := 0) (cs := hb.map bv) (by rw [List.length_map, HHb.out.1]; exact size_hash) ((hout 9 (by decide)).trans oe9) (Cs.whole (KHb7.out.mod hm (fun h => h)))) (Mod.refl _ _) rfl
        · intro tr act w' hm hout hsz hd hG hk hub
          have h3 := hd ⟨3, .guard⟩ (by simp) rfl _ rfl
          have h6 := hd ⟨6, .data⟩ (by simp) rfl _ rfl
          have h7 := hd ⟨7, .data⟩ (by simp) rfl _ rfl
          exact jg_run (by rfl) rfl ((wanted_of rfl rfl (hsz 59 (by decide)) h3).trans rfl) (ex_build rfl (z := [.int .i64 0, .slice none 0 0, .int .u8 0, .int .u8 0, .int .u8 0, .int .u8 0, .int .u8 0, .int .u8 0, .int .u8 0, .int .u8 0, .int .u8 0, .int .u8 0, .int .u8 0, .int .u8 0, .int .u8 0, .int .u8 0, .int .u8 0, .int .u8 0, .int .u8 0, .int .u8 0, .int .u8 0, .int .u8 0, .int .u8 0, .int .u8 0, .int .u8 0, .int .u8 0, .int .u8 0, .int .u8 0, .int .u8 0, .int .u8 0, .int .u8 0, .int .u8 0, .int .u8 0, .int .u8 0]) (places := [(0, 1), (1, 1), (2, 32)]) (by kernel_rfl) (parts := [(1, v'), (2, hv hb)]) (by simp only [List.map_toArray, List.map_cons, List.map_nil, show act.eval (.tmp 62) = _ from h6, show act.eval (.tmp 63) = _ from h7]; try rfl) (r := opC 0 v' hb) (by exact laid_op1 HHb.out.1 (by rw [HVQ.out]; rfl))) (Mod.refl _ _) rfl
        · intro tr act w' hm hout hsz hd hG hk hub
          have h3 := hd ⟨3, .guard⟩ (by simp) rfl _ rfl
          have h4 := hd ⟨4, .data⟩ (by simp) rfl _ rfl
          have h5 := hd ⟨5, .data⟩ (by simp) rfl _ rfl
          have h8 := hd ⟨8, .data⟩ (by simp) rfl _ rfl
          refine jg_call (args := #[hv (shaF (ofT a b ha ps)), .agg #[.int .i64 c, .int .i64 d], .agg (opC 0 v' hb).toArray]) (by rfl) rfl ((wanted_of rfl rfl (hsz 59 (by decide)) h3).trans rfl) (by rw [ex_callF rfl Try.func26 (by kernel_rfl) (by kernel_rfl)]; exact congrArg (fun z => Result.ok (Next.enter _ z) _) (by simp only [List.map_toArray, List.map_cons, List.map_nil, show act.eval (.tmp 60) = _ from h4, show act.eval (.tmp 61) = _ from h5, show act.eval (.tmp 64) = _ from h8]; try rfl)) (Matches_any (shaF (ofT a b ha ps)) c d 0 hb qs v' _ (shaF_len _) HC.out HD.out HHb.out (HQ7.out.mod hm (fun _ _ _ h => h)) (by have := HLQ.out; omega)) ?_
          rintro e w2 ⟨rfl, hm2⟩
          exact ⟨_, rfl, hm2, congrArg Value.bool EXY.out⟩
        · intro tr act w' hm hout hsz hd hG hk hub
          have h3 := hd ⟨3, .data⟩ (by simp) rfl _ rfl
          have h9 := hd ⟨9, .data⟩ (by simp) rfl _ rfl
          exact jg_run (by rfl) rfl (wanted_none rfl) (ex_pick rfl h3 h9 rfl) (Mod.refl _ _) rfl
        · intro tr act w' hm hout hsz hd hG hk hub
          have h10 := hd ⟨10, .data⟩ (by simp) rfl _ rfl
          exact jg_run (by rfl) rfl (wanted_none rfl) (ex_move rfl h10) (Mod.refl _ _) rfl
        · intro tr act w' hm hout hsz hd hG hk hub
          have h11 := hd ⟨11, .guard⟩ (by simp) rfl _ rfl
          refine jg_call (args := #[]) (by rfl) rfl ((wanted_of rfl rfl (hsz 67 (by decide)) h11).trans rfl) (by rw [ex_callF rfl Try.func16 (by kernel_rfl) (by kernel_rfl)]; simp) (wakes04 _) ?_
          rintro e w2 ⟨rfl, hm2⟩
          exact ⟨_, rfl, hm2, rfl⟩
        · intro tr act w' hm hout hsz hd hG hk hub
          have h11 := hd ⟨11, .data⟩ (by simp) rfl _ rfl
          have h12 := hd ⟨12, .data⟩ (by simp) rfl _ rfl
          exact jg_run (by rfl) rfl (wanted_none rfl) (ex_pick rfl h11 h12 rfl) (Mod.refl _ _) rfl
        · intro tr act w' hm hout hsz hd hG hk hub
          have h13 := hd ⟨13, .data⟩ (by simp) rfl _ rfl
          exact jg_run (by rfl) rfl (wanted_none rfl) (ex_assign rfl h13) (Mod.refl _ _) rfl
        intro vs tr w8 hl htl hm hG hV
        obtain ⟨v0x, vs0, rfl, hl0⟩ := list_cons hl
        obtain ⟨v1x, vs1, rfl, hl1⟩ := list_cons hl0
        obtain ⟨v2x, vs2, rfl, hl2⟩ := list_cons hl1
        obtain ⟨v3x, vs3, rfl, hl3⟩ := list_cons hl2
        obtain ⟨v4x, vs4, rfl, hl4⟩ := list_cons hl3
        obtain ⟨v5x, vs5, rfl, hl5⟩ := list_cons hl4
        obtain ⟨v6x, vs6, rfl, hl6⟩ := list_cons hl5
        obtain ⟨v7x, vs7, rfl, hl7⟩ := list_cons hl6
        obtain ⟨v8x, vs8, rfl, hl8⟩ := list_cons hl7
        obtain ⟨v9x, vs9, rfl, hl9⟩ := list_cons hl8
        obtain ⟨v10x, vs10, rfl, hl10⟩ := list_cons hl9
        obtain ⟨v11x, vs11, rfl, hl11⟩ := list_cons hl10
        obtain ⟨v12x, vs12, rfl, hl12⟩ := list_cons hl11
        obtain ⟨v13x, vs13, rfl, hl13⟩ := list_cons hl12
        obtain ⟨v14x, vs14, rfl, hl14⟩ := list_cons hl13
        obtain rfl := list_nil hl14
        clear hl hl0 hl1 hl2 hl3 hl4 hl5 hl6 hl7 hl8 hl9 hl10 hl11 hl12 hl13 hl14
        obtain rfl : v14x = .bool true := hV 14 _ rfl
        have ha0 := HA0.out
        subst ha0
        clear HA0 hV hsz0 oe4 oe5 oe6 oe7 oe8 oe9 oe13 oe14
        simp only [putAll, Act.put, List.setIfInBounds_toArray, List.set_cons_zero, List.set_cons_succ]
        have KM8 := Lib.hid (KM7.out.trans hm (fun _ _ h => h))
        clear hm hG
        go_wp2
        go_ret
        exact ⟨rfl, KM8.out⟩
end Go.Proofs.Ytgnmdnmmemdemaa
