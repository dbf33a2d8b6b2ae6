/- CommitOpens: the walk. -/
import Derived.Test.YtgnmdnmmemdemaaCm7
set_option maxRecDepth 100000
set_option linter.unusedVariables false
namespace Go.Proofs.Ytgnmdnmmemdemaa
open Go Go.RowKit Go.Gv

set_option maxHeartbeats 8000000 in
theorem CommitOpens_walk (n1 n2 at' : Int) (h ps : List Int) (v : Value) (h1 : I64 n1) (h2 : I64 n2) (hh : HK h) (w : World) (hr : RdR (fun k => k < w.heap.size) ps.length w v ps) :
    Calls Try.prog 7 #[.agg #[.int .i64 n1, .int .i64 n2], hv h, v, .int .i64 at'] w fun e w' => e = .returned (.bool true) ∧ Mod (fun _ => False) w w' := by
  have H1 := Lib.hid h1
  have H2 := Lib.hid h2
  have HH := Lib.hid hh
  have HR0 := Lib.hid hr
  have hw1 := within_range n1 5 (by decide)
  have hw2 := within_range n2 5 (by decide)
  obtain ⟨a, ha⟩ : ∃ a, a = within n1 5 := ⟨_, rfl⟩
  obtain ⟨b, hb⟩ : ∃ b, b = 1 + within n2 5 := ⟨_, rfl⟩
  have HA := Lib.hid (show I64 a from ⟨by omega, by omega⟩)
  have HSI := Lib.hid (show I64 (1000 + a) from ⟨by omega, by omega⟩)
  have HB := Lib.hid (show I64 b from ⟨by omega, by omega⟩)
  have EA := Lib.hid ha.symm
  have EB := Lib.hid hb.symm
  clear h1 h2 hh hr hw1 hw2 ha hb
  change Calls _ _ #[.agg #[.int .i64 n1, .int .i64 n2], .agg (h.map bv).toArray, v, .int .i64 at'] _ _
  go_enter Try.func7, Try.ntmps7
  go_upto_region 1 with (fail)
  obtain ⟨w1, hw1⟩ : ∃ z, z = (w.alloc (.cells #[.int .i64 n1, .int .i64 n2] 26)).alloc (.cells (h.map bv).toArray 28) := ⟨_, rfl⟩
  change Code.wp _ _ _ _ ((w.alloc (.cells #[.int .i64 n1, .int .i64 n2] 26)).alloc (.cells (h.map bv).toArray 28))
  rw [← hw1]
  have KN1 := Lib.hid (show Cs w1 w.heap.size #[.int .i64 n1, .int .i64 n2] 26 by rw [hw1]; exact (Cs.new _ _ _).alloc _)
  have KH1 := Lib.hid (show Cs w1 (w.heap.size + 1) (h.map bv).toArray 28 by rw [hw1]; exact Cs_new1 _ _ _ _)
  have KM1 := Lib.hid (show Mod (fun _ => False) w w1 by rw [hw1]; exact ((Mod.refl _ _).alloc _).alloc _)
  have hs1 : w1.heap.size = w.heap.size + 2 := by rw [hw1]; simp
  clear hw1
  go_wp2_with fail
  refine (Cut_R 60 (HR0.out.mod KM1.out (fun _ _ h => h)) (by decide)).mono ?_
  rintro e w2 ⟨v', rfl, ho, hm2⟩
  obtain ⟨bs, hbs⟩ : ∃ bs, bs = ps.take 60 := ⟨_, rfl⟩
  rw [← hbs] at ho
  have HLB := Lib.hid ho.2.2
  obtain ⟨ao, cap, hv0⟩ := ho.shape
  have HV := Lib.hid hv0
  have HO := Lib.hid (ho.rd.widen (R' := fun k => w1.heap.size ≤ k ∧ k < w2.heap.size) (fun k h => h) (Nat.le_refl _))
  have KN2 := Lib.hid (KN1.out.mod hm2 (fun h => h))
  have KH2 := Lib.hid (KH1.out.mod hm2 (fun h => h))
  have KM2 := Lib.hid (KM1.out.trans hm2 (fun _ _ h => h))
  have z2 := hm2.size
  clear ho hm2 KN1 KH1 KM1 hv0 hbs HR0
  go_wp2_with fail
  refine (Book_new _).mono ?_
  rintro e w3 ⟨g, bk, rfl, y1, y2, hb3, hm3⟩
  have HB3 := Lib.hid hb3
  have zg := hb3.cell.lt
  have zb := hb3.map.lt
  have KN3 := Lib.hid (KN2.out.mod hm3 (fun h => h))
  have KH3 := Lib.hid (KH2.out.mod hm3 (fun h => h))
  have KM3 := Lib.hid (KM2.out.trans hm3 (fun _ _ h => h))
  have HO3 := Lib.hid (HO.out.mod hm3 (fun _ _ h => h))
  clear hb3 hm3 KN2 KH2 KM2 HO
  have KN := Lib.hid (show ByLen (ResSt w.heap.size 26 [.int .i64 n1, .int .i64 n2] [.int .i64 a, .int .i64 b]) [] w3 from KN3.out)
  go_upto_region 5 with (fail)
  generalize ha0 : Act.mk _ _ = a0
  have oe4 : a0.eval (.tmp 4) = .pointer (some ⟨w.heap.size, 0, none⟩) := by rw [← ha0]; rfl
  have hsz0 : a0.tmps.size = 75 := by rw [← ha0]; rfl
  have HA0 := Lib.hid ha0
  clear ha0
  refine wp_region_G 75 hsz0 (by kernel_rfl) (by kernel_rfl) [17, 18, 19, 20, 21, 22, 23, 24, 83] (by kernel_rfl) (by decide) (fun j => j = w.heap.size) (fun _ j => j = w.heap.size) (fun _ _ h => h) Still (fun _ _ _ h => h) (fun _ _ _ hm h => hm.trans h (fun _ _ h => h.elim)) [gi (.pointer (some ⟨w.heap.size, 0, none⟩)), gi (.int .i64 n1), gi (.int .i64 a), gi (.pointer (some ⟨w.heap.size, 1, none⟩)), gi (.int .i64 n2), gi (.int .i64 (within n2 5)), gi (.int .i64 b), gi (.agg ([.int .i64 a, .int .i64 b] : List Value).toArray), ga] ⟨gi_stable, gi_stable, gi_stable, gi_stable, gi_stable, gi_stable, gi_stable, gi_stable, ga_stable, trivial⟩ [8] (by kernel_rfl) (by decide) (by kernel_rfl) (ByLen (ResSt w.heap.size 26 [.int .i64 n1, .int .i64 n2] [.int .i64 a, .int .i64 b])) (ByLen.still ResSt_still) KN.out ⟨?_, ?_, ?_, ?_, ?_, ?_, ?_, ?_, ?_, trivial⟩ ?_
  · intro tr act w' hm hout hsz hd hG hk hub
    refine jg_run (by rfl) rfl (wanted_none rfl) (ex_field rfl Try.underlying26 rfl (by kernel_rfl) ((hout 4 (by decide)).trans oe4)) (Mod.refl _ _) ?_
    rfl
  · intro tr act w' hm hout hsz hd hG hk hub
    have h0 := hd ⟨0, .data⟩ (by simp) rfl _ rfl
    exact jg_run (by rfl) rfl (wanted_none rfl) (ex_load1 rfl Try.underlying3 rfl h0 (by rw [Cs.cell (hG.at (show tr.length = 0 from Nat.le_zero.1 (hub 0 8 rfl (by kernel_rfl))))]; rfl)) (Mod.refl _ _) rfl
  · intro tr act w' hm hout hsz hd hG hk hub
    have h1 := hd ⟨1, .data⟩ (by simp) rfl _ rfl
    refine jg_call (args := #[.int .i64 n1, .int .i64 5]) (by rfl) rfl (wanted_none rfl) (by rw [ex_callF rfl Try.func14 (by kernel_rfl) (by kernel_rfl)]; exact congrArg (fun z => Result.ok (Next.enter _ z) _) (by simp only [List.map_toArray, List.map_cons, List.map_nil, show act.eval (.tmp 18) = _ from h1]; try rfl)) (Within_any n1 5 (by decide) (by decide) H1.out _) ?_
    rintro e w2 ⟨rfl, rfl⟩
    exact ⟨_, rfl, Mod.refl _ _, congrArg (Value.int .i64) EA.out⟩
  · intro tr act w' hm hout hsz hd hG hk hub
    refine jg_run (by rfl) rfl (wanted_none rfl) (ex_field rfl Try.underlying26 rfl (by kernel_rfl) ((hout 4 (by decide)).trans oe4)) (Mod.refl _ _) ?_
    rfl
  · intro tr act w' hm hout hsz hd hG hk hub
    have h3 := hd ⟨3, .data⟩ (by simp) rfl _ rfl
    exact jg_run (by rfl) rfl (wanted_none rfl) (ex_load1 rfl Try.underlying3 rfl h3 (by rw [Cs.cell (hG.at (show tr.length = 0 from Nat.le_zero.1 (hub 0 8 rfl (by kernel_rfl))))]; rfl)) (Mod.refl _ _) rfl
  · intro tr act w' hm hout hsz hd hG hk hub
    have h4 := hd ⟨4, .data⟩ (by simp) rfl _ rfl
    refine jg_call (args := #[.int .i64 n2, .int .i64 5]) (by rfl) rfl (wanted_none rfl) (by rw [ex_callF rfl Try.func14 (by kernel_rfl) (by kernel_rfl)]; exact congrArg (fun z => Result.ok (Next.enter _ z) _) (by simp only [List.map_toArray, List.map_cons, List.map_nil, show act.eval (.tmp 21) = _ from h4]; try rfl)) (Within_any n2 5 (by decide) (by decide) H2.out _) ?_
    rintro e w2 ⟨rfl, rfl⟩
    exact ⟨_, rfl, Mod.refl _ _, rfl⟩
  · intro tr act w' hm hout hsz hd hG hk hub
    have h5 := hd ⟨5, .data⟩ (by simp) rfl _ rfl
    refine jg_run (by rfl) rfl (wanted_none rfl) (ex_bin rfl rfl h5 (guard_ints _ _ _ _ _ _) (run_add_i _ _ Try.underlying3)) (Mod.refl _ _) ?_
    exact congrArg (Value.int .i64) ((IntWalk.i64_in _ (by have := within_range n2 5 (by decide); omega)).trans EB.out)
  · intro tr act w' hm hout hsz hd hG hk hub
    have h2 := hd ⟨2, .data⟩ (by simp) rfl _ rfl
    have h6 := hd ⟨6, .data⟩ (by simp) rfl _ rfl
    exact jg_run (by rfl) rfl (wanted_none rfl) (ex_build rfl (z := [.int .i64 0, .int .i64 0]) (places := [(0, 1), (1, 1)]) (by kernel_rfl) (parts := [(0, .int .i64 a), (1, .int .i64 b)]) (by simp only [List.map_toArray, List.map_cons, List.map_nil, show act.eval (.tmp 19) = _ from h2, show act.eval (.tmp 23) = _ from h6]; try rfl) (r := [.int .i64 a, .int .i64 b]) (by rfl)) (Mod.refl _ _) rfl
  · intro tr act w' hm hout hsz hd hG hk hub
    have h7 := hd ⟨7, .data⟩ (by simp) rfl _ rfl
    have hl := hk 0 rfl
    refine jc_turn (by rfl) rfl (wanted_none rfl) (ex_storeA rfl (hG.at hl) (off := 0) (vs := [.int .i64 a, .int .i64 b]) (by kernel_rfl) (by intro u hu; simp at hu; rcases hu with rfl | rfl <;> rfl) (by simp) ((hout 4 (by decide)).trans oe4) (by rw [show act.eval (.tmp 24) = _ from h7]; rfl)) setRow_Mod trivial (ByLen.on hl ?_)
    rw [lay_whole _ _ (by simp)]
    exact setRow_Cs (hG.at hl)
  intro vs tr w5 hl htl hm hG hV
  obtain ⟨v0, vs0, rfl, hl0⟩ := list_cons hl
  obtain ⟨v1, vs1, rfl, hl1⟩ := list_cons hl0
  obtain ⟨v2, vs2, rfl, hl2⟩ := list_cons hl1
  obtain ⟨v3, vs3, rfl, hl3⟩ := list_cons hl2
  obtain ⟨v4, vs4, rfl, hl4⟩ := list_cons hl3
  obtain ⟨v5, vs5, rfl, hl5⟩ := list_cons hl4
  obtain ⟨v6, vs6, rfl, hl6⟩ := list_cons hl5
  obtain ⟨v7, vs7, rfl, hl7⟩ := list_cons hl6
  obtain ⟨v8, vs8, rfl, hl8⟩ := list_cons hl7
  obtain rfl := list_nil hl8
  clear hl hl0 hl1 hl2 hl3 hl4 hl5 hl6 hl7 hl8
  have ha0 := HA0.out
  subst ha0
  clear HA0 hV hsz0 oe4
  simp only [putAll, Act.put, List.setIfInBounds_toArray, List.set_cons_zero, List.set_cons_succ, List.set_nil]
  have KN5 := Lib.hid (show Cs w5 w.heap.size #[.int .i64 a, .int .i64 b] 26 from hG.at htl)
  have KH5 := Lib.hid (KH3.out.mod hm (by omega))
  have KM5 := Lib.hid (KM3.out.trans hm (fun k h1 h2 => by omega))
  have HB5 := Lib.hid (show ByLen (TwoSt g bk [] (mkBook [] a b h bs) (mkBook (mkBook [] a b h bs) a b h [])) [] w5 from HB3.out.mod hm (by omega) (by omega))
  have HR := Lib.hid (HO3.out.mod hm (fun k h1 h2 => by omega)).1
  have z5 := hm.size
  have HAP := Lib.hid (show Apart v' bs.length (fun j => j = bk ∨ w5.heap.size ≤ j) from fun h0 g' hg h => by have := HO3.out.2.1 h0 g' hg; omega)
  have HL1 := Lib.hid (show (mkBook [] a b h bs).length ≤ 1000000 by unfold mkBook signF; split <;> simp)
  clear hG hm htl KN KN3 KH3 KM3 HB3 HO3
  go_upto_region 6 with (fail)
  generalize ha0 : Act.mk _ _ = a0
  have oe2 : a0.eval (.tmp 2) = v' := by rw [← ha0]; rfl
  have oe4 : a0.eval (.tmp 4) = .pointer (some ⟨w.heap.size, 0, none⟩) := by rw [← ha0]; rfl
  have oe5 : a0.eval (.tmp 5) = .pointer (some ⟨w.heap.size + 1, 0, none⟩) := by rw [← ha0]; rfl
  have oe9 : a0.eval (.tmp 9) = .pointer (some ⟨g, 0, none⟩) := by rw [← ha0]; rfl
  have hsz0 : a0.tmps.size = 75 := by rw [← ha0]; rfl
  have HA0 := Lib.hid ha0
  clear ha0
  refine wp_region_A 75 hsz0 (by kernel_rfl) (by kernel_rfl) [25, 26, 27, 28, 29, 30, 31, 32, 33, 10, 11, 86, 87] (by kernel_rfl) (by decide) (fun j => j = bk ∨ w5.heap.size ≤ j) (fun _ j => j = bk) (fun _ _ h => Or.inl h) Still (fun _ _ _ h => h) (fun _ _ _ hm h => hm.trans h (fun _ _ h => h.elim)) [gi (.pointer (some ⟨g, 0, none⟩)), gi (.agg #[.int .i64 a, .int .i64 b]), gi (hv h), gi (v'), gi ((mkCm [] a b h bs).val), gi (.pointer (some ⟨g, 0, none⟩)), gi (.agg #[.int .i64 a, .int .i64 b]), gi (hv h), gi ((mkCm (mkBook [] a b h bs) a b h []).val), ga, ga, ga, ga] ⟨gi_stable, gi_stable, gi_stable, gi_stable, gi_stable, gi_stable, gi_stable, gi_stable, gi_stable, ga_stable, ga_stable, ga_stable, ga_stable, trivial⟩ [4, 8] (by kernel_rfl) (by decide) (by kernel_rfl) (ByLen (TwoSt g bk [] (mkBook [] a b h bs) (mkBook (mkBook [] a b h bs) a b h []))) (ByLen.still TwoSt_still) HB5.out [⟨9, 11, 32, [.int .i64 0, .int .i64 0, .int .u8 0, .int .u8 0, .int .u8 0, .int .u8 0, .int .u8 0, .int .u8 0, .int .u8 0, .int .u8 0, .int .u8 0, .int .u8 0, .int .u8 0, .int .u8 0, .int .u8 0, .int .u8 0, .int .u8 0, .int .u8 0, .int .u8 0, .int .u8 0, .int .u8 0, .int .u8 0, .int .u8 0, .int .u8 0, .int .u8 0, .int .u8 0, .int .u8 0, .int .u8 0, .int .u8 0, .int .u8 0, .int .u8 0, .int .u8 0, .int .u8 0, .int .u8 0, .int .i64 0, .int .i64 0, .int .i64 0], Cm.cells (mkCm [] a b h bs)⟩, ⟨10, 12, 32, [.int .i64 0, .int .i64 0, .int .u8 0, .int .u8 0, .int .u8 0, .int .u8 0, .int .u8 0, .int .u8 0, .int .u8 0, .int .u8 0, .int .u8 0, .int .u8 0, .int .u8 0, .int .u8 0, .int .u8 0, .int .u8 0, .int .u8 0, .int .u8 0, .int .u8 0, .int .u8 0, .int .u8 0, .int .u8 0, .int .u8 0, .int .u8 0, .int .u8 0, .int .u8 0, .int .u8 0, .int .u8 0, .int .u8 0, .int .u8 0, .int .u8 0, .int .u8 0, .int .u8 0, .int .u8 0, .int .i64 0, .int .i64 0, .int .i64 0], Cm.cells (mkCm (mkBook [] a b h bs) a b h [])⟩] (by kernel_rfl) (by intro r hr; simp only [List.mem_cons, List.not_mem_nil, or_false] at hr; rcases hr with rfl | rfl <;> exact ⟨rfl, rfl⟩) (fun k j h => by omega) (fun j h => Or.inr h) stillA (fun t w w' _ h hm => TwoSt_mod h hm (by omega) (by omega)) (AllEnd.get _ ⟨gi_end, gi_end, gi_end, gi_end, gi_end, gi_end, gi_end, gi_end, gi_end, ga_end, ga_end, ga_end, ga_end, trivial⟩) (by intro r hr; simp only [List.mem_cons, List.not_mem_nil, or_false] at hr; rcases hr with rfl | rfl <;> exact ⟨of_decide_eq_true (by kernel_rfl), of_decide_eq_true (by kernel_rfl)⟩) (by intro r hr; simp only [List.mem_cons, List.not_mem_nil, or_false] at hr; rcases hr with rfl | rfl <;> exact fun _ _ _ => ⟨trivial, trivial⟩) ⟨?_, ?_, ?_, ?_, ?_, ?_, ?_, ?_, ?_, ?_, ?_, ?_, ?_, trivial⟩ ?_
  · refine ⟨fun r hr e => ?_, fun r hr e => ?_, fun hno => ?_⟩
    · simp only [List.mem_cons, List.not_mem_nil, or_false] at hr
      rcases hr with rfl | rfl
      · simp at e
      · simp at e
    · simp only [List.mem_cons, List.not_mem_nil, or_false] at hr
      rcases hr with rfl | rfl
      · simp at e
      · simp at e
    · intro tr act w' hm hout hsz hd hG hk hub
      exact jg_run (by rfl) rfl (wanted_none rfl) (ex_move rfl ((hout 9 (by decide)).trans oe9)) (Mod.refl _ _) rfl
  · refine ⟨fun r hr e => ?_, fun r hr e => ?_, fun hno => ?_⟩
    · simp only [List.mem_cons, List.not_mem_nil, or_false] at hr
      rcases hr with rfl | rfl
      · simp at e
      · simp at e
    · simp only [List.mem_cons, List.not_mem_nil, or_false] at hr
      rcases hr with rfl | rfl
      · simp at e
      · simp at e
    · intro tr act w' hm hout hsz hd hG hk hub
      exact jg_run (by rfl) rfl (wanted_none rfl) (ex_loadA rfl Try.underlying26 rfl (off := 0) (cs := [.int .i64 a, .int .i64 b]) (by kernel_rfl) ((hout 4 (by decide)).trans oe4) (Cs.whole (KN5.out.mod hm (by omega)))) (Mod.refl _ _) rfl
  · refine ⟨fun r hr e => ?_, fun r hr e => ?_, fun hno => ?_⟩
    · simp only [List.mem_cons, List.not_mem_nil, or_false] at hr
      rcases hr with rfl | rfl
      · simp at e
      · simp at e
    · simp only [List.mem_cons, List.not_mem_nil, or_false] at hr
      rcases hr with rfl | rfl
      · simp at e
      · simp at e
    · intro tr act w' hm hout hsz hd hG hk hub
      exact jg_run (by rfl) rfl (wanted_none rfl) (ex_loadA rfl Try.underlying28 rfl (off := 0) (cs := h.map bv) (by rw [List.length_map, HH.out.1]; exact size_hash) ((hout 5 (by decide)).trans oe5) (Cs.whole (KH5.out.mod hm (by omega)))) (Mod.refl _ _) rfl
  · refine ⟨fun r hr e => ?_, fun r hr e => ?_, fun hno => ?_⟩
    · simp only [List.mem_cons, List.not_mem_nil, or_false] at hr
      rcases hr with rfl | rfl
      · simp at e
      · simp at e
    · simp only [List.mem_cons, List.not_mem_nil, or_false] at hr
      rcases hr with rfl | rfl
      · simp at e
      · simp at e
    · intro tr act w' hm hout hsz hd hG hk hub
      exact jg_run (by rfl) rfl (wanted_none rfl) (ex_move rfl ((hout 2 (by decide)).trans oe2)) (Mod.refl _ _) rfl
  · refine ⟨fun r hr e => ?_, fun r hr e => ?_, fun hno => ?_⟩
    · simp only [List.mem_cons, List.not_mem_nil, or_false] at hr
      rcases hr with rfl | rfl
      · simp at e
      · simp at e
    · simp only [List.mem_cons, List.not_mem_nil, or_false] at hr
      rcases hr with rfl | rfl
      · simp at e
      · simp at e
    · intro tr act w' hm hout hsz hd hG hk hub
      have h0 := hd ⟨0, .data⟩ (by simp) rfl _ rfl
      have h1 := hd ⟨1, .data⟩ (by simp) rfl _ rfl
      have h2 := hd ⟨2, .data⟩ (by simp) rfl _ rfl
      have h3 := hd ⟨3, .data⟩ (by simp) rfl _ rfl
      have hl := hk 0 rfl
      refine jc_call (args := #[.pointer (some ⟨g, 0, none⟩), .agg #[.int .i64 a, .int .i64 b], hv h, v']) (by rfl) rfl (wanted_none rfl) (by rw [ex_callF rfl Try.func19 (by kernel_rfl) (by kernel_rfl)]; exact congrArg (fun z => Result.ok (Next.enter _ z) _) (by simp only [List.map_toArray, List.map_cons, List.map_nil, show act.eval (.tmp 25) = _ from h0, show act.eval (.tmp 26) = _ from h1, show act.eval (.tmp 27) = _ from h2, show act.eval (.tmp 28) = _ from h3]; try rfl)) (Make_any (ByLen.at hG hl) (by decide) a b h bs v' HA.out HSI.out HB.out HH.out (HR.out.mod hm HAP.out) (by have := HLB.out; omega)) ?_
      rintro e w2 ⟨rfl, hb2, hm2⟩
      exact ⟨_, rfl, hm2, rfl, ByLen.on hl hb2⟩
  · refine ⟨fun r hr e => ?_, fun r hr e => ?_, fun hno => ?_⟩
    · simp only [List.mem_cons, List.not_mem_nil, or_false] at hr
      rcases hr with rfl | rfl
      · simp at e
      · simp at e
    · simp only [List.mem_cons, List.not_mem_nil, or_false] at hr
      rcases hr with rfl | rfl
      · simp at e
      · simp at e
    · intro tr act w' hm hout hsz hd hG hk hub
      exact jg_run (by rfl) rfl (wanted_none rfl) (ex_move rfl ((hout 9 (by decide)).trans oe9)) (Mod.refl _ _) rfl
  · refine ⟨fun r hr e => ?_, fun r hr e => ?_, fun hno => ?_⟩
    · simp only [List.mem_cons, List.not_mem_nil, or_false] at hr
      rcases hr with rfl | rfl
      · simp at e
      · simp at e
    · simp only [List.mem_cons, List.not_mem_nil, or_false] at hr
      rcases hr with rfl | rfl
      · simp at e
      · simp at e
    · intro tr act w' hm hout hsz hd hG hk hub
      exact jg_run (by rfl) rfl (wanted_none rfl) (ex_loadA rfl Try.underlying26 rfl (off := 0) (cs := [.int .i64 a, .int .i64 b]) (by kernel_rfl) ((hout 4 (by decide)).trans oe4) (Cs.whole (KN5.out.mod hm (by omega)))) (Mod.refl _ _) rfl
  · refine ⟨fun r hr e => ?_, fun r hr e => ?_, fun hno => ?_⟩
    · simp only [List.mem_cons, List.not_mem_nil, or_false] at hr
      rcases hr with rfl | rfl
      · simp at e
      · simp at e
    · simp only [List.mem_cons, List.not_mem_nil, or_false] at hr
      rcases hr with rfl | rfl
      · simp at e
      · simp at e
    · intro tr act w' hm hout hsz hd hG hk hub
      exact jg_run (by rfl) rfl (wanted_none rfl) (ex_loadA rfl Try.underlying28 rfl (off := 0) (cs := h.map bv) (by rw [List.length_map, HH.out.1]; exact size_hash) ((hout 5 (by decide)).trans oe5) (Cs.whole (KH5.out.mod hm (by omega)))) (Mod.refl _ _) rfl
  · refine ⟨fun r hr e => ?_, fun r hr e => ?_, fun hno => ?_⟩
    · simp only [List.mem_cons, List.not_mem_nil, or_false] at hr
      rcases hr with rfl | rfl
      · simp at e
      · simp at e
    · simp only [List.mem_cons, List.not_mem_nil, or_false] at hr
      rcases hr with rfl | rfl
      · simp at e
      · simp at e
    · intro tr act w' hm hout hsz hd hG hk hub
      have h5 := hd ⟨5, .data⟩ (by simp) rfl _ rfl
      have h6 := hd ⟨6, .data⟩ (by simp) rfl _ rfl
      have h7 := hd ⟨7, .data⟩ (by simp) rfl _ rfl
      have hl := hk 1 rfl
      refine jc_call (args := #[.pointer (some ⟨g, 0, none⟩), .agg #[.int .i64 a, .int .i64 b], hv h, (.slice none 0 0)]) (by rfl) rfl (wanted_none rfl) (by rw [ex_callF rfl Try.func19 (by kernel_rfl) (by kernel_rfl)]; exact congrArg (fun z => Result.ok (Next.enter _ z) _) (by simp only [List.map_toArray, List.map_cons, List.map_nil, show act.eval (.tmp 30) = _ from h5, show act.eval (.tmp 31) = _ from h6, show act.eval (.tmp 32) = _ from h7]; try rfl)) (Make_any (ByLen.at hG hl) HL1.out a b h [] (.slice none 0 0) HA.out HSI.out HB.out HH.out (RdB.nil _) (by decide)) ?_
      rintro e w2 ⟨rfl, hb2, hm2⟩
      exact ⟨_, rfl, hm2, rfl, ByLen.on hl hb2⟩
  · refine ⟨fun r hr e => ?_, fun r hr e => ?_, fun hno => ?_⟩
    · simp only [List.mem_cons, List.not_mem_nil, or_false] at hr
      rcases hr with rfl | rfl
      · exact ⟨rfl, rfl, by kernel_rfl, (by rw [Cm.len (shaF_len _)]; rfl), (Cm.one _), (by rw [Cm.len (shaF_len _)]; exact size_commit)⟩
      · simp at e
    · simp only [List.mem_cons, List.not_mem_nil, or_false] at hr
      rcases hr with rfl | rfl
      · simp at e
      · simp at e
    · exact absurd rfl (hno ⟨9, 11, 32, [.int .i64 0, .int .i64 0, .int .u8 0, .int .u8 0, .int .u8 0, .int .u8 0, .int .u8 0, .int .u8 0, .int .u8 0, .int .u8 0, .int .u8 0, .int .u8 0, .int .u8 0, .int .u8 0, .int .u8 0, .int .u8 0, .int .u8 0, .int .u8 0, .int .u8 0, .int .u8 0, .int .u8 0, .int .u8 0, .int .u8 0, .int .u8 0, .int .u8 0, .int .u8 0, .int .u8 0, .int .u8 0, .int .u8 0, .int .u8 0, .int .u8 0, .int .u8 0, .int .u8 0, .int .u8 0, .int .i64 0, .int .i64 0, .int .i64 0], Cm.cells (mkCm [] a b h bs)⟩ (by simp)).1
  · refine ⟨fun r hr e => ?_, fun r hr e => ?_, fun hno => ?_⟩
    · simp only [List.mem_cons, List.not_mem_nil, or_false] at hr
      rcases hr with rfl | rfl
      · simp at e
      · exact ⟨rfl, rfl, by kernel_rfl, (by rw [Cm.len (shaF_len _)]; rfl), (Cm.one _), (by rw [Cm.len (shaF_len _)]; exact size_commit)⟩
    · simp only [List.mem_cons, List.not_mem_nil, or_false] at hr
      rcases hr with rfl | rfl
      · simp at e
      · simp at e
    · exact absurd rfl (hno ⟨10, 12, 32, [.int .i64 0, .int .i64 0, .int .u8 0, .int .u8 0, .int .u8 0, .int .u8 0, .int .u8 0, .int .u8 0, .int .u8 0, .int .u8 0, .int .u8 0, .int .u8 0, .int .u8 0, .int .u8 0, .int .u8 0, .int .u8 0, .int .u8 0, .int .u8 0, .int .u8 0, .int .u8 0, .int .u8 0, .int .u8 0, .int .u8 0, .int .u8 0, .int .u8 0, .int .u8 0, .int .u8 0, .int .u8 0, .int .u8 0, .int .u8 0, .int .u8 0, .int .u8 0, .int .u8 0, .int .u8 0, .int .i64 0, .int .i64 0, .int .i64 0], Cm.cells (mkCm (mkBook [] a b h bs) a b h [])⟩ (by simp)).1
  · refine ⟨fun r hr e => ?_, fun r hr e => ?_, fun hno => ?_⟩
    · simp only [List.mem_cons, List.not_mem_nil, or_false] at hr
      rcases hr with rfl | rfl
      · simp at e
      · simp at e
    · simp only [List.mem_cons, List.not_mem_nil, or_false] at hr
      rcases hr with rfl | rfl
      · refine ⟨rfl, _, (.tmp 29), rfl, by decide, rfl, by kernel_rfl, by kernel_rfl, fun tr act w' hm hout hd hG => ?_⟩
        have h4 := hd ⟨4, .data⟩ (by simp) rfl _ rfl
        rw [show act.eval ((.tmp 29)) = _ from h4]
        rfl
      · simp at e
    · exact absurd rfl (hno ⟨9, 11, 32, [.int .i64 0, .int .i64 0, .int .u8 0, .int .u8 0, .int .u8 0, .int .u8 0, .int .u8 0, .int .u8 0, .int .u8 0, .int .u8 0, .int .u8 0, .int .u8 0, .int .u8 0, .int .u8 0, .int .u8 0, .int .u8 0, .int .u8 0, .int .u8 0, .int .u8 0, .int .u8 0, .int .u8 0, .int .u8 0, .int .u8 0, .int .u8 0, .int .u8 0, .int .u8 0, .int .u8 0, .int .u8 0, .int .u8 0, .int .u8 0, .int .u8 0, .int .u8 0, .int .u8 0, .int .u8 0, .int .i64 0, .int .i64 0, .int .i64 0], Cm.cells (mkCm [] a b h bs)⟩ (by simp)).2
  · refine ⟨fun r hr e => ?_, fun r hr e => ?_, fun hno => ?_⟩
    · simp only [List.mem_cons, List.not_mem_nil, or_false] at hr
      rcases hr with rfl | rfl
      · simp at e
      · simp at e
    · simp only [List.mem_cons, List.not_mem_nil, or_false] at hr
      rcases hr with rfl | rfl
      · simp at e
      · refine ⟨rfl, _, (.tmp 33), rfl, by decide, rfl, by kernel_rfl, by kernel_rfl, fun tr act w' hm hout hd hG => ?_⟩
        have h8 := hd ⟨8, .data⟩ (by simp) rfl _ rfl
        rw [show act.eval ((.tmp 33)) = _ from h8]
        rfl
    · exact absurd rfl (hno ⟨10, 12, 32, [.int .i64 0, .int .i64 0, .int .u8 0, .int .u8 0, .int .u8 0, .int .u8 0, .int .u8 0, .int .u8 0, .int .u8 0, .int .u8 0, .int .u8 0, .int .u8 0, .int .u8 0, .int .u8 0, .int .u8 0, .int .u8 0, .int .u8 0, .int .u8 0, .int .u8 0, .int .u8 0, .int .u8 0, .int .u8 0, .int .u8 0, .int .u8 0, .int .u8 0, .int .u8 0, .int .u8 0, .int .u8 0, .int .u8 0, .int .u8 0, .int .u8 0, .int .u8 0, .int .u8 0, .int .u8 0, .int .i64 0, .int .i64 0, .int .i64 0], Cm.cells (mkCm (mkBook [] a b h bs) a b h [])⟩ (by simp)).2
  intro vs tr w6 hl htl hm hG hV hAL hNE
  obtain ⟨v0, vs0, rfl, hl0⟩ := list_cons hl
  obtain ⟨v1, vs1, rfl, hl1⟩ := list_cons hl0
  obtain ⟨v2, vs2, rfl, hl2⟩ := list_cons hl1
  obtain ⟨v3, vs3, rfl, hl3⟩ := list_cons hl2
  obtain ⟨v4, vs4, rfl, hl4⟩ := list_cons hl3
  obtain ⟨v5, vs5, rfl, hl5⟩ := list_cons hl4
  obtain ⟨v6, vs6, rfl, hl6⟩ := list_cons hl5
  obtain ⟨v7, vs7, rfl, hl7⟩ := list_cons hl6
  obtain ⟨v8, vs8, rfl, hl8⟩ := list_cons hl7
  obtain ⟨v9, vs9, rfl, hl9⟩ := list_cons hl8
  obtain ⟨v10, vs10, rfl, hl10⟩ := list_cons hl9
  obtain ⟨v11, vs11, rfl, hl11⟩ := list_cons hl10
  obtain ⟨v12, vs12, rfl, hl12⟩ := list_cons hl11
  obtain rfl := list_nil hl12
  obtain ⟨q0, fq0, hqB0, hqC0⟩ := hAL _ (by simp only [List.mem_cons, List.not_mem_nil, or_false]; exact Or.inl rfl)
  obtain rfl : v9 = _ := Option.some.inj fq0
  obtain ⟨q1, fq1, hqB1, hqC1⟩ := hAL _ (by simp only [List.mem_cons, List.not_mem_nil, or_false]; exact Or.inr (rfl))
  obtain rfl : v10 = _ := Option.some.inj fq1
  clear hl hl0 hl1 hl2 hl3 hl4 hl5 hl6 hl7 hl8 hl9 hl10 hl11 hl12
  have ha0 := HA0.out
  subst ha0
  clear HA0 hV hsz0 oe2 oe4 oe5 oe9
  simp only [putAll, Act.put, List.setIfInBounds_toArray, List.set_cons_zero, List.set_cons_succ, List.set_nil]
  have KX := Lib.hid hqC0
  have KY := Lib.hid hqC1
  have KN6 := Lib.hid (KN5.out.mod hm (by omega))
  have KH6 := Lib.hid (KH5.out.mod hm (by omega))
  have KM6 := Lib.hid (KM5.out.trans hm (fun k h1 h2 => by omega))
  have HR6 := Lib.hid (HR.out.mod hm HAP.out)
  clear hG hm htl hAL hNE hqC0 hqC1 fq0 fq1 KN5 KH5 KM5 HB5 HR
  by_cases he : bs = []
  · have EG := Lib.hid (show decide ((0 : Int) < (bs.length : Int)) = false by rw [he]; rfl)
    have EXY := Lib.hid (show (mkCm [] a b h bs : Cm) = mkCm (mkBook [] a b h bs) a b h [] by rw [he, mkCm_again])
    clear he
    go_upto_region 7 with (fail)
    generalize ha0 : Act.mk _ _ = a0
    have oe2 : a0.eval (.tmp 2) = v' := by rw [← ha0]; rfl
    have oe3 : a0.eval (.tmp 3) = .int .i64 at' := by rw [← ha0]; rfl
    have oe4 : a0.eval (.tmp 4) = .pointer (some ⟨w.heap.size, 0, none⟩) := by rw [← ha0]; rfl
    have oe5 : a0.eval (.tmp 5) = .pointer (some ⟨w.heap.size + 1, 0, none⟩) := by rw [← ha0]; rfl
    have oe10 : a0.eval (.tmp 10) = .pointer (some ⟨q0, 0, none⟩) := by rw [← ha0]; rfl
    have oe11 : a0.eval (.tmp 11) = .pointer (some ⟨q1, 0, none⟩) := by rw [← ha0]; rfl
    have hsz0 : a0.tmps.size = 75 := by rw [← ha0]; rfl
    have HA0 := Lib.hid ha0
    clear ha0
    refine wp_region_G 75 hsz0 (by kernel_rfl) (by kernel_rfl) [34, 35, 36, 37, 38, 39, 40, 41, 42, 43, 44, 45, 46, 47, 48, 49, 50, 51, 52, 53, 54, 55, 56, 57, 58, 59, 60, 61, 62, 63, 64, 65, 66, 67, 68, 69, 70, 71, 72, 73, 74, 8] (by kernel_rfl) (by decide) (fun _ => False) (fun _ _ => False) (fun _ _ h => h) Still (fun _ _ _ h => h) (fun _ _ _ hm h => hm.trans h (fun _ _ h => h.elim)) [gi (.pointer (some ⟨q0, 2, none⟩)), gi (hv (mkCm [] a b h bs).h), gi (.agg #[.int .i64 a, .int .i64 b]), gi (.int .i64 at'), gi (v'), gi (hv h), gi (.agg (opC at' v' h).toArray), gi (.bool true), gi (.bool true), gi (.pointer (some ⟨q1, 2, none⟩)), gi (hv (mkCm (mkBook [] a b h bs) a b h []).h), gi (.agg #[.int .i64 a, .int .i64 b]), gi (hv h), gi (.agg (opC 0 (.slice none 0 0) h).toArray), gi (.bool true), gi (.bool true), gi (.bool true), gi (.pointer (some ⟨q1, 34, none⟩)), gi (.int .i64 (mkCm (mkBook [] a b h bs) a b h []).ln), gi (.bool true), gi (.bool true), gi (.bool true), gi (.pointer (some ⟨q0, 34, none⟩)), gi (.int .i64 (mkCm [] a b h bs).ln), gi (v'), gi (.int .i64 bs.length), gi (.bool true), gi (.bool true), gi (.bool true), gi (v'), gi (.int .i64 bs.length), gi (.bool false), gi (.bool false), gi ((mkCm [] a b h bs).val), gi ((mkCm (mkBook [] a b h bs) a b h []).val), gi (.bool true), gi (.bool true), gi (.bool true), gi (.bool true), gi (.bool true), gi (.bool true), gi (.bool true)] ⟨gi_stable, gi_stable, gi_stable, gi_stable, gi_stable, gi_stable, gi_stable, gi_stable, gi_stable, gi_stable, gi_stable, gi_stable, gi_stable, gi_stable, gi_stable, gi_stable, gi_stable, gi_stable, gi_stable, gi_stable, gi_stable, gi_stable, gi_stable, gi_stable, gi_stable, gi_stable, gi_stable, gi_stable, gi_stable, gi_stable, gi_stable, gi_stable, gi_stable, gi_stable, gi_stable, gi_stable, gi_stable, gi_stable, gi_stable, gi_stable, gi_stable, gi_stable, trivial⟩ [] (by kernel_rfl) (by decide) (by kernel_rfl) (fun _ _ => True) (fun _ _ _ _ _ => trivial) trivial ⟨?_, ?_, ?_, ?_, ?_, ?_, ?_, ?_, ?_, ?_, ?_, ?_, ?_, ?_, ?_, ?_, ?_, ?_, ?_, ?_, ?_, ?_, ?_, ?_, ?_, ?_, ?_, ?_, ?_, ?_, ?_, ?_, ?_, ?_, ?_, ?_, ?_, ?_, ?_, ?_, ?_, ?_, trivial⟩ ?_
    · intro tr act w' hm hout hsz hd hG hk hub
      refine jg_run (by rfl) rfl (wanted_none rfl) (ex_field rfl Try.underlying32 rfl (by kernel_rfl) ((hout 10 (by decide)).trans oe10)) (Mod.refl _ _) ?_
      rfl
    · intro tr act w' hm hout hsz hd hG hk hub
      have h0 := hd ⟨0, .data⟩ (by simp) rfl _ rfl
      exact jg_run (by rfl) rfl (wanted_none rfl) (ex_loadA rfl Try.underlying28 rfl (off := 2) (cs := (mkCm [] a b h bs).h.map bv) (by rw [List.length_map, show (mkCm [] a b h bs).h.length = 32 from shaF_len _]; exact size_hash) h0 (Cs.hash (KX.out.mod hm (fun h => h)))) (Mod.refl _ _) rfl
    · intro tr act w' hm hout hsz hd hG hk hub
      exact jg_run (by rfl) rfl (wanted_none rfl) (ex_loadA rfl Try.underlying26 rfl (off := 0) (cs := [.int .i64 a, .int .i64 b]) (by kernel_rfl) ((hout 4 (by decide)).trans oe4) (Cs.whole (KN6.out.mod hm (fun h => h)))) (Mod.refl _ _) rfl
    · intro tr act w' hm hout hsz hd hG hk hub
      exact jg_run (by rfl) rfl (wanted_none rfl) (ex_move rfl ((hout 3 (by decide)).trans oe3)) (Mod.refl _ _) rfl
    · intro tr act w' hm hout hsz hd hG hk hub
      exact jg_run (by rfl) rfl (wanted_none rfl) (ex_move rfl ((hout 2 (by decide)).trans oe2)) (Mod.refl _ _) rfl
    · intro tr act w' hm hout hsz hd hG hk hub
      exact jg_run (by rfl) rfl (wanted_none rfl) (ex_loadA rfl Try.underlying28 rfl (off := 0) (cs := h.map bv) (by rw [List.length_map, HH.out.1]; exact size_hash) ((hout 5 (by decide)).trans oe5) (Cs.whole (KH6.out.mod hm (fun h => h)))) (Mod.refl _ _) rfl
    · intro tr act w' hm hout hsz hd hG hk hub
      have h3 := hd ⟨3, .data⟩ (by simp) rfl _ rfl
      have h4 := hd ⟨4, .data⟩ (by simp) rfl _ rfl
      have h5 := hd ⟨5, .data⟩ (by simp) rfl _ rfl
      exact jg_run (by rfl) rfl (wanted_none rfl) (ex_build rfl (z := [.int .i64 0, .slice none 0 0, .int .u8 0, .int .u8 0, .int .u8 0, .int .u8 0, .int .u8 0, .int .u8 0, .int .u8 0, .int .u8 0, .int .u8 0, .int .u8 0, .int .u8 0, .int .u8 0, .int .u8 0, .int .u8 0, .int .u8 0, .int .u8 0, .int .u8 0, .int .u8 0, .int .u8 0, .int .u8 0, .int .u8 0, .int .u8 0, .int .u8 0, .int .u8 0, .int .u8 0, .int .u8 0, .int .u8 0, .int .u8 0, .int .u8 0, .int .u8 0, .int .u8 0, .int .u8 0]) (places := [(0, 1), (1, 1), (2, 32)]) (by kernel_rfl) (parts := [(0, .int .i64 at'), (1, v'), (2, hv h)]) (by simp only [List.map_toArray, List.map_cons, List.map_nil, show act.eval (.tmp 37) = _ from h3, show act.eval (.tmp 38) = _ from h4, show act.eval (.tmp 39) = _ from h5]; try rfl) (r := opC at' v' h) (by exact laid_op HH.out.1 (by rw [HV.out]; rfl))) (Mod.refl _ _) rfl
    · intro tr act w' hm hout hsz hd hG hk hub
      have h1 := hd ⟨1, .data⟩ (by simp) rfl _ rfl
      have h2 := hd ⟨2, .data⟩ (by simp) rfl _ rfl
      have h6 := hd ⟨6, .data⟩ (by simp) rfl _ rfl
      refine jg_call (args := #[hv (mkCm [] a b h bs).h, .agg #[.int .i64 a, .int .i64 b], .agg (opC at' v' h).toArray]) (by rfl) rfl (wanted_none rfl) (by rw [ex_callF rfl Try.func26 (by kernel_rfl) (by kernel_rfl)]; exact congrArg (fun z => Result.ok (Next.enter _ z) _) (by simp only [List.map_toArray, List.map_cons, List.map_nil, show act.eval (.tmp 35) = _ from h1, show act.eval (.tmp 36) = _ from h2, show act.eval (.tmp 40) = _ from h6]; try rfl)) (Matches_any (mkCm [] a b h bs).h a b at' h bs v' _ (shaF_len _) HA.out HB.out HH.out (HR6.out.mod hm (fun _ _ _ h => h)) (by have := HLB.out; omega)) ?_
      rintro e w2 ⟨rfl, hm2⟩
      exact ⟨_, rfl, hm2, congrArg Value.bool (decide_eq_true rfl)⟩
    · intro tr act w' hm hout hsz hd hG hk hub
      have h7 := hd ⟨7, .data⟩ (by simp) rfl _ rfl
      exact jg_run (by rfl) rfl (wanted_none rfl) (ex_move rfl h7) (Mod.refl _ _) rfl
    · intro tr act w' hm hout hsz hd hG hk hub
      have h8 := hd ⟨8, .guard⟩ (by simp) rfl _ rfl
      refine jg_run (by rfl) rfl ((wanted_of rfl rfl (hsz 42 (by decide)) h8).trans rfl) (ex_field rfl Try.underlying32 rfl (by kernel_rfl) ((hout 11 (by decide)).trans oe11)) (Mod.refl _ _) ?_
      rfl
    · intro tr act w' hm hout hsz hd hG hk hub
      have h8 := hd ⟨8, .guard⟩ (by simp) rfl _ rfl
      have h9 := hd ⟨9, .data⟩ (by simp) rfl _ rfl
      exact jg_run (by rfl) rfl ((wanted_of rfl rfl (hsz 42 (by decide)) h8).trans rfl) (ex_loadA rfl Try.underlying28 rfl (off := 2) (cs := (mkCm (mkBook [] a b h bs) a b h []).h.map bv) (by rw [List.length_map, show (mkCm (mkBook [] a b h bs) a b h []).h.length = 32 from shaF_len _]; exact size_hash) h9 (Cs.hash (KY.out.mod hm (fun h => h)))) (Mod.refl _ _) rfl
    · intro tr act w' hm hout hsz hd hG hk hub
      have h8 := hd ⟨8, .guard⟩ (by simp) rfl _ rfl
      exact jg_run (by rfl) rfl ((wanted_of rfl rfl (hsz 42 (by decide)) h8).trans rfl) (ex_loadA rfl Try.underlying26 rfl (off := 0) (cs := [.int .i64 a, .int .i64 b]) (by kernel_rfl) ((hout 4 (by decide)).trans oe4) (Cs.whole (KN6.out.mod hm (fun h => h)))) (Mod.refl _ _) rfl
    · intro tr act w' hm hout hsz hd hG hk hub
      have h8 := hd ⟨8, .guard⟩ (by simp) rfl _ rfl
      exact jg_run (by rfl) rfl ((wanted_of rfl rfl (hsz 42 (by decide)) h8).trans rfl) (ex_loadA rfl Try.underlying28 rfl (off := 0) (cs := h.map bv) (by rw [List.length_map, HH.out.1]; exact size_hash) ((hout 5 (by decide)).trans oe5) (Cs.whole (KH6.out.mod hm (fun h => h)))) (Mod.refl _ _) rfl
    · intro tr act w' hm hout hsz hd hG hk hub
      have h8 := hd ⟨8, .guard⟩ (by simp) rfl _ rfl
      have h12 := hd ⟨12, .data⟩ (by simp) rfl _ rfl
      exact jg_run (by rfl) rfl ((wanted_of rfl rfl (hsz 42 (by decide)) h8).trans rfl) (ex_build rfl (z := [.int .i64 0, .slice none 0 0, .int .u8 0, .int .u8 0, .int .u8 0, .int .u8 0, .int .u8 0, .int .u8 0, .int .u8 0, .int .u8 0, .int .u8 0, .int .u8 0, .int .u8 0, .int .u8 0, .int .u8 0, .int .u8 0, .int .u8 0, .int .u8 0, .int .u8 0, .int .u8 0, .int .u8 0, .int .u8 0, .int .u8 0, .int .u8 0, .int .u8 0, .int .u8 0, .int .u8 0, .int .u8 0, .int .u8 0, .int .u8 0, .int .u8 0, .int .u8 0, .int .u8 0, .int .u8 0]) (places := [(0, 1), (1, 1), (2, 32)]) (by kernel_rfl) (parts := [(2, hv h)]) (by simp only [List.map_toArray, List.map_cons, List.map_nil, show act.eval (.tmp 46) = _ from h12]; try rfl) (r := opC 0 (.slice none 0 0) h) (by exact laid_op0 HH.out.1)) (Mod.refl _ _) rfl
    · intro tr act w' hm hout hsz hd hG hk hub
      have h8 := hd ⟨8, .guard⟩ (by simp) rfl _ rfl
      have h10 := hd ⟨10, .data⟩ (by simp) rfl _ rfl
      have h11 := hd ⟨11, .data⟩ (by simp) rfl _ rfl
      have h13 := hd ⟨13, .data⟩ (by simp) rfl _ rfl
      refine jg_call (args := #[hv (mkCm (mkBook [] a b h bs) a b h []).h, .agg #[.int .i64 a, .int .i64 b], .agg (opC 0 (.slice none 0 0) h).toArray]) (by rfl) rfl ((wanted_of rfl rfl (hsz 42 (by decide)) h8).trans rfl) (by rw [ex_callF rfl Try.func26 (by kernel_rfl) (by kernel_rfl)]; exact congrArg (fun z => Result.ok (Next.enter _ z) _) (by simp only [List.map_toArray, List.map_cons, List.map_nil, show act.eval (.tmp 44) = _ from h10, show act.eval (.tmp 45) = _ from h11, show act.eval (.tmp 47) = _ from h13]; try rfl)) (Matches_any (mkCm (mkBook [] a b h bs) a b h []).h a b 0 h [] (.slice none 0 0) _ (shaF_len _) HA.out HB.out HH.out (RdB.nil _) (by decide)) ?_
      rintro e w2 ⟨rfl, hm2⟩
      exact ⟨_, rfl, hm2, congrArg Value.bool (decide_eq_true rfl)⟩
    · intro tr act w' hm hout hsz hd hG hk hub
      have h8 := hd ⟨8, .data⟩ (by simp) rfl _ rfl
      have h14 := hd ⟨14, .data⟩ (by simp) rfl _ rfl
      exact jg_run (by rfl) rfl (wanted_none rfl) (ex_pick rfl h8 h14 rfl) (Mod.refl _ _) rfl
    · intro tr act w' hm hout hsz hd hG hk hub
      have h15 := hd ⟨15, .data⟩ (by simp) rfl _ rfl
      exact jg_run (by rfl) rfl (wanted_none rfl) (ex_move rfl h15) (Mod.refl _ _) rfl
    · intro tr act w' hm hout hsz hd hG hk hub
      have h16 := hd ⟨16, .guard⟩ (by simp) rfl _ rfl
      refine jg_run (by rfl) rfl ((wanted_of rfl rfl (hsz 50 (by decide)) h16).trans rfl) (ex_field rfl Try.underlying32 rfl (by kernel_rfl) ((hout 11 (by decide)).trans oe11)) (Mod.refl _ _) ?_
      rfl
    · intro tr act w' hm hout hsz hd hG hk hub
      have h16 := hd ⟨16, .guard⟩ (by simp) rfl _ rfl
      have h17 := hd ⟨17, .data⟩ (by simp) rfl _ rfl
      exact jg_run (by rfl) rfl ((wanted_of rfl rfl (hsz 50 (by decide)) h16).trans rfl) (ex_load1 rfl Try.underlying3 rfl h17 ((KY.out.mod hm (fun h => h)).c34 (shaF_len _))) (Mod.refl _ _) rfl
    · intro tr act w' hm hout hsz hd hG hk hub
      have h16 := hd ⟨16, .guard⟩ (by simp) rfl _ rfl
      have h18 := hd ⟨18, .data⟩ (by simp) rfl _ rfl
      refine jg_run (by rfl) rfl ((wanted_of rfl rfl (hsz 50 (by decide)) h16).trans rfl) (ex_bin rfl h18 rfl (guard_ints _ _ _ _ _ _) (run_eql_i _ _ _ Try.underlying3)) (Mod.refl _ _) ?_
      exact congrArg Value.bool (show (((([] : List Int).length : Nat) : Int) == 0) = true from rfl)
    · intro tr act w' hm hout hsz hd hG hk hub
      have h16 := hd ⟨16, .data⟩ (by simp) rfl _ rfl
      have h19 := hd ⟨19, .data⟩ (by simp) rfl _ rfl
      exact jg_run (by rfl) rfl (wanted_none rfl) (ex_pick rfl h16 h19 rfl) (Mod.refl _ _) rfl
    · intro tr act w' hm hout hsz hd hG hk hub
      have h20 := hd ⟨20, .data⟩ (by simp) rfl _ rfl
      exact jg_run (by rfl) rfl (wanted_none rfl) (ex_move rfl h20) (Mod.refl _ _) rfl
    · intro tr act w' hm hout hsz hd hG hk hub
      have h21 := hd ⟨21, .guard⟩ (by simp) rfl _ rfl
      refine jg_run (by rfl) rfl ((wanted_of rfl rfl (hsz 55 (by decide)) h21).trans rfl) (ex_field rfl Try.underlying32 rfl (by kernel_rfl) ((hout 10 (by decide)).trans oe10)) (Mod.refl _ _) ?_
      rfl
    · intro tr act w' hm hout hsz hd hG hk hub
      have h21 := hd ⟨21, .guard⟩ (by simp) rfl _ rfl
      have h22 := hd ⟨22, .data⟩ (by simp) rfl _ rfl
      exact jg_run (by rfl) rfl ((wanted_of rfl rfl (hsz 55 (by decide)) h21).trans rfl) (ex_load1 rfl Try.underlying3 rfl h22 ((KX.out.mod hm (fun h => h)).c34 (shaF_len _))) (Mod.refl _ _) rfl
    · intro tr act w' hm hout hsz hd hG hk hub
      have h21 := hd ⟨21, .guard⟩ (by simp) rfl _ rfl
      exact jg_run (by rfl) rfl ((wanted_of rfl rfl (hsz 55 (by decide)) h21).trans rfl) (ex_move rfl ((hout 2 (by decide)).trans oe2)) (Mod.refl _ _) rfl
    · intro tr act w' hm hout hsz hd hG hk hub
      have h21 := hd ⟨21, .guard⟩ (by simp) rfl _ rfl
      have h24 := hd ⟨24, .data⟩ (by simp) rfl _ rfl
      exact jg_run (by rfl) rfl ((wanted_of rfl rfl (hsz 55 (by decide)) h21).trans rfl) (ex_lenS rfl (h24.trans HV.out) Try.underlying36) (Mod.refl _ _) rfl
    · intro tr act w' hm hout hsz hd hG hk hub
      have h21 := hd ⟨21, .guard⟩ (by simp) rfl _ rfl
      have h23 := hd ⟨23, .data⟩ (by simp) rfl _ rfl
      have h25 := hd ⟨25, .data⟩ (by simp) rfl _ rfl
      refine jg_run (by rfl) rfl ((wanted_of rfl rfl (hsz 55 (by decide)) h21).trans rfl) (ex_bin rfl h23 h25 (guard_ints _ _ _ _ _ _) (run_eql_i _ _ _ Try.underlying3)) (Mod.refl _ _) ?_
      exact congrArg Value.bool (beq_self_eq_true _)
    · intro tr act w' hm hout hsz hd hG hk hub
      have h21 := hd ⟨21, .data⟩ (by simp) rfl _ rfl
      have h26 := hd ⟨26, .data⟩ (by simp) rfl _ rfl
      exact jg_run (by rfl) rfl (wanted_none rfl) (ex_pick rfl h21 h26 rfl) (Mod.refl _ _) rfl
    · intro tr act w' hm hout hsz hd hG hk hub
      have h27 := hd ⟨27, .data⟩ (by simp) rfl _ rfl
      exact jg_run (by rfl) rfl (wanted_none rfl) (ex_move rfl h27) (Mod.refl _ _) rfl
    · intro tr act w' hm hout hsz hd hG hk hub
      have h28 := hd ⟨28, .guard⟩ (by simp) rfl _ rfl
      exact jg_run (by rfl) rfl ((wanted_of rfl rfl (hsz 62 (by decide)) h28).trans rfl) (ex_move rfl ((hout 2 (by decide)).trans oe2)) (Mod.refl _ _) rfl
    · intro tr act w' hm hout hsz hd hG hk hub
      have h28 := hd ⟨28, .guard⟩ (by simp) rfl _ rfl
      have h29 := hd ⟨29, .data⟩ (by simp) rfl _ rfl
      exact jg_run (by rfl) rfl ((wanted_of rfl rfl (hsz 62 (by decide)) h28).trans rfl) (ex_lenS rfl (h29.trans HV.out) Try.underlying36) (Mod.refl _ _) rfl
    · intro tr act w' hm hout hsz hd hG hk hub
      have h28 := hd ⟨28, .guard⟩ (by simp) rfl _ rfl
      have h30 := hd ⟨30, .data⟩ (by simp) rfl _ rfl
      refine jg_run (by rfl) rfl ((wanted_of rfl rfl (hsz 62 (by decide)) h28).trans rfl) (ex_bin rfl h30 rfl (guard_ints _ _ _ _ _ _) (run_gtr_i _ _ _ Try.underlying3)) (Mod.refl _ _) ?_
      exact congrArg Value.bool EG.out
    · intro tr act w' hm hout hsz hd hG hk hub
      have h28 := hd ⟨28, .guard⟩ (by simp) rfl _ rfl
      have h31 := hd ⟨31, .data⟩ (by simp) rfl _ rfl
      exact jg_run (by rfl) rfl ((wanted_of rfl rfl (hsz 62 (by decide)) h28).trans rfl) (ex_move rfl h31) (Mod.refl _ _) rfl
    · intro tr act w' hm hout hsz hd hG hk hub
      have h32 := hd ⟨32, .guard⟩ (by simp) rfl _ rfl
      exact jg_run (by rfl) rfl ((wanted_of rfl rfl (hsz 66 (by decide)) h32).trans rfl) (ex_loadA rfl Try.underlying32 rfl (off := 0) (cs := Cm.cells (mkCm [] a b h bs)) (by rw [Cm.len (shaF_len _)]; exact size_commit) ((hout 10 (by decide)).trans oe10) (Cs.whole (KX.out.mod hm (fun h => h)))) (Mod.refl _ _) rfl
    · intro tr act w' hm hout hsz hd hG hk hub
      have h32 := hd ⟨32, .guard⟩ (by simp) rfl _ rfl
      exact jg_run (by rfl) rfl ((wanted_of rfl rfl (hsz 66 (by decide)) h32).trans rfl) (ex_loadA rfl Try.underlying32 rfl (off := 0) (cs := Cm.cells (mkCm (mkBook [] a b h bs) a b h [])) (by rw [Cm.len (shaF_len _)]; exact size_commit) ((hout 11 (by decide)).trans oe11) (Cs.whole (KY.out.mod hm (fun h => h)))) (Mod.refl _ _) rfl
    · intro tr act w' hm hout hsz hd hG hk hub
      have h32 := hd ⟨32, .guard⟩ (by simp) rfl _ rfl
      have h33 := hd ⟨33, .data⟩ (by simp) rfl _ rfl
      have h34 := hd ⟨34, .data⟩ (by simp) rfl _ rfl
      exact jg_run (by rfl) rfl ((wanted_of rfl rfl (hsz 66 (by decide)) h32).trans rfl) (ex_bin rfl h33 h34 (agg_guard _ _ _ _ _ _ (by kernel_rfl) _) (cm_eql (mkCm [] a b h bs) (mkCm (mkBook [] a b h bs) a b h []) (shaF_len _) EXY.out _)) (Mod.refl _ _) rfl
    · intro tr act w' hm hout hsz hd hG hk hub
      have h28 := hd ⟨28, .guard⟩ (by simp) rfl _ rfl
      have h32 := hd ⟨32, .data⟩ (by simp) rfl _ rfl
      have h35 := hd ⟨35, .data⟩ (by simp) rfl _ rfl
      exact jg_run (by rfl) rfl ((wanted_of rfl rfl (hsz 62 (by decide)) h28).trans rfl) (ex_pick rfl h32 rfl h35) (Mod.refl _ _) rfl
    · intro tr act w' hm hout hsz hd hG hk hub
      have h28 := hd ⟨28, .data⟩ (by simp) rfl _ rfl
      have h36 := hd ⟨36, .data⟩ (by simp) rfl _ rfl
      exact jg_run (by rfl) rfl (wanted_none rfl) (ex_pick rfl h28 h36 rfl) (Mod.refl _ _) rfl
    · intro tr act w' hm hout hsz hd hG hk hub
      have h37 := hd ⟨37, .data⟩ (by simp) rfl _ rfl
      exact jg_run (by rfl) rfl (wanted_none rfl) (ex_move rfl h37) (Mod.refl _ _) rfl
    · intro tr act w' hm hout hsz hd hG hk hub
      have h38 := hd ⟨38, .guard⟩ (by simp) rfl _ rfl
      refine jg_call (args := #[]) (by rfl) rfl ((wanted_of rfl rfl (hsz 72 (by decide)) h38).trans rfl) (by rw [ex_callF rfl Try.func16 (by kernel_rfl) (by kernel_rfl)]; simp) (wakes04 _) ?_
      rintro e w2 ⟨rfl, hm2⟩
      exact ⟨_, rfl, hm2, rfl⟩
    · intro tr act w' hm hout hsz hd hG hk hub
      have h38 := hd ⟨38, .data⟩ (by simp) rfl _ rfl
      have h39 := hd ⟨39, .data⟩ (by simp) rfl _ rfl
      exact jg_run (by rfl) rfl (wanted_none rfl) (ex_pick rfl h38 h39 rfl) (Mod.refl _ _) rfl
    · intro tr act w' hm hout hsz hd hG hk hub
      have h40 := hd ⟨40, .data⟩ (by simp) rfl _ rfl
      exact jg_run (by rfl) rfl (wanted_none rfl) (ex_assign rfl h40) (Mod.refl _ _) rfl
    intro vs tr w7 hl htl hm hG hV
    obtain ⟨v0, vs0, rfl, hl0⟩ := list_cons hl
    obtain ⟨v1, vs1, rfl, hl1⟩ := list_cons hl0
    obtain ⟨v2, vs2, rfl, hl2⟩ := list_cons hl1
    obtain ⟨v3, vs3, rfl, hl3⟩ := list_cons hl2
    obtain ⟨v4, vs4, rfl, hl4⟩ := list_cons hl3
    obtain ⟨v5, vs5, rfl, hl5⟩ := list_cons hl4
    obtain ⟨v6, vs6, rfl, hl6⟩ := list_cons hl5
    obtain ⟨v7, vs7, rfl, hl7⟩ := list_cons hl6
    obtain ⟨v8, vs8, rfl, hl8⟩ := list_cons hl7
    obtain ⟨v9, vs9, rfl, hl9⟩ := list_cons hl8
    obtain ⟨v10, vs10, rfl, hl10⟩ := list_cons hl9
    obtain ⟨v11, vs11, rfl, hl11⟩ := list_cons hl10
    obtain ⟨v12, vs12, rfl, hl12⟩ := list_cons hl11
    obtain ⟨v13, vs13, rfl, hl13⟩ := list_cons hl12
    obtain ⟨v14, vs14, rfl, hl14⟩ := list_cons hl13
    obtain ⟨v15, vs15, rfl, hl15⟩ := list_cons hl14
    obtain ⟨v16, vs16, rfl, hl16⟩ := list_cons hl15
    obtain ⟨v17, vs17, rfl, hl17⟩ := list_cons hl16
    obtain ⟨v18, vs18, rfl, hl18⟩ := list_cons hl17
    obtain ⟨v19, vs19, rfl, hl19⟩ := list_cons hl18
    obtain ⟨v20, vs20, rfl, hl20⟩ := list_cons hl19
    obtain ⟨v21, vs21, rfl, hl21⟩ := list_cons hl20
    obtain ⟨v22, vs22, rfl, hl22⟩ := list_cons hl21
    obtain ⟨v23, vs23, rfl, hl23⟩ := list_cons hl22
    obtain ⟨v24, vs24, rfl, hl24⟩ := list_cons hl23
    obtain ⟨v25, vs25, rfl, hl25⟩ := list_cons hl24
    obtain ⟨v26, vs26, rfl, hl26⟩ := list_cons hl25
    obtain ⟨v27, vs27, rfl, hl27⟩ := list_cons hl26
    obtain ⟨v28, vs28, rfl, hl28⟩ := list_cons hl27
    obtain ⟨v29, vs29, rfl, hl29⟩ := list_cons hl28
    obtain ⟨v30, vs30, rfl, hl30⟩ := list_cons hl29
    obtain ⟨v31, vs31, rfl, hl31⟩ := list_cons hl30
    obtain ⟨v32, vs32, rfl, hl32⟩ := list_cons hl31
    obtain ⟨v33, vs33, rfl, hl33⟩ := list_cons hl32
    obtain ⟨v34, vs34, rfl, hl34⟩ := list_cons hl33
    obtain ⟨v35, vs35, rfl, hl35⟩ := list_cons hl34
    obtain ⟨v36, vs36, rfl, hl36⟩ := list_cons hl35
    obtain ⟨v37, vs37, rfl, hl37⟩ := list_cons hl36
    obtain ⟨v38, vs38, rfl, hl38⟩ := list_cons hl37
    obtain ⟨v39, vs39, rfl, hl39⟩ := list_cons hl38
    obtain ⟨v40, vs40, rfl, hl40⟩ := list_cons hl39
    obtain ⟨v41, vs41, rfl, hl41⟩ := list_cons hl40
    obtain rfl := list_nil hl41
    clear hl hl0 hl1 hl2 hl3 hl4 hl5 hl6 hl7 hl8 hl9 hl10 hl11 hl12 hl13 hl14 hl15 hl16 hl17 hl18 hl19 hl20 hl21 hl22 hl23 hl24 hl25 hl26 hl27 hl28 hl29 hl30 hl31 hl32 hl33 hl34 hl35 hl36 hl37 hl38 hl39 hl40 hl41
    obtain rfl : v41 = .bool true := hV 41 _ rfl
    have ha0 := HA0.out
    subst ha0
    clear HA0 hV hsz0 oe2 oe3 oe4 oe5 oe10 oe11
    simp only [putAll, Act.put, List.setIfInBounds_toArray, List.set_cons_zero, List.set_cons_succ]
    have KM7 := Lib.hid (KM6.out.trans hm (fun _ _ h => h))
    clear hm hG
    go_wp2
    go_ret
    exact ⟨rfl, KM7.out⟩
  · have EG := Lib.hid (show decide ((0 : Int) < (bs.length : Int)) = true by have := List.length_pos_iff.2 he; exact decide_eq_true (by omega))
    clear he
    go_upto_region 7 with (fail)
    generalize ha0 : Act.mk _ _ = a0
    have oe2 : a0.eval (.tmp 2) = v' := by rw [← ha0]; rfl
    have oe3 : a0.eval (.tmp 3) = .int .i64 at' := by rw [← ha0]; rfl
    have oe4 : a0.eval (.tmp 4) = .pointer (some ⟨w.heap.size, 0, none⟩) := by rw [← ha0]; rfl
    have oe5 : a0.eval (.tmp 5) = .pointer (some ⟨w.heap.size + 1, 0, none⟩) := by rw [← ha0]; rfl
    have oe10 : a0.eval (.tmp 10) = .pointer (some ⟨q0, 0, none⟩) := by rw [← ha0]; rfl
    have oe11 : a0.eval (.tmp 11) = .pointer (some ⟨q1, 0, none⟩) := by rw [← ha0]; rfl
    have hsz0 : a0.tmps.size = 75 := by rw [← ha0]; rfl
    have HA0 := Lib.hid ha0
    clear ha0
    refine wp_region_G 75 hsz0 (by kernel_rfl) (by kernel_rfl) [34, 35, 36, 37, 38, 39, 40, 41, 42, 43, 44, 45, 46, 47, 48, 49, 50, 51, 52, 53, 54, 55, 56, 57, 58, 59, 60, 61, 62, 63, 64, 65, 66, 67, 68, 69, 70, 71, 72, 73, 74, 8] (by kernel_rfl) (by decide) (fun _ => False) (fun _ _ => False) (fun _ _ h => h) Still (fun _ _ _ h => h) (fun _ _ _ hm h => hm.trans h (fun _ _ h => h.elim)) [gi (.pointer (some ⟨q0, 2, none⟩)), gi (hv (mkCm [] a b h bs).h), gi (.agg #[.int .i64 a, .int .i64 b]), gi (.int .i64 at'), gi (v'), gi (hv h), gi (.agg (opC at' v' h).toArray), gi (.bool true), gi (.bool true), gi (.pointer (some ⟨q1, 2, none⟩)), gi (hv (mkCm (mkBook [] a b h bs) a b h []).h), gi (.agg #[.int .i64 a, .int .i64 b]), gi (hv h), gi (.agg (opC 0 (.slice none 0 0) h).toArray), gi (.bool true), gi (.bool true), gi (.bool true), gi (.pointer (some ⟨q1, 34, none⟩)), gi (.int .i64 (mkCm (mkBook [] a b h bs) a b h []).ln), gi (.bool true), gi (.bool true), gi (.bool true), gi (.pointer (some ⟨q0, 34, none⟩)), gi (.int .i64 (mkCm [] a b h bs).ln), gi (v'), gi (.int .i64 bs.length), gi (.bool true), gi (.bool true), gi (.bool true), gi (v'), gi (.int .i64 bs.length), gi (.bool true), gi (.bool true), gi (undef), gi (undef), gi (undef), gi (.bool true), gi (.bool true), gi (.bool true), gi (.bool true), gi (.bool true), gi (.bool true)] ⟨gi_stable, gi_stable, gi_stable, gi_stable, gi_stable, gi_stable, gi_stable, gi_stable, gi_stable, gi_stable, gi_stable, gi_stable, gi_stable, gi_stable, gi_stable, gi_stable, gi_stable, gi_stable, gi_stable, gi_stable, gi_stable, gi_stable, gi_stable, gi_stable, gi_stable, gi_stable, gi_stable, gi_stable, gi_stable, gi_stable, gi_stable, gi_stable, gi_stable, gi_stable, gi_stable, gi_stable, gi_stable, gi_stable, gi_stable, gi_stable, gi_stable, gi_stable, trivial⟩ [] (by kernel_rfl) (by decide) (by kernel_rfl) (fun _ _ => True) (fun _ _ _ _ _ => trivial) trivial ⟨?_, ?_, ?_, ?_, ?_, ?_, ?_, ?_, ?_, ?_, ?_, ?_, ?_, ?_, ?_, ?_, ?_, ?_, ?_, ?_, ?_, ?_, ?_, ?_, ?_, ?_, ?_, ?_, ?_, ?_, ?_, ?_, ?_, ?_, ?_, ?_, ?_, ?_, ?_, ?_, ?_, ?_, trivial⟩ ?_
    · intro tr act w' hm hout hsz hd hG hk hub
      refine jg_run (by rfl) rfl (wanted_none rfl) (ex_field rfl Try.underlying32 rfl (by kernel_rfl) ((hout 10 (by decide)).trans oe10)) (Mod.refl _ _) ?_
      rfl
    · intro tr act w' hm hout hsz hd hG hk hub
      have h0 := hd ⟨0, .data⟩ (by simp) rfl _ rfl
      exact jg_run (by rfl) rfl (wanted_none rfl) (ex_loadA rfl Try.underlying28 rfl (off := 2) (cs := (mkCm [] a b h bs).h.map bv) (by rw [List.length_map, show (mkCm [] a b h bs).h.length = 32 from shaF_len _]; exact size_hash) h0 (Cs.hash (KX.out.mod hm (fun h => h)))) (Mod.refl _ _) rfl
    · intro tr act w' hm hout hsz hd hG hk hub
      exact jg_run (by rfl) rfl (wanted_none rfl) (ex_loadA rfl Try.underlying26 rfl (off := 0) (cs := [.int .i64 a, .int .i64 b]) (by kernel_rfl) ((hout 4 (by decide)).trans oe4) (Cs.whole (KN6.out.mod hm (fun h => h)))) (Mod.refl _ _) rfl
    · intro tr act w' hm hout hsz hd hG hk hub
      exact jg_run (by rfl) rfl (wanted_none rfl) (ex_move rfl ((hout 3 (by decide)).trans oe3)) (Mod.refl _ _) rfl
    · intro tr act w' hm hout hsz hd hG hk hub
      exact jg_run (by rfl) rfl (wanted_none rfl) (ex_move rfl ((hout 2 (by decide)).trans oe2)) (Mod.refl _ _) rfl
    · intro tr act w' hm hout hsz hd hG hk hub
      exact jg_run (by rfl) rfl (wanted_none rfl) (ex_loadA rfl Try.underlying28 rfl (off := 0) (cs := h.map bv) (by rw [List.length_map, HH.out.1]; exact size_hash) ((hout 5 (by decide)).trans oe5) (Cs.whole (KH6.out.mod hm (fun h => h)))) (Mod.refl _ _) rfl
    · intro tr act w' hm hout hsz hd hG hk hub
      have h3 := hd ⟨3, .data⟩ (by simp) rfl _ rfl
      have h4 := hd ⟨4, .data⟩ (by simp) rfl _ rfl
      have h5 := hd ⟨5, .data⟩ (by simp) rfl _ rfl
      exact jg_run (by rfl) rfl (wanted_none rfl) (ex_build rfl (z := [.int .i64 0, .slice none 0 0, .int .u8 0, .int .u8 0, .int .u8 0, .int .u8 0, .int .u8 0, .int .u8 0, .int .u8 0, .int .u8 0, .int .u8 0, .int .u8 0, .int .u8 0, .int .u8 0, .int .u8 0, .int .u8 0, .int .u8 0, .int .u8 0, .int .u8 0, .int .u8 0, .int .u8 0, .int .u8 0, .int .u8 0, .int .u8 0, .int .u8 0, .int .u8 0, .int .u8 0, .int .u8 0, .int .u8 0, .int .u8 0, .int .u8 0, .int .u8 0, .int .u8 0, .int .u8 0]) (places := [(0, 1), (1, 1), (2, 32)]) (by kernel_rfl) (parts := [(0, .int .i64 at'), (1, v'), (2, hv h)]) (by simp only [List.map_toArray, List.map_cons, List.map_nil, show act.eval (.tmp 37) = _ from h3, show act.eval (.tmp 38) = _ from h4, show act.eval (.tmp 39) = _ from h5]; try rfl) (r := opC at' v' h) (by exact laid_op HH.out.1 (by rw [HV.out]; rfl))) (Mod.refl _ _) rfl
    · intro tr act w' hm hout hsz hd hG hk hub
      have h1 := hd ⟨1, .data⟩ (by simp) rfl _ rfl
      have h2 := hd ⟨2, .data⟩ (by simp) rfl _ rfl
      have h6 := hd ⟨6, .data⟩ (by simp) rfl _ rfl
      refine jg_call (args := #[hv (mkCm [] a b h bs).h, .agg #[.int .i64 a, .int .i64 b], .agg (opC at' v' h).toArray]) (by rfl) rfl (wanted_none rfl) (by rw [ex_callF rfl Try.func26 (by kernel_rfl) (by kernel_rfl)]; exact congrArg (fun z => Result.ok (Next.enter _ z) _) (by simp only [List.map_toArray, List.map_cons, List.map_nil, show act.eval (.tmp 35) = _ from h1, show act.eval (.tmp 36) = _ from h2, show act.eval (.tmp 40) = _ from h6]; try rfl)) (Matches_any (mkCm [] a b h bs).h a b at' h bs v' _ (shaF_len _) HA.out HB.out HH.out (HR6.out.mod hm (fun _ _ _ h => h)) (by have := HLB.out; omega)) ?_
      rintro e w2 ⟨rfl, hm2⟩
      exact ⟨_, rfl, hm2, congrArg Value.bool (decide_eq_true rfl)⟩
    · intro tr act w' hm hout hsz hd hG hk hub
      have h7 := hd ⟨7, .data⟩ (by simp) rfl _ rfl
      exact jg_run (by rfl) rfl (wanted_none rfl) (ex_move rfl h7) (Mod.refl _ _) rfl
    · intro tr act w' hm hout hsz hd hG hk hub
      have h8 := hd ⟨8, .guard⟩ (by simp) rfl _ rfl
      refine jg_run (by rfl) rfl ((wanted_of rfl rfl (hsz 42 (by decide)) h8).trans rfl) (ex_field rfl Try.underlying32 rfl (by kernel_rfl) ((hout 11 (by decide)).trans oe11)) (Mod.refl _ _) ?_
      rfl
    · intro tr act w' hm hout hsz hd hG hk hub
      have h8 := hd ⟨8, .guard⟩ (by simp) rfl _ rfl
      have h9 := hd ⟨9, .data⟩ (by simp) rfl _ rfl
      exact jg_run (by rfl) rfl ((wanted_of rfl rfl (hsz 42 (by decide)) h8).trans rfl) (ex_loadA rfl Try.underlying28 rfl (off := 2) (cs := (mkCm (mkBook [] a b h bs) a b h []).h.map bv) (by rw [List.length_map, show (mkCm (mkBook [] a b h bs) a b h []).h.length = 32 from shaF_len _]; exact size_hash) h9 (Cs.hash (KY.out.mod hm (fun h => h)))) (Mod.refl _ _) rfl
    · intro tr act w' hm hout hsz hd hG hk hub
      have h8 := hd ⟨8, .guard⟩ (by simp) rfl _ rfl
      exact jg_run (by rfl) rfl ((wanted_of rfl rfl (hsz 42 (by decide)) h8).trans rfl) (ex_loadA rfl Try.underlying26 rfl (off := 0) (cs := [.int .i64 a, .int .i64 b]) (by kernel_rfl) ((hout 4 (by decide)).trans oe4) (Cs.whole (KN6.out.mod hm (fun h => h)))) (Mod.refl _ _) rfl
    · intro tr act w' hm hout hsz hd hG hk hub
      have h8 := hd ⟨8, .guard⟩ (by simp) rfl _ rfl
      exact jg_run (by rfl) rfl ((wanted_of rfl rfl (hsz 42 (by decide)) h8).trans rfl) (ex_loadA rfl Try.underlying28 rfl (off := 0) (cs := h.map bv) (by rw [List.length_map, HH.out.1]; exact size_hash) ((hout 5 (by decide)).trans oe5) (Cs.whole (KH6.out.mod hm (fun h => h)))) (Mod.refl _ _) rfl
    · intro tr act w' hm hout hsz hd hG hk hub
      have h8 := hd ⟨8, .guard⟩ (by simp) rfl _ rfl
      have h12 := hd ⟨12, .data⟩ (by simp) rfl _ rfl
      exact jg_run (by rfl) rfl ((wanted_of rfl rfl (hsz 42 (by decide)) h8).trans rfl) (ex_build rfl (z := [.int .i64 0, .slice none 0 0, .int .u8 0, .int .u8 0, .int .u8 0, .int .u8 0, .int .u8 0, .int .u8 0, .int .u8 0, .int .u8 0, .int .u8 0, .int .u8 0, .int .u8 0, .int .u8 0, .int .u8 0, .int .u8 0, .int .u8 0, .int .u8 0, .int .u8 0, .int .u8 0, .int .u8 0, .int .u8 0, .int .u8 0, .int .u8 0, .int .u8 0, .int .u8 0, .int .u8 0, .int .u8 0, .int .u8 0, .int .u8 0, .int .u8 0, .int .u8 0, .int .u8 0, .int .u8 0]) (places := [(0, 1), (1, 1), (2, 32)]) (by kernel_rfl) (parts := [(2, hv h)]) (by simp only [List.map_toArray, List.map_cons, List.map_nil, show act.eval (.tmp 46) = _ from h12]; try rfl) (r := opC 0 (.slice none 0 0) h) (by exact laid_op0 HH.out.1)) (Mod.refl _ _) rfl
    · intro tr act w' hm hout hsz hd hG hk hub
      have h8 := hd ⟨8, .guard⟩ (by simp) rfl _ rfl
      have h10 := hd ⟨10, .data⟩ (by simp) rfl _ rfl
      have h11 := hd ⟨11, .data⟩ (by simp) rfl _ rfl
      have h13 := hd ⟨13, .data⟩ (by simp) rfl _ rfl
      refine jg_call (args := #[hv (mkCm (mkBook [] a b h bs) a b h []).h, .agg #[.int .i64 a, .int .i64 b], .agg (opC 0 (.slice none 0 0) h).toArray]) (by rfl) rfl ((wanted_of rfl rfl (hsz 42 (by decide)) h8).trans rfl) (by rw [ex_callF rfl Try.func26 (by kernel_rfl) (by kernel_rfl)]; exact congrArg (fun z => Result.ok (Next.enter _ z) _) (by simp only [List.map_toArray, List.map_cons, List.map_nil, show act.eval (.tmp 44) = _ from h10, show act.eval (.tmp 45) = _ from h11, show act.eval (.tmp 47) = _ from h13]; try rfl)) (Matches_any (mkCm (mkBook [] a b h bs) a b h []).h a b 0 h [] (.slice none 0 0) _ (shaF_len _) HA.out HB.out HH.out (RdB.nil _) (by decide)) ?_
      rintro e w2 ⟨rfl, hm2⟩
      exact ⟨_, rfl, hm2, congrArg Value.bool (decide_eq_true rfl)⟩
    · intro tr act w' hm hout hsz hd hG hk hub
      have h8 := hd ⟨8, .data⟩ (by simp) rfl _ rfl
      have h14 := hd ⟨14, .data⟩ (by simp) rfl _ rfl
      exact jg_run (by rfl) rfl (wanted_none rfl) (ex_pick rfl h8 h14 rfl) (Mod.refl _ _) rfl
    · intro tr act w' hm hout hsz hd hG hk hub
      have h15 := hd ⟨15, .data⟩ (by simp) rfl _ rfl
      exact jg_run (by rfl) rfl (wanted_none rfl) (ex_move rfl h15) (Mod.refl _ _) rfl
    · intro tr act w' hm hout hsz hd hG hk hub
      have h16 := hd ⟨16, .guard⟩ (by simp) rfl _ rfl
      refine jg_run (by rfl) rfl ((wanted_of rfl rfl (hsz 50 (by decide)) h16).trans rfl) (ex_field rfl Try.underlying32 rfl (by kernel_rfl) ((hout 11 (by decide)).trans oe11)) (Mod.refl _ _) ?_
      rfl
    · intro tr act w' hm hout hsz hd hG hk hub
      have h16 := hd ⟨16, .guard⟩ (by simp) rfl _ rfl
      have h17 := hd ⟨17, .data⟩ (by simp) rfl _ rfl
      exact jg_run (by rfl) rfl ((wanted_of rfl rfl (hsz 50 (by decide)) h16).trans rfl) (ex_load1 rfl Try.underlying3 rfl h17 ((KY.out.mod hm (fun h => h)).c34 (shaF_len _))) (Mod.refl _ _) rfl
    · intro tr act w' hm hout hsz hd hG hk hub
      have h16 := hd ⟨16, .guard⟩ (by simp) rfl _ rfl
      have h18 := hd ⟨18, .data⟩ (by simp) rfl _ rfl
      refine jg_run (by rfl) rfl ((wanted_of rfl rfl (hsz 50 (by decide)) h16).trans rfl) (ex_bin rfl h18 rfl (guard_ints _ _ _ _ _ _) (run_eql_i _ _ _ Try.underlying3)) (Mod.refl _ _) ?_
      exact congrArg Value.bool (show (((([] : List Int).length : Nat) : Int) == 0) = true from rfl)
    · intro tr act w' hm hout hsz hd hG hk hub
      have h16 := hd ⟨16, .data⟩ (by simp) rfl _ rfl
      have h19 := hd ⟨19, .data⟩ (by simp) rfl _ rfl
      exact jg_run (by rfl) rfl (wanted_none rfl) (ex_pick rfl h16 h19 rfl) (Mod.refl _ _) rfl
    · intro tr act w' hm hout hsz hd hG hk hub
      have h20 := hd ⟨20, .data⟩ (by simp) rfl _ rfl
      exact jg_run (by rfl) rfl (wanted_none rfl) (ex_move rfl h20) (Mod.refl _ _) rfl
    · intro tr act w' hm hout hsz hd hG hk hub
      have h21 := hd ⟨21, .guard⟩ (by simp) rfl _ rfl
      refine jg_run (by rfl) rfl ((wanted_of rfl rfl (hsz 55 (by decide)) h21).trans rfl) (ex_field rfl Try.underlying32 rfl (by kernel_rfl) ((hout 10 (by decide)).trans oe10)) (Mod.refl _ _) ?_
      rfl
    · intro tr act w' hm hout hsz hd hG hk hub
      have h21 := hd ⟨21, .guard⟩ (by simp) rfl _ rfl
      have h22 := hd ⟨22, .data⟩ (by simp) rfl _ rfl
      exact jg_run (by rfl) rfl ((wanted_of rfl rfl (hsz 55 (by decide)) h21).trans rfl) (ex_load1 rfl Try.underlying3 rfl h22 ((KX.out.mod hm (fun h => h)).c34 (shaF_len _))) (Mod.refl _ _) rfl
    · intro tr act w' hm hout hsz hd hG hk hub
      have h21 := hd ⟨21, .guard⟩ (by simp) rfl _ rfl
      exact jg_run (by rfl) rfl ((wanted_of rfl rfl (hsz 55 (by decide)) h21).trans rfl) (ex_move rfl ((hout 2 (by decide)).trans oe2)) (Mod.refl _ _) rfl
    · intro tr act w' hm hout hsz hd hG hk hub
      have h21 := hd ⟨21, .guard⟩ (by simp) rfl _ rfl
      have h24 := hd ⟨24, .data⟩ (by simp) rfl _ rfl
      exact jg_run (by rfl) rfl ((wanted_of rfl rfl (hsz 55 (by decide)) h21).trans rfl) (ex_lenS rfl (h24.trans HV.out) Try.underlying36) (Mod.refl _ _) rfl
    · intro tr act w' hm hout hsz hd hG hk hub
      have h21 := hd ⟨21, .guard⟩ (by simp) rfl _ rfl
      have h23 := hd ⟨23, .data⟩ (by simp) rfl _ rfl
      have h25 := hd ⟨25, .data⟩ (by simp) rfl _ rfl
      refine jg_run (by rfl) rfl ((wanted_of rfl rfl (hsz 55 (by decide)) h21).trans rfl) (ex_bin rfl h23 h25 (guard_ints _ _ _ _ _ _) (run_eql_i _ _ _ Try.underlying3)) (Mod.refl _ _) ?_
      exact congrArg Value.bool (beq_self_eq_true _)
    · intro tr act w' hm hout hsz hd hG hk hub
      have h21 := hd ⟨21, .data⟩ (by simp) rfl _ rfl
      have h26 := hd ⟨26, .data⟩ (by simp) rfl _ rfl
      exact jg_run (by rfl) rfl (wanted_none rfl) (ex_pick rfl h21 h26 rfl) (Mod.refl _ _) rfl
    · intro tr act w' hm hout hsz hd hG hk hub
      have h27 := hd ⟨27, .data⟩ (by simp) rfl _ rfl
      exact jg_run (by rfl) rfl (wanted_none rfl) (ex_move rfl h27) (Mod.refl _ _) rfl
    · intro tr act w' hm hout hsz hd hG hk hub
      have h28 := hd ⟨28, .guard⟩ (by simp) rfl _ rfl
      exact jg_run (by rfl) rfl ((wanted_of rfl rfl (hsz 62 (by decide)) h28).trans rfl) (ex_move rfl ((hout 2 (by decide)).trans oe2)) (Mod.refl _ _) rfl
    · intro tr act w' hm hout hsz hd hG hk hub
      have h28 := hd ⟨28, .guard⟩ (by simp) rfl _ rfl
      have h29 := hd ⟨29, .data⟩ (by simp) rfl _ rfl
      exact jg_run (by rfl) rfl ((wanted_of rfl rfl (hsz 62 (by decide)) h28).trans rfl) (ex_lenS rfl (h29.trans HV.out) Try.underlying36) (Mod.refl _ _) rfl
    · intro tr act w' hm hout hsz hd hG hk hub
      have h28 := hd ⟨28, .guard⟩ (by simp) rfl _ rfl
      have h30 := hd ⟨30, .data⟩ (by simp) rfl _ rfl
      refine jg_run (by rfl) rfl ((wanted_of rfl rfl (hsz 62 (by decide)) h28).trans rfl) (ex_bin rfl h30 rfl (guard_ints _ _ _ _ _ _) (run_gtr_i _ _ _ Try.underlying3)) (Mod.refl _ _) ?_
      exact congrArg Value.bool EG.out
    · intro tr act w' hm hout hsz hd hG hk hub
      have h28 := hd ⟨28, .guard⟩ (by simp) rfl _ rfl
      have h31 := hd ⟨31, .data⟩ (by simp) rfl _ rfl
      exact jg_run (by rfl) rfl ((wanted_of rfl rfl (hsz 62 (by decide)) h28).trans rfl) (ex_move rfl h31) (Mod.refl _ _) rfl
    · intro tr act w' hm hout hsz hd hG hk hub
      have h32 := hd ⟨32, .guard⟩ (by simp) rfl _ rfl
      exact jg_skip (fun _ _ _ h => h) (by rfl) rfl ((wanted_of rfl rfl (hsz 66 (by decide)) h32).trans rfl) rfl
    · intro tr act w' hm hout hsz hd hG hk hub
      have h32 := hd ⟨32, .guard⟩ (by simp) rfl _ rfl
      exact jg_skip (fun _ _ _ h => h) (by rfl) rfl ((wanted_of rfl rfl (hsz 66 (by decide)) h32).trans rfl) rfl
    · intro tr act w' hm hout hsz hd hG hk hub
      have h32 := hd ⟨32, .guard⟩ (by simp) rfl _ rfl
      exact jg_skip (fun _ _ _ h => h) (by rfl) rfl ((wanted_of rfl rfl (hsz 66 (by decide)) h32).trans rfl) rfl
    · intro tr act w' hm hout hsz hd hG hk hub
      have h28 := hd ⟨28, .guard⟩ (by simp) rfl _ rfl
      have h32 := hd ⟨32, .data⟩ (by simp) rfl _ rfl
      have h35 := hd ⟨35, .data⟩ (by simp) rfl _ rfl
      exact jg_run (by rfl) rfl ((wanted_of rfl rfl (hsz 62 (by decide)) h28).trans rfl) (ex_pick rfl h32 rfl h35) (Mod.refl _ _) rfl
    · intro tr act w' hm hout hsz hd hG hk hub
      have h28 := hd ⟨28, .data⟩ (by simp) rfl _ rfl
      have h36 := hd ⟨36, .data⟩ (by simp) rfl _ rfl
      exact jg_run (by rfl) rfl (wanted_none rfl) (ex_pick rfl h28 h36 rfl) (Mod.refl _ _) rfl
    · intro tr act w' hm hout hsz hd hG hk hub
      have h37 := hd ⟨37, .data⟩ (by simp) rfl _ rfl
      exact jg_run (by rfl) rfl (wanted_none rfl) (ex_move rfl h37) (Mod.refl _ _) rfl
    · intro tr act w' hm hout hsz hd hG hk hub
      have h38 := hd ⟨38, .guard⟩ (by simp) rfl _ rfl
      refine jg_call (args := #[]) (by rfl) rfl ((wanted_of rfl rfl (hsz 72 (by decide)) h38).trans rfl) (by rw [ex_callF rfl Try.func16 (by kernel_rfl) (by kernel_rfl)]; simp) (wakes04 _) ?_
      rintro e w2 ⟨rfl, hm2⟩
      exact ⟨_, rfl, hm2, rfl⟩
    · intro tr act w' hm hout hsz hd hG hk hub
      have h38 := hd ⟨38, .data⟩ (by simp) rfl _ rfl
      have h39 := hd ⟨39, .data⟩ (by simp) rfl _ rfl
      exact jg_run (by rfl) rfl (wanted_none rfl) (ex_pick rfl h38 h39 rfl) (Mod.refl _ _) rfl
    · intro tr act w' hm hout hsz hd hG hk hub
      have h40 := hd ⟨40, .data⟩ (by simp) rfl _ rfl
      exact jg_run (by rfl) rfl (wanted_none rfl) (ex_assign rfl h40) (Mod.refl _ _) rfl
    intro vs tr w7 hl htl hm hG hV
    obtain ⟨v0, vs0, rfl, hl0⟩ := list_cons hl
    obtain ⟨v1, vs1, rfl, hl1⟩ := list_cons hl0
    obtain ⟨v2, vs2, rfl, hl2⟩ := list_cons hl1
    obtain ⟨v3, vs3, rfl, hl3⟩ := list_cons hl2
    obtain ⟨v4, vs4, rfl, hl4⟩ := list_cons hl3
    obtain ⟨v5, vs5, rfl, hl5⟩ := list_cons hl4
    obtain ⟨v6, vs6, rfl, hl6⟩ := list_cons hl5
    obtain ⟨v7, vs7, rfl, hl7⟩ := list_cons hl6
    obtain ⟨v8, vs8, rfl, hl8⟩ := list_cons hl7
    obtain ⟨v9, vs9, rfl, hl9⟩ := list_cons hl8
    obtain ⟨v10, vs10, rfl, hl10⟩ := list_cons hl9
    obtain ⟨v11, vs11, rfl, hl11⟩ := list_cons hl10
    obtain ⟨v12, vs12, rfl, hl12⟩ := list_cons hl11
    obtain ⟨v13, vs13, rfl, hl13⟩ := list_cons hl12
    obtain ⟨v14, vs14, rfl, hl14⟩ := list_cons hl13
    obtain ⟨v15, vs15, rfl, hl15⟩ := list_cons hl14
    obtain ⟨v16, vs16, rfl, hl16⟩ := list_cons hl15
    obtain ⟨v17, vs17, rfl, hl17⟩ := list_cons hl16
    obtain ⟨v18, vs18, rfl, hl18⟩ := list_cons hl17
    obtain ⟨v19, vs19, rfl, hl19⟩ := list_cons hl18
    obtain ⟨v20, vs20, rfl, hl20⟩ := list_cons hl19
    obtain ⟨v21, vs21, rfl, hl21⟩ := list_cons hl20
    obtain ⟨v22, vs22, rfl, hl22⟩ := list_cons hl21
    obtain ⟨v23, vs23, rfl, hl23⟩ := list_cons hl22
    obtain ⟨v24, vs24, rfl, hl24⟩ := list_cons hl23
    obtain ⟨v25, vs25, rfl, hl25⟩ := list_cons hl24
    obtain ⟨v26, vs26, rfl, hl26⟩ := list_cons hl25
    obtain ⟨v27, vs27, rfl, hl27⟩ := list_cons hl26
    obtain ⟨v28, vs28, rfl, hl28⟩ := list_cons hl27
    obtain ⟨v29, vs29, rfl, hl29⟩ := list_cons hl28
    obtain ⟨v30, vs30, rfl, hl30⟩ := list_cons hl29
    obtain ⟨v31, vs31, rfl, hl31⟩ := list_cons hl30
    obtain ⟨v32, vs32, rfl, hl32⟩ := list_cons hl31
    obtain ⟨v33, vs33, rfl, hl33⟩ := list_cons hl32
    obtain ⟨v34, vs34, rfl, hl34⟩ := list_cons hl33
    obtain ⟨v35, vs35, rfl, hl35⟩ := list_cons hl34
    obtain ⟨v36, vs36, rfl, hl36⟩ := list_cons hl35
    obtain ⟨v37, vs37, rfl, hl37⟩ := list_cons hl36
    obtain ⟨v38, vs38, rfl, hl38⟩ := list_cons hl37
    obtain ⟨v39, vs39, rfl, hl39⟩ := list_cons hl38
    obtain ⟨v40, vs40, rfl, hl40⟩ := list_cons hl39
    obtain ⟨v41, vs41, rfl, hl41⟩ := list_cons hl40
    obtain rfl := list_nil hl41
    clear hl hl0 hl1 hl2 hl3 hl4 hl5 hl6 hl7 hl8 hl9 hl10 hl11 hl12 hl13 hl14 hl15 hl16 hl17 hl18 hl19 hl20 hl21 hl22 hl23 hl24 hl25 hl26 hl27 hl28 hl29 hl30 hl31 hl32 hl33 hl34 hl35 hl36 hl37 hl38 hl39 hl40 hl41
    obtain rfl : v41 = .bool true := hV 41 _ rfl
    have ha0 := HA0.out
    subst ha0
    clear HA0 hV hsz0 oe2 oe3 oe4 oe5 oe10 oe11
    simp only [putAll, Act.put, List.setIfInBounds_toArray, List.set_cons_zero, List.set_cons_succ]
    have KM7 := Lib.hid (KM6.out.trans hm (fun _ _ h => h))
    clear hm hG
    go_wp2
    go_ret
    exact ⟨rfl, KM7.out⟩
end Go.Proofs.Ytgnmdnmmemdemaa
