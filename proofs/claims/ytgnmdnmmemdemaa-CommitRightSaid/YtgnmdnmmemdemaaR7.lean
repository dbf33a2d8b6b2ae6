/- Texts that are built one behind the other: XRefC. No condition. -/
import Derived.Test.YtgnmdnmmemdemaaR6
/- The reference's commitments. -/
set_option maxRecDepth 100000
set_option linter.unusedVariables false
namespace Go.Proofs.Ytgnmdnmmemdemaa
open Go Go.RowKit Go.Gv

theorem RdB_arr1 {w : World} {g : Nat} {h : List Int} {T : TypeId} (hc : Cs w g (h.map bv).toArray T) (hl : h.length = 32) (hb : Bytes h) : RdB w (.slice (some ⟨g, 0, none⟩) 32 32) h := by
  refine ⟨hb, ?_⟩
  rw [hl]
  exact Rd.mk (Nat.le_refl _) (by rw [maxLen_val]; omega) (by simp [hl]) fun j y hy => by rw [Nat.zero_add, Cs.cell hc]; simpa using hy
theorem RsM_still {B K : Nat} {g : Nat} {z c : List Value} : ∀ t w w', ByLen (RsW g 28 z c) t w → StillM B 5 K t.length w w' → ByLen (RsW g 28 z c) t w' := by
  intro t w w' h hr
  unfold ByLen at h ⊢
  revert h
  generalize t.length = k at *
  intro h
  match k, h with
  | 0, h => exact StillM.obj hr h (by decide)
  | k + 1, h => exact StillM.obj hr h (by decide)
set_option maxHeartbeats 2000000 in
theorem RefOf_any (a b : Int) (h bs : List Int) (v : Value) (w : World) (ha : I64 a) (hb : I64 b) (hh : HK h) (hr : RdB w v bs) (hl : bs.length ≤ 800000) :
    Calls Try.prog 25 #[.agg #[.int .i64 a, .int .i64 b], hv h, v] w fun e w' => e = .returned (hv (shaF (ofT a b h bs))) ∧ Mod (fun _ => False) w w' := by
  have hbl := hr.block_lt
  have HR := Lib.hid hr
  have HBL := Lib.hid hbl
  have HA := Lib.hid ha
  have HBb := Lib.hid hb
  have HH := Lib.hid hh
  have HLB := Lib.hid hl
  have EQT := Lib.hid (show [encN commitLit.length ++ commitLit, encI a, encI b, h, encN bs.length ++ bs].flatten = ofT a b h bs by simp [ofT, ofC])
  have HFL := Lib.hid (show ([encN commitLit.length ++ commitLit, encI a, encI b, h, encN bs.length ++ bs].flatten).length ≤ 900000 by
    have h1 := encI_len a ha.2
    have h2 := encI_len b hb.2
    have h3 := (encN_len10 (n := bs.length) (by unfold U64; omega)).2
    have h4 := (encN_len10 (n := commitLit.length) (by decide)).2
    have h5 : commitLit.length = 6 := rfl
    have h6 := hh.1
    simp only [List.flatten_cons, List.flatten_nil, List.length_append, List.length_nil]
    omega)
  clear hbl hr ha hb hh hl
  change Calls _ _ #[.agg #[.int .i64 a, .int .i64 b], .agg (h.map bv).toArray, v] _ _
  go_enter Try.func25, Try.ntmps25
  go_upto_region 1 with (fail)
  obtain ⟨w1, hw1⟩ : ∃ x, x = ((w.alloc (.cells #[.int .i64 a, .int .i64 b] 26)).alloc (.cells (h.map bv).toArray 28)).alloc (.cells ((List.replicate 32 0).map bv).toArray 28) := ⟨_, rfl⟩
  change Code.wp _ _ _ _ (((w.alloc (.cells #[.int .i64 a, .int .i64 b] 26)).alloc (.cells (h.map bv).toArray 28)).alloc (.cells ((List.replicate 32 0).map bv).toArray 28))
  rw [← hw1]
  have KN := Lib.hid (show Cs w1 w.heap.size #[.int .i64 a, .int .i64 b] 26 by rw [hw1]; exact ((Cs.new _ _ _).alloc _).alloc _)
  have KH := Lib.hid (show Cs w1 (w.heap.size + 1) (h.map bv).toArray 28 by rw [hw1]; exact (Cs_new1 _ _ _ _).alloc _)
  have KR := Lib.hid (show Cs w1 (w.heap.size + 1 + 1) ((List.replicate 32 0).map bv).toArray 28 by
    rw [hw1]
    have := Cs_new1 (w.alloc (.cells #[.int .i64 a, .int .i64 b] 26)) (.cells (h.map bv).toArray 28) ((List.replicate 32 0).map bv).toArray 28
    rwa [show (w.alloc (.cells #[.int .i64 a, .int .i64 b] 26)).heap.size = w.heap.size + 1 by simp] at this)
  have KM := Lib.hid (show Mod (fun _ => False) w w1 by rw [hw1]; exact (((Mod.refl _ _).alloc _).alloc _).alloc _)
  have hs1 : w1.heap.size = w.heap.size + 3 := by rw [hw1]; simp
  clear hw1
  obtain ⟨B, hBB⟩ : ∃ B, B = w1.heap.size := ⟨_, rfl⟩
  have HBE := Lib.hid hBB
  have hB3 : B = w.heap.size + 3 := by omega
  clear hBB
  generalize ha0 : Act.mk _ _ = a0
  have oe2 : a0.eval (.tmp 2) = v := by rw [← ha0]; rfl
  have oe3 : a0.eval (.tmp 3) = .pointer (some ⟨w.heap.size, 0, none⟩) := by rw [← ha0]; rfl
  have oe4 : a0.eval (.tmp 4) = .pointer (some ⟨w.heap.size + 1, 0, none⟩) := by rw [← ha0]; rfl
  have oe6 : a0.eval (.tmp 6) = .pointer (some ⟨w.heap.size + 1 + 1, 0, none⟩) := by rw [← ha0]; rfl
  have hsz0 : a0.tmps.size = 22 := by rw [← ha0]; rfl
  have HA0 := Lib.hid ha0
  clear ha0
  refine wp_region_G 22 hsz0 (by kernel_rfl) (by kernel_rfl) [7, 8, 9, 10, 11, 12, 13, 14, 15, 16, 17, 18, 19, 20, 21, 37] (by kernel_rfl) (by decide) (fun j => B ≤ j ∨ j = w.heap.size + 1 + 1) (fun _ j => j = w.heap.size + 1 + 1) (fun _ _ h => Or.inr h) (StillM B 5 0) stillM_still (stillM_T2 (fun _ h => Or.inl h)) [litG B 5 0 (commitLit.map bv).toArray, litG B 5 0 (commitLit.map bv).toArray, rdP (encN commitLit.length ++ commitLit), gi (.pointer (some ⟨w.heap.size, 0, none⟩)), gi (.int .i64 a), rdP (encI a), gi (.pointer (some ⟨w.heap.size, 1, none⟩)), gi (.int .i64 b), rdP (encI b), gi (.slice (some ⟨w.heap.size + 1, 0, none⟩) 32 32), gi (v), rdP (encN bs.length ++ bs), rowsP [encN commitLit.length ++ commitLit, encI a, encI b, h, encN bs.length ++ bs], rdP ([encN commitLit.length ++ commitLit, encI a, encI b, h, encN bs.length ++ bs].flatten), gi (hv (shaF ([encN commitLit.length ++ commitLit, encI a, encI b, h, encN bs.length ++ bs].flatten))), ga] ⟨litG_stable (fun k hk j h => by omega), litG_stable (fun k hk j h => by omega), rdP_stable, gi_stable, gi_stable, rdP_stable, gi_stable, gi_stable, rdP_stable, gi_stable, gi_stable, rdP_stable, rowsP_stable, rdP_stable, gi_stable, ga_stable, trivial⟩ [15] (by kernel_rfl) (by decide) (by kernel_rfl) (ByLen (RsW (w.heap.size + 1 + 1) 28 ((List.replicate 32 0).map bv) ((shaF (ofT a b h bs)).map bv))) RsM_still KR.out ⟨?_, ?_, ?_, ?_, ?_, ?_, ?_, ?_, ?_, ?_, ?_, ?_, ?_, ?_, ?_, ?_, trivial⟩ ?_
  · intro tr act w' hm hout hsz hd hG hk hub
    refine jg_run (by rfl) rfl (wanted_none rfl) (ex_lit rfl Try.underlying36 (by kernel_rfl) (by decide) (C := (commitLit.map bv).toArray) (by simp only [List.map_toArray, List.map_cons, List.map_nil, Act.eval]; kernel_rfl)) (Or.inl ((Mod.refl _ _).alloc _)) ?_
    exact fun _ => ⟨_, rfl, Nat.le_trans (Nat.le_of_eq HBE.out) hm.size, _, Or.inl rfl, heap_alloc_new _ _⟩
  · intro tr act w' hm hout hsz hd hG hk hub
    have h0 := hd ⟨0, .data⟩ (by simp) rfl _ rfl
    have h00 : tr.length = 0 := Nat.le_zero.1 (hub 0 15 rfl (by kernel_rfl))
    have hle := Nat.le_of_eq h00
    obtain ⟨g, e1, hB, m, h0', hb⟩ := h0 hle
    exact jg_mark (by rfl) rfl (wanted_none rfl) rfl Try.underlying36 Try.underlying5 h0' hB hb e1 (fun _ hmk => Or.inr ⟨hle, hmk⟩) (fun _ hb2 _ => ⟨g, rfl, hB, _, Or.inr rfl, hb2⟩)
  · intro tr act w' hm hout hsz hd hG hk hub
    have h1 := hd ⟨1, .data⟩ (by simp) rfl _ rfl
    have h00 : tr.length = 0 := Nat.le_zero.1 (hub 0 15 rfl (by kernel_rfl))
    refine jg_call (args := #[act.eval (.tmp 8)]) (by rfl) rfl (wanted_none rfl) (by rw [ex_callF rfl Try.func66 (by kernel_rfl) (by kernel_rfl)]; exact congrArg (fun z => Result.ok (Next.enter _ z) _) (by simp only [List.map_toArray, List.map_cons, List.map_nil]; try rfl)) (RefRow_R (R := fun _ => True) (N := 50) ⟨litG.rd h1 (Nat.le_of_eq h00) (by unfold Bytes; decide) (by decide), (fun _ _ _ => trivial), by decide⟩ (by decide)) ?_
    rintro e w2 ⟨v', rfl, ho, hm2⟩
    exact ⟨v', rfl, Or.inl hm2, fun _ => ho.1.rd⟩
  · intro tr act w' hm hout hsz hd hG hk hub
    refine jg_run (by rfl) rfl (wanted_none rfl) (ex_field rfl Try.underlying26 rfl (by kernel_rfl) ((hout 3 (by decide)).trans oe3)) (Or.inl (Mod.refl _ _)) ?_
    rfl
  · intro tr act w' hm hout hsz hd hG hk hub
    have h3 := hd ⟨3, .data⟩ (by simp) rfl _ rfl
    exact jg_run (by rfl) rfl (wanted_none rfl) (ex_load1 rfl Try.underlying3 rfl h3 (by rw [(KN.out.mod hm (by omega)).cell]; rfl)) (Or.inl (Mod.refl _ _)) rfl
  · intro tr act w' hm hout hsz hd hG hk hub
    have h4 := hd ⟨4, .data⟩ (by simp) rfl _ rfl
    have h00 : tr.length = 0 := Nat.le_zero.1 (hub 0 15 rfl (by kernel_rfl))
    refine jg_call (args := #[.int .i64 a]) (by rfl) rfl (wanted_none rfl) (by rw [ex_callF rfl Try.func67 (by kernel_rfl) (by kernel_rfl)]; exact congrArg (fun z => Result.ok (Next.enter _ z) _) (by simp only [List.map_toArray, List.map_cons, List.map_nil, show act.eval (.tmp 11) = _ from h4]; try rfl)) (RefInt_R a HA.out _) ?_
    rintro e w2 ⟨v', rfl, ho, hm2⟩
    exact ⟨v', rfl, Or.inl hm2, fun _ => ho.1.rd⟩
  · intro tr act w' hm hout hsz hd hG hk hub
    refine jg_run (by rfl) rfl (wanted_none rfl) (ex_field rfl Try.underlying26 rfl (by kernel_rfl) ((hout 3 (by decide)).trans oe3)) (Or.inl (Mod.refl _ _)) ?_
    rfl
  · intro tr act w' hm hout hsz hd hG hk hub
    have h6 := hd ⟨6, .data⟩ (by simp) rfl _ rfl
    exact jg_run (by rfl) rfl (wanted_none rfl) (ex_load1 rfl Try.underlying3 rfl h6 (by rw [(KN.out.mod hm (by omega)).cell]; rfl)) (Or.inl (Mod.refl _ _)) rfl
  · intro tr act w' hm hout hsz hd hG hk hub
    have h7 := hd ⟨7, .data⟩ (by simp) rfl _ rfl
    have h00 : tr.length = 0 := Nat.le_zero.1 (hub 0 15 rfl (by kernel_rfl))
    refine jg_call (args := #[.int .i64 b]) (by rfl) rfl (wanted_none rfl) (by rw [ex_callF rfl Try.func67 (by kernel_rfl) (by kernel_rfl)]; exact congrArg (fun z => Result.ok (Next.enter _ z) _) (by simp only [List.map_toArray, List.map_cons, List.map_nil, show act.eval (.tmp 14) = _ from h7]; try rfl)) (RefInt_R b HBb.out _) ?_
    rintro e w2 ⟨v', rfl, ho, hm2⟩
    exact ⟨v', rfl, Or.inl hm2, fun _ => ho.1.rd⟩
  · intro tr act w' hm hout hsz hd hG hk hub
    exact jg_run (by rfl) rfl (wanted_none rfl) (ex_sliceArr rfl Try.underlying28 (by kernel_rfl) ((hout 4 (by decide)).trans oe4) (by decide)) (Or.inl (Mod.refl _ _)) rfl
  · intro tr act w' hm hout hsz hd hG hk hub
    exact jg_run (by rfl) rfl (wanted_none rfl) (ex_move rfl ((hout 2 (by decide)).trans oe2)) (Or.inl (Mod.refl _ _)) rfl
  · intro tr act w' hm hout hsz hd hG hk hub
    have h10 := hd ⟨10, .data⟩ (by simp) rfl _ rfl
    have h00 : tr.length = 0 := Nat.le_zero.1 (hub 0 15 rfl (by kernel_rfl))
    refine jg_call (args := #[v]) (by rfl) rfl (wanted_none rfl) (by rw [ex_callF rfl Try.func66 (by kernel_rfl) (by kernel_rfl)]; exact congrArg (fun z => Result.ok (Next.enter _ z) _) (by simp only [List.map_toArray, List.map_cons, List.map_nil, show act.eval (.tmp 17) = _ from h10]; try rfl)) (RefRow_R (R := fun k => k < w.heap.size) (N := 800000) (RdR.mod ⟨HR.out.mod KM.out (fun _ _ _ h => h), HBL.out, HLB.out⟩ hm (fun k h1 h2 => by omega)) (by decide)) ?_
    rintro e w2 ⟨v', rfl, ho, hm2⟩
    exact ⟨v', rfl, Or.inl hm2, fun _ => ho.1.rd⟩
  · intro tr act w' hm hout hsz hd hG hk hub
    have h2 := hd ⟨2, .data⟩ (by simp) rfl _ rfl
    have h5 := hd ⟨5, .data⟩ (by simp) rfl _ rfl
    have h8 := hd ⟨8, .data⟩ (by simp) rfl _ rfl
    have h9 := hd ⟨9, .data⟩ (by simp) rfl _ rfl
    have h11 := hd ⟨11, .data⟩ (by simp) rfl _ rfl
    have h00 : tr.length = 0 := Nat.le_zero.1 (hub 0 15 rfl (by kernel_rfl))
    obtain ⟨a0, c0, e0, -, -⟩ := (h2 h00).shape
    have r0 := h2 h00
    rw [e0] at r0
    obtain ⟨a1, c1, e1, -, -⟩ := (h5 h00).shape
    have r1 := h5 h00
    rw [e1] at r1
    obtain ⟨a2, c2, e2, -, -⟩ := (h8 h00).shape
    have r2 := h8 h00
    rw [e2] at r2
    have e3 : act.eval (.tmp 16) = .slice (some ⟨w.heap.size + 1, 0, none⟩) 32 32 := h9
    have r3 := RdB_arr1 (KH.out.mod hm (by omega)) HH.out.1 HH.out.2
    obtain ⟨a4, c4, e4, -, -⟩ := (h11 h00).shape
    have r4 := h11 h00
    rw [e4] at r4
    refine jg_run (by rfl) rfl (wanted_none rfl) (ex_buildSl rfl Try.underlying68 (by kernel_rfl) (by decide) (C := #[.slice a0 (encN commitLit.length ++ commitLit).length c0, .slice a1 (encI a).length c1, .slice a2 (encI b).length c2, .slice (some ⟨w.heap.size + 1, 0, none⟩) 32 32, .slice a4 (encN bs.length ++ bs).length c4]) (by simp only [List.map_toArray, List.map_cons, List.map_nil, show act.eval (.tmp 9) = _ from e0, show act.eval (.tmp 12) = _ from e1, show act.eval (.tmp 15) = _ from e2, show act.eval (.tmp 16) = _ from e3, show act.eval (.tmp 18) = _ from e4]; kernel_rfl)) (Or.inl ((Mod.refl _ _).alloc _)) (fun _ => ⟨[(.slice a0 (encN commitLit.length ++ commitLit).length c0, encN commitLit.length ++ commitLit), (.slice a1 (encI a).length c1, encI a), (.slice a2 (encI b).length c2, encI b), (.slice (some ⟨w.heap.size + 1, 0, none⟩) 32 32, h), (.slice a4 (encN bs.length ++ bs).length c4, encN bs.length ++ bs)], rfl, RdJ.new (rs := [(.slice a0 (encN commitLit.length ++ commitLit).length c0, encN commitLit.length ++ commitLit), (.slice a1 (encI a).length c1, encI a), (.slice a2 (encI b).length c2, encI b), (.slice (some ⟨w.heap.size + 1, 0, none⟩) 32 32, h), (.slice a4 (encN bs.length ++ bs).length c4, encN bs.length ++ bs)]) (fun p hp => ?_) (by simp) rfl rfl⟩)
    simp only [List.mem_cons, List.not_mem_nil, or_false] at hp
    rcases hp with rfl | rfl | rfl | rfl | rfl
    · exact r0
    · exact r1
    · exact r2
    · exact r3
    · exact r4
  · intro tr act w' hm hout hsz hd hG hk hub
    have h12 := hd ⟨12, .data⟩ (by simp) rfl _ rfl
    have h00 : tr.length = 0 := Nat.le_zero.1 (hub 0 15 rfl (by kernel_rfl))
    refine jg_call (args := #[act.eval (.tmp 19)]) (by rfl) rfl (wanted_none rfl) (by rw [ex_callF rfl Try.func65 (by kernel_rfl) (by kernel_rfl)]; exact congrArg (fun z => Result.ok (Next.enter _ z) _) (by simp only [List.map_toArray, List.map_cons, List.map_nil]; try rfl)) (Join_P _ [encN commitLit.length ++ commitLit, encI a, encI b, h, encN bs.length ++ bs] _ h12 h00 (by simp) HFL.out) ?_
    rintro e w2 ⟨v', rfl, ho, hm2⟩
    exact ⟨v', rfl, Or.inl hm2, fun _ => ho.1.rd⟩
  · intro tr act w' hm hout hsz hd hG hk hub
    have h13 := hd ⟨13, .data⟩ (by simp) rfl _ rfl
    have h00 : tr.length = 0 := Nat.le_zero.1 (hub 0 15 rfl (by kernel_rfl))
    refine jg_call (args := #[act.eval (.tmp 20)]) (by rfl) rfl (wanted_none rfl) (by rw [ex_callF rfl Try.func64 (by kernel_rfl) (by kernel_rfl)]; exact congrArg (fun z => Result.ok (Next.enter _ z) _) (by simp only [List.map_toArray, List.map_cons, List.map_nil]; try rfl)) (RefSum_any _ _ _ (h13 h00) HFL.out) ?_
    rintro e w2 ⟨rfl, hm2⟩
    exact ⟨_, rfl, Or.inl hm2, rfl⟩
  · intro tr act w' hm hout hsz hd hG hk hub
    have h14 := hd ⟨14, .data⟩ (by simp) rfl _ rfl
    have hl := hk 0 rfl
    have hE : (act.eval (.tmp 21)).cells = ((shaF (ofT a b h bs)).map bv).toArray := by rw [show act.eval (.tmp 21) = _ from h14, ← EQT.out]; rfl
    refine jc_turn (by rfl) rfl (wanted_none rfl) (ex_storeA rfl (hG.at hl) (off := 0) (vs := (shaF (ofT a b h bs)).map bv) (by rw [List.length_map, shaF_len]; exact size_hash) (ints_oneCell .u8 _) (by simp [shaF_len]) ((hout 6 (by decide)).trans oe6) hE) (setRow_Mod.mono (fun _ _ h => h)) trivial (ByLen.on hl ?_)
    rw [lay_whole _ _ (by simp [shaF_len])]
    exact setRow_Cs (hG.at hl)
  intro vs tr w2 hl htl hm hG hV
  obtain ⟨v0, vs0, rfl, hl0⟩ := list_cons hl
  obtain ⟨v1, vs1, rfl, hl1⟩ := list_cons hl0
  obtain ⟨v2, vs2, rfl, hl2⟩ := list_cons hl1
  obtain ⟨v3, vs3, rfl, hl3⟩ := list_cons hl2
  obtain ⟨v4, vs4, rfl, hl4⟩ := list_cons hl3
  obtain ⟨v5, vs5, rfl, hl5⟩ := list_cons hl4
  obtain ⟨v6, vs6, rfl, hl6⟩ := list_cons hl5
  obtain ⟨v7, vs7, rfl, hl7⟩ := list_cons hl6
  obtain ⟨v8, vs8, rfl, hl8⟩ := list_cons hl7
  obtain ⟨v9, vs9, rfl, hl9⟩ := list_cons hl8
  obtain ⟨v10, vs10, rfl, hl10⟩ := list_cons hl9
  obtain ⟨v11, vs11, rfl, hl11⟩ := list_cons hl10
  obtain ⟨v12, vs12, rfl, hl12⟩ := list_cons hl11
  obtain ⟨v13, vs13, rfl, hl13⟩ := list_cons hl12
  obtain ⟨v14, vs14, rfl, hl14⟩ := list_cons hl13
  obtain ⟨v15, vs15, rfl, hl15⟩ := list_cons hl14
  obtain rfl := list_nil hl15
  clear hl hl0 hl1 hl2 hl3 hl4 hl5 hl6 hl7 hl8 hl9 hl10 hl11 hl12 hl13 hl14 hl15
  have ha0 := HA0.out
  subst ha0
  clear HA0 hV hsz0 oe2 oe3 oe4 oe6
  simp only [putAll, Act.put, List.setIfInBounds_toArray, List.set_cons_zero, List.set_cons_succ, List.set_nil]
  have hs : Cs w2 (w.heap.size + 1 + 1) ((shaF (ofT a b h bs)).map bv).toArray 28 := hG.at htl
  have hsz : (Try.prog.info? 28).map (·.size) = some ((shaF (ofT a b h bs)).map bv).length := by rw [List.length_map, shaF_len]; exact size_hash
  have KM2 := Lib.hid (KM.out.trans hm (fun k h1 h2 => by omega))
  clear hG hm htl
  go_wp2
  exact bodyPost_ret (results_cellA rfl _ _ (w.heap.size + 1 + 1) ((shaF (ofT a b h bs)).map bv) rfl (fun k u hu => by rw [Cs.cell hs]; simpa using hu) Try.underlying28 rfl hsz) rfl ⟨rfl, KM2.out⟩
set_option maxHeartbeats 4000000 in
theorem RefValid_any (f k : Int) (c : Cm) (hc : c.OK) (w : World) : Calls Try.prog 28 #[.agg #[.int .i64 f, .int .i64 k], c.val] w fun e w' => e = .returned (.bool (validF k c)) ∧ Mod (fun _ => False) w w' := by
  have HL := Lib.hid hc.2.1
  clear hc
  change Calls _ _ #[.agg #[.int .i64 f, .int .i64 k], .agg c.cells.toArray] _ _
  go_enter Try.func28, Try.ntmps28
  go_upto_region 1 with (fail)
  obtain ⟨w1, hw1⟩ : ∃ x, x = (w.alloc (.cells #[.int .i64 f, .int .i64 k] 24)).alloc (.cells c.cells.toArray 32) := ⟨_, rfl⟩
  change Code.wp _ _ _ _ ((w.alloc (.cells #[.int .i64 f, .int .i64 k] 24)).alloc (.cells c.cells.toArray 32))
  rw [← hw1]
  have KF := Lib.hid (show Cs w1 w.heap.size #[.int .i64 f, .int .i64 k] 24 by rw [hw1]; exact (Cs.new _ _ _).alloc _)
  have KX := Lib.hid (show Cs w1 (w.heap.size + 1) c.cells.toArray 32 by rw [hw1]; exact Cs_new1 _ _ _ _)
  have KM := Lib.hid (show Mod (fun _ => False) w w1 by rw [hw1]; exact ((Mod.refl _ _).alloc _).alloc _)
  have hs1 : w1.heap.size = w.heap.size + 2 := by rw [hw1]; simp
  clear hw1
  by_cases c0 : 0 ≤ c.cl
  · have E0 := Lib.hid (decide_eq_true c0)
    clear c0
    by_cases c1 : c.cl < k
    · have E1 := Lib.hid (decide_eq_true c1)
      clear c1
      by_cases c2 : 1 ≤ c.sq
      · have E2 := Lib.hid (decide_eq_true c2)
        clear c2
        by_cases c3 : c.sq ≤ 1048576
        · have E3 := Lib.hid (decide_eq_true c3)
          clear c3
          by_cases c4 : 0 ≤ c.ln
          · have E4 := Lib.hid (decide_eq_true c4)
            clear c4
            by_cases c5 : c.ln ≤ 256
            · have E5 := Lib.hid (decide_eq_true c5)
              clear c5
              generalize ha0 : Act.mk _ _ = a0
              have oe2 : a0.eval (.tmp 2) = .pointer (some ⟨w.heap.size, 0, none⟩) := by rw [← ha0]; rfl
              have oe3 : a0.eval (.tmp 3) = .pointer (some ⟨w.heap.size + 1, 0, none⟩) := by rw [← ha0]; rfl
              have hsz0 : a0.tmps.size = 39 := by rw [← ha0]; rfl
              have HA0 := Lib.hid ha0
              clear ha0
              refine wp_region_G 39 hsz0 (by kernel_rfl) (by kernel_rfl) [5, 6, 7, 8, 9, 10, 11, 12, 13, 14, 15, 16, 17, 18, 19, 20, 21, 22, 23, 24, 25, 26, 27, 28, 29, 30, 31, 32, 33, 34, 35, 36, 37, 38, 4] (by kernel_rfl) (by decide) (fun _ => False) (fun _ _ => False) (fun _ _ h => h) Still (fun _ _ _ h => h) (fun _ _ _ hm h => hm.trans h (fun _ _ h => h.elim)) [gi (.pointer (some ⟨w.heap.size + 1, 0, none⟩)), gi (.pointer (some ⟨w.heap.size + 1, 0, none⟩)), gi (.int .i64 c.cl), gi (.bool true), gi (.bool true), gi (.pointer (some ⟨w.heap.size + 1, 0, none⟩)), gi (.pointer (some ⟨w.heap.size + 1, 0, none⟩)), gi (.int .i64 c.cl), gi (.pointer (some ⟨w.heap.size, 1, none⟩)), gi (.int .i64 k), gi (.bool true), gi (.bool true), gi (.bool true), gi (.pointer (some ⟨w.heap.size + 1, 0, none⟩)), gi (.pointer (some ⟨w.heap.size + 1, 1, none⟩)), gi (.int .i64 c.sq), gi (.bool true), gi (.bool true), gi (.bool true), gi (.pointer (some ⟨w.heap.size + 1, 0, none⟩)), gi (.pointer (some ⟨w.heap.size + 1, 1, none⟩)), gi (.int .i64 c.sq), gi (.bool true), gi (.bool true), gi (.bool true), gi (.pointer (some ⟨w.heap.size + 1, 34, none⟩)), gi (.int .i64 c.ln), gi (.bool true), gi (.bool true), gi (.bool true), gi (.pointer (some ⟨w.heap.size + 1, 34, none⟩)), gi (.int .i64 c.ln), gi (.bool true), gi (.bool true), gi (.bool true)] ⟨gi_stable, gi_stable, gi_stable, gi_stable, gi_stable, gi_stable, gi_stable, gi_stable, gi_stable, gi_stable, gi_stable, gi_stable, gi_stable, gi_stable, gi_stable, gi_stable, gi_stable, gi_stable, gi_stable, gi_stable, gi_stable, gi_stable, gi_stable, gi_stable, gi_stable, gi_stable, gi_stable, gi_stable, gi_stable, gi_stable, gi_stable, gi_stable, gi_stable, gi_stable, gi_stable, trivial⟩ [] (by kernel_rfl) (by decide) (by kernel_rfl) (fun _ _ => True) (fun _ _ _ _ _ => trivial) trivial ⟨?_, ?_, ?_, ?_, ?_, ?_, ?_, ?_, ?_, ?_, ?_, ?_, ?_, ?_, ?_, ?_, ?_, ?_, ?_, ?_, ?_, ?_, ?_, ?_, ?_, ?_, ?_, ?_, ?_, ?_, ?_, ?_, ?_, ?_, ?_, trivial⟩ ?_
              · intro tr act w' hm hout hsz hd hG hk hub
                refine jg_run (by rfl) rfl (wanted_none rfl) (ex_field rfl Try.underlying32 rfl (by kernel_rfl) ((hout 3 (by decide)).trans oe3)) (Mod.refl _ _) ?_
                rfl
              · intro tr act w' hm hout hsz hd hG hk hub
                have h0 := hd ⟨0, .data⟩ (by simp) rfl _ rfl
                refine jg_run (by rfl) rfl (wanted_none rfl) (ex_field rfl Try.underlying26 rfl (by kernel_rfl) h0) (Mod.refl _ _) ?_
                rfl
              · intro tr act w' hm hout hsz hd hG hk hub
                have h1 := hd ⟨1, .data⟩ (by simp) rfl _ rfl
                exact jg_run (by rfl) rfl (wanted_none rfl) (ex_load1 rfl Try.underlying3 rfl h1 ((KX.out.mod hm (fun h => h)).c0)) (Mod.refl _ _) rfl
              · intro tr act w' hm hout hsz hd hG hk hub
                have h2 := hd ⟨2, .data⟩ (by simp) rfl _ rfl
                refine jg_run (by rfl) rfl (wanted_none rfl) (ex_bin rfl h2 rfl (guard_ints _ _ _ _ _ _) (run_geq_i _ _ _ Try.underlying3)) (Mod.refl _ _) ?_
                exact congrArg Value.bool E0.out
              · intro tr act w' hm hout hsz hd hG hk hub
                have h3 := hd ⟨3, .data⟩ (by simp) rfl _ rfl
                exact jg_run (by rfl) rfl (wanted_none rfl) (ex_move rfl h3) (Mod.refl _ _) rfl
              · intro tr act w' hm hout hsz hd hG hk hub
                have h4 := hd ⟨4, .guard⟩ (by simp) rfl _ rfl
                refine jg_run (by rfl) rfl ((wanted_of rfl rfl (hsz 9 (by decide)) h4).trans rfl) (ex_field rfl Try.underlying32 rfl (by kernel_rfl) ((hout 3 (by decide)).trans oe3)) (Mod.refl _ _) ?_
                rfl
              · intro tr act w' hm hout hsz hd hG hk hub
                have h4 := hd ⟨4, .guard⟩ (by simp) rfl _ rfl
                have h5 := hd ⟨5, .data⟩ (by simp) rfl _ rfl
                refine jg_run (by rfl) rfl ((wanted_of rfl rfl (hsz 9 (by decide)) h4).trans rfl) (ex_field rfl Try.underlying26 rfl (by kernel_rfl) h5) (Mod.refl _ _) ?_
                rfl
              · intro tr act w' hm hout hsz hd hG hk hub
                have h4 := hd ⟨4, .guard⟩ (by simp) rfl _ rfl
                have h6 := hd ⟨6, .data⟩ (by simp) rfl _ rfl
                exact jg_run (by rfl) rfl ((wanted_of rfl rfl (hsz 9 (by decide)) h4).trans rfl) (ex_load1 rfl Try.underlying3 rfl h6 ((KX.out.mod hm (fun h => h)).c0)) (Mod.refl _ _) rfl
              · intro tr act w' hm hout hsz hd hG hk hub
                have h4 := hd ⟨4, .guard⟩ (by simp) rfl _ rfl
                refine jg_run (by rfl) rfl ((wanted_of rfl rfl (hsz 9 (by decide)) h4).trans rfl) (ex_field rfl Try.underlying24 rfl (by kernel_rfl) ((hout 2 (by decide)).trans oe2)) (Mod.refl _ _) ?_
                rfl
              · intro tr act w' hm hout hsz hd hG hk hub
                have h4 := hd ⟨4, .guard⟩ (by simp) rfl _ rfl
                have h8 := hd ⟨8, .data⟩ (by simp) rfl _ rfl
                exact jg_run (by rfl) rfl ((wanted_of rfl rfl (hsz 9 (by decide)) h4).trans rfl) (ex_load1 rfl Try.underlying3 rfl h8 (by rw [(KF.out.mod hm (fun h => h)).cell]; rfl)) (Mod.refl _ _) rfl
              · intro tr act w' hm hout hsz hd hG hk hub
                have h4 := hd ⟨4, .guard⟩ (by simp) rfl _ rfl
                have h7 := hd ⟨7, .data⟩ (by simp) rfl _ rfl
                have h9 := hd ⟨9, .data⟩ (by simp) rfl _ rfl
                refine jg_run (by rfl) rfl ((wanted_of rfl rfl (hsz 9 (by decide)) h4).trans rfl) (ex_bin rfl h7 h9 (guard_ints _ _ _ _ _ _) (run_lss_i _ _ _ Try.underlying3)) (Mod.refl _ _) ?_
                exact congrArg Value.bool E1.out
              · intro tr act w' hm hout hsz hd hG hk hub
                have h4 := hd ⟨4, .data⟩ (by simp) rfl _ rfl
                have h10 := hd ⟨10, .data⟩ (by simp) rfl _ rfl
                exact jg_run (by rfl) rfl (wanted_none rfl) (ex_pick rfl h4 h10 rfl) (Mod.refl _ _) rfl
              · intro tr act w' hm hout hsz hd hG hk hub
                have h11 := hd ⟨11, .data⟩ (by simp) rfl _ rfl
                exact jg_run (by rfl) rfl (wanted_none rfl) (ex_move rfl h11) (Mod.refl _ _) rfl
              · intro tr act w' hm hout hsz hd hG hk hub
                have h12 := hd ⟨12, .guard⟩ (by simp) rfl _ rfl
                refine jg_run (by rfl) rfl ((wanted_of rfl rfl (hsz 17 (by decide)) h12).trans rfl) (ex_field rfl Try.underlying32 rfl (by kernel_rfl) ((hout 3 (by decide)).trans oe3)) (Mod.refl _ _) ?_
                rfl
              · intro tr act w' hm hout hsz hd hG hk hub
                have h12 := hd ⟨12, .guard⟩ (by simp) rfl _ rfl
                have h13 := hd ⟨13, .data⟩ (by simp) rfl _ rfl
                refine jg_run (by rfl) rfl ((wanted_of rfl rfl (hsz 17 (by decide)) h12).trans rfl) (ex_field rfl Try.underlying26 rfl (by kernel_rfl) h13) (Mod.refl _ _) ?_
                rfl
              · intro tr act w' hm hout hsz hd hG hk hub
                have h12 := hd ⟨12, .guard⟩ (by simp) rfl _ rfl
                have h14 := hd ⟨14, .data⟩ (by simp) rfl _ rfl
                exact jg_run (by rfl) rfl ((wanted_of rfl rfl (hsz 17 (by decide)) h12).trans rfl) (ex_load1 rfl Try.underlying3 rfl h14 ((KX.out.mod hm (fun h => h)).c1)) (Mod.refl _ _) rfl
              · intro tr act w' hm hout hsz hd hG hk hub
                have h12 := hd ⟨12, .guard⟩ (by simp) rfl _ rfl
                have h15 := hd ⟨15, .data⟩ (by simp) rfl _ rfl
                refine jg_run (by rfl) rfl ((wanted_of rfl rfl (hsz 17 (by decide)) h12).trans rfl) (ex_bin rfl h15 rfl (guard_ints _ _ _ _ _ _) (run_geq_i _ _ _ Try.underlying3)) (Mod.refl _ _) ?_
                exact congrArg Value.bool E2.out
              · intro tr act w' hm hout hsz hd hG hk hub
                have h12 := hd ⟨12, .data⟩ (by simp) rfl _ rfl
                have h16 := hd ⟨16, .data⟩ (by simp) rfl _ rfl
                exact jg_run (by rfl) rfl (wanted_none rfl) (ex_pick rfl h12 h16 rfl) (Mod.refl _ _) rfl
              · intro tr act w' hm hout hsz hd hG hk hub
                have h17 := hd ⟨17, .data⟩ (by simp) rfl _ rfl
                exact jg_run (by rfl) rfl (wanted_none rfl) (ex_move rfl h17) (Mod.refl _ _) rfl
              · intro tr act w' hm hout hsz hd hG hk hub
                have h18 := hd ⟨18, .guard⟩ (by simp) rfl _ rfl
                refine jg_run (by rfl) rfl ((wanted_of rfl rfl (hsz 23 (by decide)) h18).trans rfl) (ex_field rfl Try.underlying32 rfl (by kernel_rfl) ((hout 3 (by decide)).trans oe3)) (Mod.refl _ _) ?_
                rfl
              · intro tr act w' hm hout hsz hd hG hk hub
                have h18 := hd ⟨18, .guard⟩ (by simp) rfl _ rfl
                have h19 := hd ⟨19, .data⟩ (by simp) rfl _ rfl
                refine jg_run (by rfl) rfl ((wanted_of rfl rfl (hsz 23 (by decide)) h18).trans rfl) (ex_field rfl Try.underlying26 rfl (by kernel_rfl) h19) (Mod.refl _ _) ?_
                rfl
              · intro tr act w' hm hout hsz hd hG hk hub
                have h18 := hd ⟨18, .guard⟩ (by simp) rfl _ rfl
                have h20 := hd ⟨20, .data⟩ (by simp) rfl _ rfl
                exact jg_run (by rfl) rfl ((wanted_of rfl rfl (hsz 23 (by decide)) h18).trans rfl) (ex_load1 rfl Try.underlying3 rfl h20 ((KX.out.mod hm (fun h => h)).c1)) (Mod.refl _ _) rfl
              · intro tr act w' hm hout hsz hd hG hk hub
                have h18 := hd ⟨18, .guard⟩ (by simp) rfl _ rfl
                have h21 := hd ⟨21, .data⟩ (by simp) rfl _ rfl
                refine jg_run (by rfl) rfl ((wanted_of rfl rfl (hsz 23 (by decide)) h18).trans rfl) (ex_bin rfl h21 rfl (guard_ints _ _ _ _ _ _) (run_leq_i _ _ _ Try.underlying3)) (Mod.refl _ _) ?_
                exact congrArg Value.bool E3.out
              · intro tr act w' hm hout hsz hd hG hk hub
                have h18 := hd ⟨18, .data⟩ (by simp) rfl _ rfl
                have h22 := hd ⟨22, .data⟩ (by simp) rfl _ rfl
                exact jg_run (by rfl) rfl (wanted_none rfl) (ex_pick rfl h18 h22 rfl) (Mod.refl _ _) rfl
              · intro tr act w' hm hout hsz hd hG hk hub
                have h23 := hd ⟨23, .data⟩ (by simp) rfl _ rfl
                exact jg_run (by rfl) rfl (wanted_none rfl) (ex_move rfl h23) (Mod.refl _ _) rfl
              · intro tr act w' hm hout hsz hd hG hk hub
                have h24 := hd ⟨24, .guard⟩ (by simp) rfl _ rfl
                refine jg_run (by rfl) rfl ((wanted_of rfl rfl (hsz 29 (by decide)) h24).trans rfl) (ex_field rfl Try.underlying32 rfl (by kernel_rfl) ((hout 3 (by decide)).trans oe3)) (Mod.refl _ _) ?_
                rfl
              · intro tr act w' hm hout hsz hd hG hk hub
                have h24 := hd ⟨24, .guard⟩ (by simp) rfl _ rfl
                have h25 := hd ⟨25, .data⟩ (by simp) rfl _ rfl
                exact jg_run (by rfl) rfl ((wanted_of rfl rfl (hsz 29 (by decide)) h24).trans rfl) (ex_load1 rfl Try.underlying3 rfl h25 ((KX.out.mod hm (fun h => h)).c34 HL.out)) (Mod.refl _ _) rfl
              · intro tr act w' hm hout hsz hd hG hk hub
                have h24 := hd ⟨24, .guard⟩ (by simp) rfl _ rfl
                have h26 := hd ⟨26, .data⟩ (by simp) rfl _ rfl
                refine jg_run (by rfl) rfl ((wanted_of rfl rfl (hsz 29 (by decide)) h24).trans rfl) (ex_bin rfl h26 rfl (guard_ints _ _ _ _ _ _) (run_geq_i _ _ _ Try.underlying3)) (Mod.refl _ _) ?_
                exact congrArg Value.bool E4.out
              · intro tr act w' hm hout hsz hd hG hk hub
                have h24 := hd ⟨24, .data⟩ (by simp) rfl _ rfl
                have h27 := hd ⟨27, .data⟩ (by simp) rfl _ rfl
                exact jg_run (by rfl) rfl (wanted_none rfl) (ex_pick rfl h24 h27 rfl) (Mod.refl _ _) rfl
              · intro tr act w' hm hout hsz hd hG hk hub
                have h28 := hd ⟨28, .data⟩ (by simp) rfl _ rfl
                exact jg_run (by rfl) rfl (wanted_none rfl) (ex_move rfl h28) (Mod.refl _ _) rfl
              · intro tr act w' hm hout hsz hd hG hk hub
                have h29 := hd ⟨29, .guard⟩ (by simp) rfl _ rfl
                refine jg_run (by rfl) rfl ((wanted_of rfl rfl (hsz 34 (by decide)) h29).trans rfl) (ex_field rfl Try.underlying32 rfl (by kernel_rfl) ((hout 3 (by decide)).trans oe3)) (Mod.refl _ _) ?_
                rfl
              · intro tr act w' hm hout hsz hd hG hk hub
                have h29 := hd ⟨29, .guard⟩ (by simp) rfl _ rfl
                have h30 := hd ⟨30, .data⟩ (by simp) rfl _ rfl
                exact jg_run (by rfl) rfl ((wanted_of rfl rfl (hsz 34 (by decide)) h29).trans rfl) (ex_load1 rfl Try.underlying3 rfl h30 ((KX.out.mod hm (fun h => h)).c34 HL.out)) (Mod.refl _ _) rfl
              · intro tr act w' hm hout hsz hd hG hk hub
                have h29 := hd ⟨29, .guard⟩ (by simp) rfl _ rfl
                have h31 := hd ⟨31, .data⟩ (by simp) rfl _ rfl
                refine jg_run (by rfl) rfl ((wanted_of rfl rfl (hsz 34 (by decide)) h29).trans rfl) (ex_bin rfl h31 rfl (guard_ints _ _ _ _ _ _) (run_leq_i _ _ _ Try.underlying3)) (Mod.refl _ _) ?_
                exact congrArg Value.bool E5.out
              · intro tr act w' hm hout hsz hd hG hk hub
                have h29 := hd ⟨29, .data⟩ (by simp) rfl _ rfl
                have h32 := hd ⟨32, .data⟩ (by simp) rfl _ rfl
                exact jg_run (by rfl) rfl (wanted_none rfl) (ex_pick rfl h29 h32 rfl) (Mod.refl _ _) rfl
              · intro tr act w' hm hout hsz hd hG hk hub
                have h33 := hd ⟨33, .data⟩ (by simp) rfl _ rfl
                exact jg_run (by rfl) rfl (wanted_none rfl) (ex_assign rfl h33) (Mod.refl _ _) rfl
              intro vs tr w3 hl htl hm hG hV
              obtain ⟨v0, vs0, rfl, hl0⟩ := list_cons hl
              obtain ⟨v1, vs1, rfl, hl1⟩ := list_cons hl0
              obtain ⟨v2, vs2, rfl, hl2⟩ := list_cons hl1
              obtain ⟨v3, vs3, rfl, hl3⟩ := list_cons hl2
              obtain ⟨v4, vs4, rfl, hl4⟩ := list_cons hl3
              obtain ⟨v5, vs5, rfl, hl5⟩ := list_cons hl4
              obtain ⟨v6, vs6, rfl, hl6⟩ := list_cons hl5
              obtain ⟨v7, vs7, rfl, hl7⟩ := list_cons hl6
              obtain ⟨v8, vs8, rfl, hl8⟩ := list_cons hl7
              obtain ⟨v9, vs9, rfl, hl9⟩ := list_cons hl8
              obtain ⟨v10, vs10, rfl, hl10⟩ := list_cons hl9
              obtain ⟨v11, vs11, rfl, hl11⟩ := list_cons hl10
              obtain ⟨v12, vs12, rfl, hl12⟩ := list_cons hl11
              obtain ⟨v13, vs13, rfl, hl13⟩ := list_cons hl12
              obtain ⟨v14, vs14, rfl, hl14⟩ := list_cons hl13
              obtain ⟨v15, vs15, rfl, hl15⟩ := list_cons hl14
              obtain ⟨v16, vs16, rfl, hl16⟩ := list_cons hl15
              obtain ⟨v17, vs17, rfl, hl17⟩ := list_cons hl16
              obtain ⟨v18, vs18, rfl, hl18⟩ := list_cons hl17
              obtain ⟨v19, vs19, rfl, hl19⟩ := list_cons hl18
              obtain ⟨v20, vs20, rfl, hl20⟩ := list_cons hl19
              obtain ⟨v21, vs21, rfl, hl21⟩ := list_cons hl20
              obtain ⟨v22, vs22, rfl, hl22⟩ := list_cons hl21
              obtain ⟨v23, vs23, rfl, hl23⟩ := list_cons hl22
              obtain ⟨v24, vs24, rfl, hl24⟩ := list_cons hl23
              obtain ⟨v25, vs25, rfl, hl25⟩ := list_cons hl24
              obtain ⟨v26, vs26, rfl, hl26⟩ := list_cons hl25
              obtain ⟨v27, vs27, rfl, hl27⟩ := list_cons hl26
              obtain ⟨v28, vs28, rfl, hl28⟩ := list_cons hl27
              obtain ⟨v29, vs29, rfl, hl29⟩ := list_cons hl28
              obtain ⟨v30, vs30, rfl, hl30⟩ := list_cons hl29
              obtain ⟨v31, vs31, rfl, hl31⟩ := list_cons hl30
              obtain ⟨v32, vs32, rfl, hl32⟩ := list_cons hl31
              obtain ⟨v33, vs33, rfl, hl33⟩ := list_cons hl32
              obtain ⟨v34, vs34, rfl, hl34⟩ := list_cons hl33
              obtain rfl := list_nil hl34
              clear hl hl0 hl1 hl2 hl3 hl4 hl5 hl6 hl7 hl8 hl9 hl10 hl11 hl12 hl13 hl14 hl15 hl16 hl17 hl18 hl19 hl20 hl21 hl22 hl23 hl24 hl25 hl26 hl27 hl28 hl29 hl30 hl31 hl32 hl33 hl34
              obtain rfl : v34 = .bool true := hV 34 _ rfl
              have ha0 := HA0.out
              subst ha0
              clear HA0 hV hsz0 oe2 oe3
              simp only [putAll, Act.put, List.setIfInBounds_toArray, List.set_cons_zero, List.set_cons_succ]
              have KM3 := Lib.hid (KM.out.trans hm (fun _ _ h => h))
              clear hm hG
              go_wp2
              go_ret
              exact ⟨congrArg (fun z => Ending.returned (Value.bool z)) (show true = validF k c by unfold validF; (simp only [E0.out, E1.out, E2.out, E3.out, E4.out, E5.out, Bool.true_and] <;> rfl)), KM3.out⟩
            · have E5 := Lib.hid (decide_eq_false c5)
              clear c5
              generalize ha0 : Act.mk _ _ = a0
              have oe2 : a0.eval (.tmp 2) = .pointer (some ⟨w.heap.size, 0, none⟩) := by rw [← ha0]; rfl
              have oe3 : a0.eval (.tmp 3) = .pointer (some ⟨w.heap.size + 1, 0, none⟩) := by rw [← ha0]; rfl
              have hsz0 : a0.tmps.size = 39 := by rw [← ha0]; rfl
              have HA0 := Lib.hid ha0
              clear ha0
              refine wp_region_G 39 hsz0 (by kernel_rfl) (by kernel_rfl) [5, 6, 7, 8, 9, 10, 11, 12, 13, 14, 15, 16, 17, 18, 19, 20, 21, 22, 23, 24, 25, 26, 27, 28, 29, 30, 31, 32, 33, 34, 35, 36, 37, 38, 4] (by kernel_rfl) (by decide) (fun _ => False) (fun _ _ => False) (fun _ _ h => h) Still (fun _ _ _ h => h) (fun _ _ _ hm h => hm.trans h (fun _ _ h => h.elim)) [gi (.pointer (some ⟨w.heap.size + 1, 0, none⟩)), gi (.pointer (some ⟨w.heap.size + 1, 0, none⟩)), gi (.int .i64 c.cl), gi (.bool true), gi (.bool true), gi (.pointer (some ⟨w.heap.size + 1, 0, none⟩)), gi (.pointer (some ⟨w.heap.size + 1, 0, none⟩)), gi (.int .i64 c.cl), gi (.pointer (some ⟨w.heap.size, 1, none⟩)), gi (.int .i64 k), gi (.bool true), gi (.bool true), gi (.bool true), gi (.pointer (some ⟨w.heap.size + 1, 0, none⟩)), gi (.pointer (some ⟨w.heap.size + 1, 1, none⟩)), gi (.int .i64 c.sq), gi (.bool true), gi (.bool true), gi (.bool true), gi (.pointer (some ⟨w.heap.size + 1, 0, none⟩)), gi (.pointer (some ⟨w.heap.size + 1, 1, none⟩)), gi (.int .i64 c.sq), gi (.bool true), gi (.bool true), gi (.bool true), gi (.pointer (some ⟨w.heap.size + 1, 34, none⟩)), gi (.int .i64 c.ln), gi (.bool true), gi (.bool true), gi (.bool true), gi (.pointer (some ⟨w.heap.size + 1, 34, none⟩)), gi (.int .i64 c.ln), gi (.bool false), gi (.bool false), gi (.bool false)] ⟨gi_stable, gi_stable, gi_stable, gi_stable, gi_stable, gi_stable, gi_stable, gi_stable, gi_stable, gi_stable, gi_stable, gi_stable, gi_stable, gi_stable, gi_stable, gi_stable, gi_stable, gi_stable, gi_stable, gi_stable, gi_stable, gi_stable, gi_stable, gi_stable, gi_stable, gi_stable, gi_stable, gi_stable, gi_stable, gi_stable, gi_stable, gi_stable, gi_stable, gi_stable, gi_stable, trivial⟩ [] (by kernel_rfl) (by decide) (by kernel_rfl) (fun _ _ => True) (fun _ _ _ _ _ => trivial) trivial ⟨?_, ?_, ?_, ?_, ?_, ?_, ?_, ?_, ?_, ?_, ?_, ?_, ?_, ?_, ?_, ?_, ?_, ?_, ?_, ?_, ?_, ?_, ?_, ?_, ?_, ?_, ?_, ?_, ?_, ?_, ?_, ?_, ?_, ?_, ?_, trivial⟩ ?_
              · intro tr act w' hm hout hsz hd hG hk hub
                refine jg_run (by rfl) rfl (wanted_none rfl) (ex_field rfl Try.underlying32 rfl (by kernel_rfl) ((hout 3 (by decide)).trans oe3)) (Mod.refl _ _) ?_
                rfl
              · intro tr act w' hm hout hsz hd hG hk hub
                have h0 := hd ⟨0, .data⟩ (by simp) rfl _ rfl
                refine jg_run (by rfl) rfl (wanted_none rfl) (ex_field rfl Try.underlying26 rfl (by kernel_rfl) h0) (Mod.refl _ _) ?_
                rfl
              · intro tr act w' hm hout hsz hd hG hk hub
                have h1 := hd ⟨1, .data⟩ (by simp) rfl _ rfl
                exact jg_run (by rfl) rfl (wanted_none rfl) (ex_load1 rfl Try.underlying3 rfl h1 ((KX.out.mod hm (fun h => h)).c0)) (Mod.refl _ _) rfl
              · intro tr act w' hm hout hsz hd hG hk hub
                have h2 := hd ⟨2, .data⟩ (by simp) rfl _ rfl
                refine jg_run (by rfl) rfl (wanted_none rfl) (ex_bin rfl h2 rfl (guard_ints _ _ _ _ _ _) (run_geq_i _ _ _ Try.underlying3)) (Mod.refl _ _) ?_
                exact congrArg Value.bool E0.out
              · intro tr act w' hm hout hsz hd hG hk hub
                have h3 := hd ⟨3, .data⟩ (by simp) rfl _ rfl
                exact jg_run (by rfl) rfl (wanted_none rfl) (ex_move rfl h3) (Mod.refl _ _) rfl
              · intro tr act w' hm hout hsz hd hG hk hub
                have h4 := hd ⟨4, .guard⟩ (by simp) rfl _ rfl
                refine jg_run (by rfl) rfl ((wanted_of rfl rfl (hsz 9 (by decide)) h4).trans rfl) (ex_field rfl Try.underlying32 rfl (by kernel_rfl) ((hout 3 (by decide)).trans oe3)) (Mod.refl _ _) ?_
                rfl
              · intro tr act w' hm hout hsz hd hG hk hub
                have h4 := hd ⟨4, .guard⟩ (by simp) rfl _ rfl
                have h5 := hd ⟨5, .data⟩ (by simp) rfl _ rfl
                refine jg_run (by rfl) rfl ((wanted_of rfl rfl (hsz 9 (by decide)) h4).trans rfl) (ex_field rfl Try.underlying26 rfl (by kernel_rfl) h5) (Mod.refl _ _) ?_
                rfl
              · intro tr act w' hm hout hsz hd hG hk hub
                have h4 := hd ⟨4, .guard⟩ (by simp) rfl _ rfl
                have h6 := hd ⟨6, .data⟩ (by simp) rfl _ rfl
                exact jg_run (by rfl) rfl ((wanted_of rfl rfl (hsz 9 (by decide)) h4).trans rfl) (ex_load1 rfl Try.underlying3 rfl h6 ((KX.out.mod hm (fun h => h)).c0)) (Mod.refl _ _) rfl
              · intro tr act w' hm hout hsz hd hG hk hub
                have h4 := hd ⟨4, .guard⟩ (by simp) rfl _ rfl
                refine jg_run (by rfl) rfl ((wanted_of rfl rfl (hsz 9 (by decide)) h4).trans rfl) (ex_field rfl Try.underlying24 rfl (by kernel_rfl) ((hout 2 (by decide)).trans oe2)) (Mod.refl _ _) ?_
                rfl
              · intro tr act w' hm hout hsz hd hG hk hub
                have h4 := hd ⟨4, .guard⟩ (by simp) rfl _ rfl
                have h8 := hd ⟨8, .data⟩ (by simp) rfl _ rfl
                exact jg_run (by rfl) rfl ((wanted_of rfl rfl (hsz 9 (by decide)) h4).trans rfl) (ex_load1 rfl Try.underlying3 rfl h8 (by rw [(KF.out.mod hm (fun h => h)).cell]; rfl)) (Mod.refl _ _) rfl
              · intro tr act w' hm hout hsz hd hG hk hub
                have h4 := hd ⟨4, .guard⟩ (by simp) rfl _ rfl
                have h7 := hd ⟨7, .data⟩ (by simp) rfl _ rfl
                have h9 := hd ⟨9, .data⟩ (by simp) rfl _ rfl
                refine jg_run (by rfl) rfl ((wanted_of rfl rfl (hsz 9 (by decide)) h4).trans rfl) (ex_bin rfl h7 h9 (guard_ints _ _ _ _ _ _) (run_lss_i _ _ _ Try.underlying3)) (Mod.refl _ _) ?_
                exact congrArg Value.bool E1.out
              · intro tr act w' hm hout hsz hd hG hk hub
                have h4 := hd ⟨4, .data⟩ (by simp) rfl _ rfl
                have h10 := hd ⟨10, .data⟩ (by simp) rfl _ rfl
                exact jg_run (by rfl) rfl (wanted_none rfl) (ex_pick rfl h4 h10 rfl) (Mod.refl _ _) rfl
              · intro tr act w' hm hout hsz hd hG hk hub
                have h11 := hd ⟨11, .data⟩ (by simp) rfl _ rfl
                exact jg_run (by rfl) rfl (wanted_none rfl) (ex_move rfl h11) (Mod.refl _ _) rfl
              · intro tr act w' hm hout hsz hd hG hk hub
                have h12 := hd ⟨12, .guard⟩ (by simp) rfl _ rfl
                refine jg_run (by rfl) rfl ((wanted_of rfl rfl (hsz 17 (by decide)) h12).trans rfl) (ex_field rfl Try.underlying32 rfl (by kernel_rfl) ((hout 3 (by decide)).trans oe3)) (Mod.refl _ _) ?_
                rfl
              · intro tr act w' hm hout hsz hd hG hk hub
                have h12 := hd ⟨12, .guard⟩ (by simp) rfl _ rfl
                have h13 := hd ⟨13, .data⟩ (by simp) rfl _ rfl
                refine jg_run (by rfl) rfl ((wanted_of rfl rfl (hsz 17 (by decide)) h12).trans rfl) (ex_field rfl Try.underlying26 rfl (by kernel_rfl) h13) (Mod.refl _ _) ?_
                rfl
              · intro tr act w' hm hout hsz hd hG hk hub
                have h12 := hd ⟨12, .guard⟩ (by simp) rfl _ rfl
                have h14 := hd ⟨14, .data⟩ (by simp) rfl _ rfl
                exact jg_run (by rfl) rfl ((wanted_of rfl rfl (hsz 17 (by decide)) h12).trans rfl) (ex_load1 rfl Try.underlying3 rfl h14 ((KX.out.mod hm (fun h => h)).c1)) (Mod.refl _ _) rfl
              · intro tr act w' hm hout hsz hd hG hk hub
                have h12 := hd ⟨12, .guard⟩ (by simp) rfl _ rfl
                have h15 := hd ⟨15, .data⟩ (by simp) rfl _ rfl
                refine jg_run (by rfl) rfl ((wanted_of rfl rfl (hsz 17 (by decide)) h12).trans rfl) (ex_bin rfl h15 rfl (guard_ints _ _ _ _ _ _) (run_geq_i _ _ _ Try.underlying3)) (Mod.refl _ _) ?_
                exact congrArg Value.bool E2.out
              · intro tr act w' hm hout hsz hd hG hk hub
                have h12 := hd ⟨12, .data⟩ (by simp) rfl _ rfl
                have h16 := hd ⟨16, .data⟩ (by simp) rfl _ rfl
                exact jg_run (by rfl) rfl (wanted_none rfl) (ex_pick rfl h12 h16 rfl) (Mod.refl _ _) rfl
              · intro tr act w' hm hout hsz hd hG hk hub
                have h17 := hd ⟨17, .data⟩ (by simp) rfl _ rfl
                exact jg_run (by rfl) rfl (wanted_none rfl) (ex_move rfl h17) (Mod.refl _ _) rfl
              · intro tr act w' hm hout hsz hd hG hk hub
                have h18 := hd ⟨18, .guard⟩ (by simp) rfl _ rfl
                refine jg_run (by rfl) rfl ((wanted_of rfl rfl (hsz 23 (by decide)) h18).trans rfl) (ex_field rfl Try.underlying32 rfl (by kernel_rfl) ((hout 3 (by decide)).trans oe3)) (Mod.refl _ _) ?_
                rfl
              · intro tr act w' hm hout hsz hd hG hk hub
                have h18 := hd ⟨18, .guard⟩ (by simp) rfl _ rfl
                have h19 := hd ⟨19, .data⟩ (by simp) rfl _ rfl
                refine jg_run (by rfl) rfl ((wanted_of rfl rfl (hsz 23 (by decide)) h18).trans rfl) (ex_field rfl Try.underlying26 rfl (by kernel_rfl) h19) (Mod.refl _ _) ?_
                rfl
              · intro tr act w' hm hout hsz hd hG hk hub
                have h18 := hd ⟨18, .guard⟩ (by simp) rfl _ rfl
                have h20 := hd ⟨20, .data⟩ (by simp) rfl _ rfl
                exact jg_run (by rfl) rfl ((wanted_of rfl rfl (hsz 23 (by decide)) h18).trans rfl) (ex_load1 rfl Try.underlying3 rfl h20 ((KX.out.mod hm (fun h => h)).c1)) (Mod.refl _ _) rfl
              · intro tr act w' hm hout hsz hd hG hk hub
                have h18 := hd ⟨18, .guard⟩ (by simp) rfl _ rfl
                have h21 := hd ⟨21, .data⟩ (by simp) rfl _ rfl
                refine jg_run (by rfl) rfl ((wanted_of rfl rfl (hsz 23 (by decide)) h18).trans rfl) (ex_bin rfl h21 rfl (guard_ints _ _ _ _ _ _) (run_leq_i _ _ _ Try.underlying3)) (Mod.refl _ _) ?_
                exact congrArg Value.bool E3.out
              · intro tr act w' hm hout hsz hd hG hk hub
                have h18 := hd ⟨18, .data⟩ (by simp) rfl _ rfl
                have h22 := hd ⟨22, .data⟩ (by simp) rfl _ rfl
                exact jg_run (by rfl) rfl (wanted_none rfl) (ex_pick rfl h18 h22 rfl) (Mod.refl _ _) rfl
              · intro tr act w' hm hout hsz hd hG hk hub
                have h23 := hd ⟨23, .data⟩ (by simp) rfl _ rfl
                exact jg_run (by rfl) rfl (wanted_none rfl) (ex_move rfl h23) (Mod.refl _ _) rfl
              · intro tr act w' hm hout hsz hd hG hk hub
                have h24 := hd ⟨24, .guard⟩ (by simp) rfl _ rfl
                refine jg_run (by rfl) rfl ((wanted_of rfl rfl (hsz 29 (by decide)) h24).trans rfl) (ex_field rfl Try.underlying32 rfl (by kernel_rfl) ((hout 3 (by decide)).trans oe3)) (Mod.refl _ _) ?_
                rfl
              · intro tr act w' hm hout hsz hd hG hk hub
                have h24 := hd ⟨24, .guard⟩ (by simp) rfl _ rfl
                have h25 := hd ⟨25, .data⟩ (by simp) rfl _ rfl
                exact jg_run (by rfl) rfl ((wanted_of rfl rfl (hsz 29 (by decide)) h24).trans rfl) (ex_load1 rfl Try.underlying3 rfl h25 ((KX.out.mod hm (fun h => h)).c34 HL.out)) (Mod.refl _ _) rfl
              · intro tr act w' hm hout hsz hd hG hk hub
                have h24 := hd ⟨24, .guard⟩ (by simp) rfl _ rfl
                have h26 := hd ⟨26, .data⟩ (by simp) rfl _ rfl
                refine jg_run (by rfl) rfl ((wanted_of rfl rfl (hsz 29 (by decide)) h24).trans rfl) (ex_bin rfl h26 rfl (guard_ints _ _ _ _ _ _) (run_geq_i _ _ _ Try.underlying3)) (Mod.refl _ _) ?_
                exact congrArg Value.bool E4.out
              · intro tr act w' hm hout hsz hd hG hk hub
                have h24 := hd ⟨24, .data⟩ (by simp) rfl _ rfl
                have h27 := hd ⟨27, .data⟩ (by simp) rfl _ rfl
                exact jg_run (by rfl) rfl (wanted_none rfl) (ex_pick rfl h24 h27 rfl) (Mod.refl _ _) rfl
              · intro tr act w' hm hout hsz hd hG hk hub
                have h28 := hd ⟨28, .data⟩ (by simp) rfl _ rfl
                exact jg_run (by rfl) rfl (wanted_none rfl) (ex_move rfl h28) (Mod.refl _ _) rfl
              · intro tr act w' hm hout hsz hd hG hk hub
                have h29 := hd ⟨29, .guard⟩ (by simp) rfl _ rfl
                refine jg_run (by rfl) rfl ((wanted_of rfl rfl (hsz 34 (by decide)) h29).trans rfl) (ex_field rfl Try.underlying32 rfl (by kernel_rfl) ((hout 3 (by decide)).trans oe3)) (Mod.refl _ _) ?_
                rfl
              · intro tr act w' hm hout hsz hd hG hk hub
                have h29 := hd ⟨29, .guard⟩ (by simp) rfl _ rfl
                have h30 := hd ⟨30, .data⟩ (by simp) rfl _ rfl
                exact jg_run (by rfl) rfl ((wanted_of rfl rfl (hsz 34 (by decide)) h29).trans rfl) (ex_load1 rfl Try.underlying3 rfl h30 ((KX.out.mod hm (fun h => h)).c34 HL.out)) (Mod.refl _ _) rfl
              · intro tr act w' hm hout hsz hd hG hk hub
                have h29 := hd ⟨29, .guard⟩ (by simp) rfl _ rfl
                have h31 := hd ⟨31, .data⟩ (by simp) rfl _ rfl
                refine jg_run (by rfl) rfl ((wanted_of rfl rfl (hsz 34 (by decide)) h29).trans rfl) (ex_bin rfl h31 rfl (guard_ints _ _ _ _ _ _) (run_leq_i _ _ _ Try.underlying3)) (Mod.refl _ _) ?_
                exact congrArg Value.bool E5.out
              · intro tr act w' hm hout hsz hd hG hk hub
                have h29 := hd ⟨29, .data⟩ (by simp) rfl _ rfl
                have h32 := hd ⟨32, .data⟩ (by simp) rfl _ rfl
                exact jg_run (by rfl) rfl (wanted_none rfl) (ex_pick rfl h29 h32 rfl) (Mod.refl _ _) rfl
              · intro tr act w' hm hout hsz hd hG hk hub
                have h33 := hd ⟨33, .data⟩ (by simp) rfl _ rfl
                exact jg_run (by rfl) rfl (wanted_none rfl) (ex_assign rfl h33) (Mod.refl _ _) rfl
              intro vs tr w3 hl htl hm hG hV
              obtain ⟨v0, vs0, rfl, hl0⟩ := list_cons hl
              obtain ⟨v1, vs1, rfl, hl1⟩ := list_cons hl0
              obtain ⟨v2, vs2, rfl, hl2⟩ := list_cons hl1
              obtain ⟨v3, vs3, rfl, hl3⟩ := list_cons hl2
              obtain ⟨v4, vs4, rfl, hl4⟩ := list_cons hl3
              obtain ⟨v5, vs5, rfl, hl5⟩ := list_cons hl4
              obtain ⟨v6, vs6, rfl, hl6⟩ := list_cons hl5
              obtain ⟨v7, vs7, rfl, hl7⟩ := list_cons hl6
              obtain ⟨v8, vs8, rfl, hl8⟩ := list_cons hl7
              obtain ⟨v9, vs9, rfl, hl9⟩ := list_cons hl8
              obtain ⟨v10, vs10, rfl, hl10⟩ := list_cons hl9
              obtain ⟨v11, vs11, rfl, hl11⟩ := list_cons hl10
              obtain ⟨v12, vs12, rfl, hl12⟩ := list_cons hl11
              obtain ⟨v13, vs13, rfl, hl13⟩ := list_cons hl12
              obtain ⟨v14, vs14, rfl, hl14⟩ := list_cons hl13
              obtain ⟨v15, vs15, rfl, hl15⟩ := list_cons hl14
              obtain ⟨v16, vs16, rfl, hl16⟩ := list_cons hl15
              obtain ⟨v17, vs17, rfl, hl17⟩ := list_cons hl16
              obtain ⟨v18, vs18, rfl, hl18⟩ := list_cons hl17
              obtain ⟨v19, vs19, rfl, hl19⟩ := list_cons hl18
              obtain ⟨v20, vs20, rfl, hl20⟩ := list_cons hl19
              obtain ⟨v21, vs21, rfl, hl21⟩ := list_cons hl20
              obtain ⟨v22, vs22, rfl, hl22⟩ := list_cons hl21
              obtain ⟨v23, vs23, rfl, hl23⟩ := list_cons hl22
              obtain ⟨v24, vs24, rfl, hl24⟩ := list_cons hl23
              obtain ⟨v25, vs25, rfl, hl25⟩ := list_cons hl24
              obtain ⟨v26, vs26, rfl, hl26⟩ := list_cons hl25
              obtain ⟨v27, vs27, rfl, hl27⟩ := list_cons hl26
              obtain ⟨v28, vs28, rfl, hl28⟩ := list_cons hl27
              obtain ⟨v29, vs29, rfl, hl29⟩ := list_cons hl28
              obtain ⟨v30, vs30, rfl, hl30⟩ := list_cons hl29
              obtain ⟨v31, vs31, rfl, hl31⟩ := list_cons hl30
              obtain ⟨v32, vs32, rfl, hl32⟩ := list_cons hl31
              obtain ⟨v33, vs33, rfl, hl33⟩ := list_cons hl32
              obtain ⟨v34, vs34, rfl, hl34⟩ := list_cons hl33
              obtain rfl := list_nil hl34
              clear hl hl0 hl1 hl2 hl3 hl4 hl5 hl6 hl7 hl8 hl9 hl10 hl11 hl12 hl13 hl14 hl15 hl16 hl17 hl18 hl19 hl20 hl21 hl22 hl23 hl24 hl25 hl26 hl27 hl28 hl29 hl30 hl31 hl32 hl33 hl34
              obtain rfl : v34 = .bool false := hV 34 _ rfl
              have ha0 := HA0.out
              subst ha0
              clear HA0 hV hsz0 oe2 oe3
              simp only [putAll, Act.put, List.setIfInBounds_toArray, List.set_cons_zero, List.set_cons_succ]
              have KM3 := Lib.hid (KM.out.trans hm (fun _ _ h => h))
              clear hm hG
              go_wp2
              go_ret
              exact ⟨congrArg (fun z => Ending.returned (Value.bool z)) (show false = validF k c by unfold validF; (simp only [E0.out, E1.out, E2.out, E3.out, E4.out, E5.out, Bool.true_and] <;> rfl)), KM3.out⟩
          · have E4 := Lib.hid (decide_eq_false c4)
            clear c4
            generalize ha0 : Act.mk _ _ = a0
            have oe2 : a0.eval (.tmp 2) = .pointer (some ⟨w.heap.size, 0, none⟩) := by rw [← ha0]; rfl
            have oe3 : a0.eval (.tmp 3) = .pointer (some ⟨w.heap.size + 1, 0, none⟩) := by rw [← ha0]; rfl
            have hsz0 : a0.tmps.size = 39 := by rw [← ha0]; rfl
            have HA0 := Lib.hid ha0
            clear ha0
            refine wp_region_G 39 hsz0 (by kernel_rfl) (by kernel_rfl) [5, 6, 7, 8, 9, 10, 11, 12, 13, 14, 15, 16, 17, 18, 19, 20, 21, 22, 23, 24, 25, 26, 27, 28, 29, 30, 31, 32, 33, 34, 35, 36, 37, 38, 4] (by kernel_rfl) (by decide) (fun _ => False) (fun _ _ => False) (fun _ _ h => h) Still (fun _ _ _ h => h) (fun _ _ _ hm h => hm.trans h (fun _ _ h => h.elim)) [gi (.pointer (some ⟨w.heap.size + 1, 0, none⟩)), gi (.pointer (some ⟨w.heap.size + 1, 0, none⟩)), gi (.int .i64 c.cl), gi (.bool true), gi (.bool true), gi (.pointer (some ⟨w.heap.size + 1, 0, none⟩)), gi (.pointer (some ⟨w.heap.size + 1, 0, none⟩)), gi (.int .i64 c.cl), gi (.pointer (some ⟨w.heap.size, 1, none⟩)), gi (.int .i64 k), gi (.bool true), gi (.bool true), gi (.bool true), gi (.pointer (some ⟨w.heap.size + 1, 0, none⟩)), gi (.pointer (some ⟨w.heap.size + 1, 1, none⟩)), gi (.int .i64 c.sq), gi (.bool true), gi (.bool true), gi (.bool true), gi (.pointer (some ⟨w.heap.size + 1, 0, none⟩)), gi (.pointer (some ⟨w.heap.size + 1, 1, none⟩)), gi (.int .i64 c.sq), gi (.bool true), gi (.bool true), gi (.bool true), gi (.pointer (some ⟨w.heap.size + 1, 34, none⟩)), gi (.int .i64 c.ln), gi (.bool false), gi (.bool false), gi (.bool false), gi (undef), gi (undef), gi (undef), gi (.bool false), gi (.bool false)] ⟨gi_stable, gi_stable, gi_stable, gi_stable, gi_stable, gi_stable, gi_stable, gi_stable, gi_stable, gi_stable, gi_stable, gi_stable, gi_stable, gi_stable, gi_stable, gi_stable, gi_stable, gi_stable, gi_stable, gi_stable, gi_stable, gi_stable, gi_stable, gi_stable, gi_stable, gi_stable, gi_stable, gi_stable, gi_stable, gi_stable, gi_stable, gi_stable, gi_stable, gi_stable, gi_stable, trivial⟩ [] (by kernel_rfl) (by decide) (by kernel_rfl) (fun _ _ => True) (fun _ _ _ _ _ => trivial) trivial ⟨?_, ?_, ?_, ?_, ?_, ?_, ?_, ?_, ?_, ?_, ?_, ?_, ?_, ?_, ?_, ?_, ?_, ?_, ?_, ?_, ?_, ?_, ?_, ?_, ?_, ?_, ?_, ?_, ?_, ?_, ?_, ?_, ?_, ?_, ?_, trivial⟩ ?_
            · intro tr act w' hm hout hsz hd hG hk hub
              refine jg_run (by rfl) rfl (wanted_none rfl) (ex_field rfl Try.underlying32 rfl (by kernel_rfl) ((hout 3 (by decide)).trans oe3)) (Mod.refl _ _) ?_
              rfl
            · intro tr act w' hm hout hsz hd hG hk hub
              have h0 := hd ⟨0, .data⟩ (by simp) rfl _ rfl
              refine jg_run (by rfl) rfl (wanted_none rfl) (ex_field rfl Try.underlying26 rfl (by kernel_rfl) h0) (Mod.refl _ _) ?_
              rfl
            · intro tr act w' hm hout hsz hd hG hk hub
              have h1 := hd ⟨1, .data⟩ (by simp) rfl _ rfl
              exact jg_run (by rfl) rfl (wanted_none rfl) (ex_load1 rfl Try.underlying3 rfl h1 ((KX.out.mod hm (fun h => h)).c0)) (Mod.refl _ _) rfl
            · intro tr act w' hm hout hsz hd hG hk hub
              have h2 := hd ⟨2, .data⟩ (by simp) rfl _ rfl
              refine jg_run (by rfl) rfl (wanted_none rfl) (ex_bin rfl h2 rfl (guard_ints _ _ _ _ _ _) (run_geq_i _ _ _ Try.underlying3)) (Mod.refl _ _) ?_
              exact congrArg Value.bool E0.out
            · intro tr act w' hm hout hsz hd hG hk hub
              have h3 := hd ⟨3, .data⟩ (by simp) rfl _ rfl
              exact jg_run (by rfl) rfl (wanted_none rfl) (ex_move rfl h3) (Mod.refl _ _) rfl
            · intro tr act w' hm hout hsz hd hG hk hub
              have h4 := hd ⟨4, .guard⟩ (by simp) rfl _ rfl
              refine jg_run (by rfl) rfl ((wanted_of rfl rfl (hsz 9 (by decide)) h4).trans rfl) (ex_field rfl Try.underlying32 rfl (by kernel_rfl) ((hout 3 (by decide)).trans oe3)) (Mod.refl _ _) ?_
              rfl
            · intro tr act w' hm hout hsz hd hG hk hub
              have h4 := hd ⟨4, .guard⟩ (by simp) rfl _ rfl
              have h5 := hd ⟨5, .data⟩ (by simp) rfl _ rfl
              refine jg_run (by rfl) rfl ((wanted_of rfl rfl (hsz 9 (by decide)) h4).trans rfl) (ex_field rfl Try.underlying26 rfl (by kernel_rfl) h5) (Mod.refl _ _) ?_
              rfl
            · intro tr act w' hm hout hsz hd hG hk hub
              have h4 := hd ⟨4, .guard⟩ (by simp) rfl _ rfl
              have h6 := hd ⟨6, .data⟩ (by simp) rfl _ rfl
              exact jg_run (by rfl) rfl ((wanted_of rfl rfl (hsz 9 (by decide)) h4).trans rfl) (ex_load1 rfl Try.underlying3 rfl h6 ((KX.out.mod hm (fun h => h)).c0)) (Mod.refl _ _) rfl
            · intro tr act w' hm hout hsz hd hG hk hub
              have h4 := hd ⟨4, .guard⟩ (by simp) rfl _ rfl
              refine jg_run (by rfl) rfl ((wanted_of rfl rfl (hsz 9 (by decide)) h4).trans rfl) (ex_field rfl Try.underlying24 rfl (by kernel_rfl) ((hout 2 (by decide)).trans oe2)) (Mod.refl _ _) ?_
              rfl
            · intro tr act w' hm hout hsz hd hG hk hub
              have h4 := hd ⟨4, .guard⟩ (by simp) rfl _ rfl
              have h8 := hd ⟨8, .data⟩ (by simp) rfl _ rfl
              exact jg_run (by rfl) rfl ((wanted_of rfl rfl (hsz 9 (by decide)) h4).trans rfl) (ex_load1 rfl Try.underlying3 rfl h8 (by rw [(KF.out.mod hm (fun h => h)).cell]; rfl)) (Mod.refl _ _) rfl
            · intro tr act w' hm hout hsz hd hG hk hub
              have h4 := hd ⟨4, .guard⟩ (by simp) rfl _ rfl
              have h7 := hd ⟨7, .data⟩ (by simp) rfl _ rfl
              have h9 := hd ⟨9, .data⟩ (by simp) rfl _ rfl
              refine jg_run (by rfl) rfl ((wanted_of rfl rfl (hsz 9 (by decide)) h4).trans rfl) (ex_bin rfl h7 h9 (guard_ints _ _ _ _ _ _) (run_lss_i _ _ _ Try.underlying3)) (Mod.refl _ _) ?_
              exact congrArg Value.bool E1.out
            · intro tr act w' hm hout hsz hd hG hk hub
              have h4 := hd ⟨4, .data⟩ (by simp) rfl _ rfl
              have h10 := hd ⟨10, .data⟩ (by simp) rfl _ rfl
              exact jg_run (by rfl) rfl (wanted_none rfl) (ex_pick rfl h4 h10 rfl) (Mod.refl _ _) rfl
            · intro tr act w' hm hout hsz hd hG hk hub
              have h11 := hd ⟨11, .data⟩ (by simp) rfl _ rfl
              exact jg_run (by rfl) rfl (wanted_none rfl) (ex_move rfl h11) (Mod.refl _ _) rfl
            · intro tr act w' hm hout hsz hd hG hk hub
              have h12 := hd ⟨12, .guard⟩ (by simp) rfl _ rfl
              refine jg_run (by rfl) rfl ((wanted_of rfl rfl (hsz 17 (by decide)) h12).trans rfl) (ex_field rfl Try.underlying32 rfl (by kernel_rfl) ((hout 3 (by decide)).trans oe3)) (Mod.refl _ _) ?_
              rfl
            · intro tr act w' hm hout hsz hd hG hk hub
              have h12 := hd ⟨12, .guard⟩ (by simp) rfl _ rfl
              have h13 := hd ⟨13, .data⟩ (by simp) rfl _ rfl
              refine jg_run (by rfl) rfl ((wanted_of rfl rfl (hsz 17 (by decide)) h12).trans rfl) (ex_field rfl Try.underlying26 rfl (by kernel_rfl) h13) (Mod.refl _ _) ?_
              rfl
            · intro tr act w' hm hout hsz hd hG hk hub
              have h12 := hd ⟨12, .guard⟩ (by simp) rfl _ rfl
              have h14 := hd ⟨14, .data⟩ (by simp) rfl _ rfl
              exact jg_run (by rfl) rfl ((wanted_of rfl rfl (hsz 17 (by decide)) h12).trans rfl) (ex_load1 rfl Try.underlying3 rfl h14 ((KX.out.mod hm (fun h => h)).c1)) (Mod.refl _ _) rfl
            · intro tr act w' hm hout hsz hd hG hk hub
              have h12 := hd ⟨12, .guard⟩ (by simp) rfl _ rfl
              have h15 := hd ⟨15, .data⟩ (by simp) rfl _ rfl
              refine jg_run (by rfl) rfl ((wanted_of rfl rfl (hsz 17 (by decide)) h12).trans rfl) (ex_bin rfl h15 rfl (guard_ints _ _ _ _ _ _) (run_geq_i _ _ _ Try.underlying3)) (Mod.refl _ _) ?_
              exact congrArg Value.bool E2.out
            · intro tr act w' hm hout hsz hd hG hk hub
              have h12 := hd ⟨12, .data⟩ (by simp) rfl _ rfl
              have h16 := hd ⟨16, .data⟩ (by simp) rfl _ rfl
              exact jg_run (by rfl) rfl (wanted_none rfl) (ex_pick rfl h12 h16 rfl) (Mod.refl _ _) rfl
            · intro tr act w' hm hout hsz hd hG hk hub
              have h17 := hd ⟨17, .data⟩ (by simp) rfl _ rfl
              exact jg_run (by rfl) rfl (wanted_none rfl) (ex_move rfl h17) (Mod.refl _ _) rfl
            · intro tr act w' hm hout hsz hd hG hk hub
              have h18 := hd ⟨18, .guard⟩ (by simp) rfl _ rfl
              refine jg_run (by rfl) rfl ((wanted_of rfl rfl (hsz 23 (by decide)) h18).trans rfl) (ex_field rfl Try.underlying32 rfl (by kernel_rfl) ((hout 3 (by decide)).trans oe3)) (Mod.refl _ _) ?_
              rfl
            · intro tr act w' hm hout hsz hd hG hk hub
              have h18 := hd ⟨18, .guard⟩ (by simp) rfl _ rfl
              have h19 := hd ⟨19, .data⟩ (by simp) rfl _ rfl
              refine jg_run (by rfl) rfl ((wanted_of rfl rfl (hsz 23 (by decide)) h18).trans rfl) (ex_field rfl Try.underlying26 rfl (by kernel_rfl) h19) (Mod.refl _ _) ?_
              rfl
            · intro tr act w' hm hout hsz hd hG hk hub
              have h18 := hd ⟨18, .guard⟩ (by simp) rfl _ rfl
              have h20 := hd ⟨20, .data⟩ (by simp) rfl _ rfl
              exact jg_run (by rfl) rfl ((wanted_of rfl rfl (hsz 23 (by decide)) h18).trans rfl) (ex_load1 rfl Try.underlying3 rfl h20 ((KX.out.mod hm (fun h => h)).c1)) (Mod.refl _ _) rfl
            · intro tr act w' hm hout hsz hd hG hk hub
              have h18 := hd ⟨18, .guard⟩ (by simp) rfl _ rfl
              have h21 := hd ⟨21, .data⟩ (by simp) rfl _ rfl
              refine jg_run (by rfl) rfl ((wanted_of rfl rfl (hsz 23 (by decide)) h18).trans rfl) (ex_bin rfl h21 rfl (guard_ints _ _ _ _ _ _) (run_leq_i _ _ _ Try.underlying3)) (Mod.refl _ _) ?_
              exact congrArg Value.bool E3.out
            · intro tr act w' hm hout hsz hd hG hk hub
              have h18 := hd ⟨18, .data⟩ (by simp) rfl _ rfl
              have h22 := hd ⟨22, .data⟩ (by simp) rfl _ rfl
              exact jg_run (by rfl) rfl (wanted_none rfl) (ex_pick rfl h18 h22 rfl) (Mod.refl _ _) rfl
            · intro tr act w' hm hout hsz hd hG hk hub
              have h23 := hd ⟨23, .data⟩ (by simp) rfl _ rfl
              exact jg_run (by rfl) rfl (wanted_none rfl) (ex_move rfl h23) (Mod.refl _ _) rfl
            · intro tr act w' hm hout hsz hd hG hk hub
              have h24 := hd ⟨24, .guard⟩ (by simp) rfl _ rfl
              refine jg_run (by rfl) rfl ((wanted_of rfl rfl (hsz 29 (by decide)) h24).trans rfl) (ex_field rfl Try.underlying32 rfl (by kernel_rfl) ((hout 3 (by decide)).trans oe3)) (Mod.refl _ _) ?_
              rfl
            · intro tr act w' hm hout hsz hd hG hk hub
              have h24 := hd ⟨24, .guard⟩ (by simp) rfl _ rfl
              have h25 := hd ⟨25, .data⟩ (by simp) rfl _ rfl
              exact jg_run (by rfl) rfl ((wanted_of rfl rfl (hsz 29 (by decide)) h24).trans rfl) (ex_load1 rfl Try.underlying3 rfl h25 ((KX.out.mod hm (fun h => h)).c34 HL.out)) (Mod.refl _ _) rfl
            · intro tr act w' hm hout hsz hd hG hk hub
              have h24 := hd ⟨24, .guard⟩ (by simp) rfl _ rfl
              have h26 := hd ⟨26, .data⟩ (by simp) rfl _ rfl
              refine jg_run (by rfl) rfl ((wanted_of rfl rfl (hsz 29 (by decide)) h24).trans rfl) (ex_bin rfl h26 rfl (guard_ints _ _ _ _ _ _) (run_geq_i _ _ _ Try.underlying3)) (Mod.refl _ _) ?_
              exact congrArg Value.bool E4.out
            · intro tr act w' hm hout hsz hd hG hk hub
              have h24 := hd ⟨24, .data⟩ (by simp) rfl _ rfl
              have h27 := hd ⟨27, .data⟩ (by simp) rfl _ rfl
              exact jg_run (by rfl) rfl (wanted_none rfl) (ex_pick rfl h24 h27 rfl) (Mod.refl _ _) rfl
            · intro tr act w' hm hout hsz hd hG hk hub
              have h28 := hd ⟨28, .data⟩ (by simp) rfl _ rfl
              exact jg_run (by rfl) rfl (wanted_none rfl) (ex_move rfl h28) (Mod.refl _ _) rfl
            · intro tr act w' hm hout hsz hd hG hk hub
              have h29 := hd ⟨29, .guard⟩ (by simp) rfl _ rfl
              exact jg_skip (fun _ _ _ h => h) (by rfl) rfl ((wanted_of rfl rfl (hsz 34 (by decide)) h29).trans rfl) rfl
            · intro tr act w' hm hout hsz hd hG hk hub
              have h29 := hd ⟨29, .guard⟩ (by simp) rfl _ rfl
              exact jg_skip (fun _ _ _ h => h) (by rfl) rfl ((wanted_of rfl rfl (hsz 34 (by decide)) h29).trans rfl) rfl
            · intro tr act w' hm hout hsz hd hG hk hub
              have h29 := hd ⟨29, .guard⟩ (by simp) rfl _ rfl
              exact jg_skip (fun _ _ _ h => h) (by rfl) rfl ((wanted_of rfl rfl (hsz 34 (by decide)) h29).trans rfl) rfl
            · intro tr act w' hm hout hsz hd hG hk hub
              have h29 := hd ⟨29, .data⟩ (by simp) rfl _ rfl
              have h32 := hd ⟨32, .data⟩ (by simp) rfl _ rfl
              exact jg_run (by rfl) rfl (wanted_none rfl) (ex_pick rfl h29 h32 rfl) (Mod.refl _ _) rfl
            · intro tr act w' hm hout hsz hd hG hk hub
              have h33 := hd ⟨33, .data⟩ (by simp) rfl _ rfl
              exact jg_run (by rfl) rfl (wanted_none rfl) (ex_assign rfl h33) (Mod.refl _ _) rfl
            intro vs tr w3 hl htl hm hG hV
            obtain ⟨v0, vs0, rfl, hl0⟩ := list_cons hl
            obtain ⟨v1, vs1, rfl, hl1⟩ := list_cons hl0
            obtain ⟨v2, vs2, rfl, hl2⟩ := list_cons hl1
            obtain ⟨v3, vs3, rfl, hl3⟩ := list_cons hl2
            obtain ⟨v4, vs4, rfl, hl4⟩ := list_cons hl3
            obtain ⟨v5, vs5, rfl, hl5⟩ := list_cons hl4
            obtain ⟨v6, vs6, rfl, hl6⟩ := list_cons hl5
            obtain ⟨v7, vs7, rfl, hl7⟩ := list_cons hl6
            obtain ⟨v8, vs8, rfl, hl8⟩ := list_cons hl7
            obtain ⟨v9, vs9, rfl, hl9⟩ := list_cons hl8
            obtain ⟨v10, vs10, rfl, hl10⟩ := list_cons hl9
            obtain ⟨v11, vs11, rfl, hl11⟩ := list_cons hl10
            obtain ⟨v12, vs12, rfl, hl12⟩ := list_cons hl11
            obtain ⟨v13, vs13, rfl, hl13⟩ := list_cons hl12
            obtain ⟨v14, vs14, rfl, hl14⟩ := list_cons hl13
            obtain ⟨v15, vs15, rfl, hl15⟩ := list_cons hl14
            obtain ⟨v16, vs16, rfl, hl16⟩ := list_cons hl15
            obtain ⟨v17, vs17, rfl, hl17⟩ := list_cons hl16
            obtain ⟨v18, vs18, rfl, hl18⟩ := list_cons hl17
            obtain ⟨v19, vs19, rfl, hl19⟩ := list_cons hl18
            obtain ⟨v20, vs20, rfl, hl20⟩ := list_cons hl19
            obtain ⟨v21, vs21, rfl, hl21⟩ := list_cons hl20
            obtain ⟨v22, vs22, rfl, hl22⟩ := list_cons hl21
            obtain ⟨v23, vs23, rfl, hl23⟩ := list_cons hl22
            obtain ⟨v24, vs24, rfl, hl24⟩ := list_cons hl23
            obtain ⟨v25, vs25, rfl, hl25⟩ := list_cons hl24
            obtain ⟨v26, vs26, rfl, hl26⟩ := list_cons hl25
            obtain ⟨v27, vs27, rfl, hl27⟩ := list_cons hl26
            obtain ⟨v28, vs28, rfl, hl28⟩ := list_cons hl27
            obtain ⟨v29, vs29, rfl, hl29⟩ := list_cons hl28
            obtain ⟨v30, vs30, rfl, hl30⟩ := list_cons hl29
            obtain ⟨v31, vs31, rfl, hl31⟩ := list_cons hl30
            obtain ⟨v32, vs32, rfl, hl32⟩ := list_cons hl31
            obtain ⟨v33, vs33, rfl, hl33⟩ := list_cons hl32
            obtain ⟨v34, vs34, rfl, hl34⟩ := list_cons hl33
            obtain rfl := list_nil hl34
            clear hl hl0 hl1 hl2 hl3 hl4 hl5 hl6 hl7 hl8 hl9 hl10 hl11 hl12 hl13 hl14 hl15 hl16 hl17 hl18 hl19 hl20 hl21 hl22 hl23 hl24 hl25 hl26 hl27 hl28 hl29 hl30 hl31 hl32 hl33 hl34
            obtain rfl : v34 = .bool false := hV 34 _ rfl
            have ha0 := HA0.out
            subst ha0
            clear HA0 hV hsz0 oe2 oe3
            simp only [putAll, Act.put, List.setIfInBounds_toArray, List.set_cons_zero, List.set_cons_succ]
            have KM3 := Lib.hid (KM.out.trans hm (fun _ _ h => h))
            clear hm hG
            go_wp2
            go_ret
            exact ⟨congrArg (fun z => Ending.returned (Value.bool z)) (show false = validF k c by unfold validF; (simp only [E0.out, E1.out, E2.out, E3.out, E4.out, Bool.false_and, Bool.true_and] <;> rfl)), KM3.out⟩
        · have E3 := Lib.hid (decide_eq_false c3)
          clear c3
          generalize ha0 : Act.mk _ _ = a0
          have oe2 : a0.eval (.tmp 2) = .pointer (some ⟨w.heap.size, 0, none⟩) := by rw [← ha0]; rfl
          have oe3 : a0.eval (.tmp 3) = .pointer (some ⟨w.heap.size + 1, 0, none⟩) := by rw [← ha0]; rfl
          have hsz0 : a0.tmps.size = 39 := by rw [← ha0]; rfl
          have HA0 := Lib.hid ha0
          clear ha0
          refine wp_region_G 39 hsz0 (by kernel_rfl) (by kernel_rfl) [5, 6, 7, 8, 9, 10, 11, 12, 13, 14, 15, 16, 17, 18, 19, 20, 21, 22, 23, 24, 25, 26, 27, 28, 29, 30, 31, 32, 33, 34, 35, 36, 37, 38, 4] (by kernel_rfl) (by decide) (fun _ => False) (fun _ _ => False) (fun _ _ h => h) Still (fun _ _ _ h => h) (fun _ _ _ hm h => hm.trans h (fun _ _ h => h.elim)) [gi (.pointer (some ⟨w.heap.size + 1, 0, none⟩)), gi (.pointer (some ⟨w.heap.size + 1, 0, none⟩)), gi (.int .i64 c.cl), gi (.bool true), gi (.bool true), gi (.pointer (some ⟨w.heap.size + 1, 0, none⟩)), gi (.pointer (some ⟨w.heap.size + 1, 0, none⟩)), gi (.int .i64 c.cl), gi (.pointer (some ⟨w.heap.size, 1, none⟩)), gi (.int .i64 k), gi (.bool true), gi (.bool true), gi (.bool true), gi (.pointer (some ⟨w.heap.size + 1, 0, none⟩)), gi (.pointer (some ⟨w.heap.size + 1, 1, none⟩)), gi (.int .i64 c.sq), gi (.bool true), gi (.bool true), gi (.bool true), gi (.pointer (some ⟨w.heap.size + 1, 0, none⟩)), gi (.pointer (some ⟨w.heap.size + 1, 1, none⟩)), gi (.int .i64 c.sq), gi (.bool false), gi (.bool false), gi (.bool false), gi (undef), gi (undef), gi (undef), gi (.bool false), gi (.bool false), gi (undef), gi (undef), gi (undef), gi (.bool false), gi (.bool false)] ⟨gi_stable, gi_stable, gi_stable, gi_stable, gi_stable, gi_stable, gi_stable, gi_stable, gi_stable, gi_stable, gi_stable, gi_stable, gi_stable, gi_stable, gi_stable, gi_stable, gi_stable, gi_stable, gi_stable, gi_stable, gi_stable, gi_stable, gi_stable, gi_stable, gi_stable, gi_stable, gi_stable, gi_stable, gi_stable, gi_stable, gi_stable, gi_stable, gi_stable, gi_stable, gi_stable, trivial⟩ [] (by kernel_rfl) (by decide) (by kernel_rfl) (fun _ _ => True) (fun _ _ _ _ _ => trivial) trivial ⟨?_, ?_, ?_, ?_, ?_, ?_, ?_, ?_, ?_, ?_, ?_, ?_, ?_, ?_, ?_, ?_, ?_, ?_, ?_, ?_, ?_, ?_, ?_, ?_, ?_, ?_, ?_, ?_, ?_, ?_, ?_, ?_, ?_, ?_, ?_, trivial⟩ ?_
          · intro tr act w' hm hout hsz hd hG hk hub
            refine jg_run (by rfl) rfl (wanted_none rfl) (ex_field rfl Try.underlying32 rfl (by kernel_rfl) ((hout 3 (by decide)).trans oe3)) (Mod.refl _ _) ?_
            rfl
          · intro tr act w' hm hout hsz hd hG hk hub
            have h0 := hd ⟨0, .data⟩ (by simp) rfl _ rfl
            refine jg_run (by rfl) rfl (wanted_none rfl) (ex_field rfl Try.underlying26 rfl (by kernel_rfl) h0) (Mod.refl _ _) ?_
            rfl
          · intro tr act w' hm hout hsz hd hG hk hub
            have h1 := hd ⟨1, .data⟩ (by simp) rfl _ rfl
            exact jg_run (by rfl) rfl (wanted_none rfl) (ex_load1 rfl Try.underlying3 rfl h1 ((KX.out.mod hm (fun h => h)).c0)) (Mod.refl _ _) rfl
          · intro tr act w' hm hout hsz hd hG hk hub
            have h2 := hd ⟨2, .data⟩ (by simp) rfl _ rfl
            refine jg_run (by rfl) rfl (wanted_none rfl) (ex_bin rfl h2 rfl (guard_ints _ _ _ _ _ _) (run_geq_i _ _ _ Try.underlying3)) (Mod.refl _ _) ?_
            exact congrArg Value.bool E0.out
          · intro tr act w' hm hout hsz hd hG hk hub
            have h3 := hd ⟨3, .data⟩ (by simp) rfl _ rfl
            exact jg_run (by rfl) rfl (wanted_none rfl) (ex_move rfl h3) (Mod.refl _ _) rfl
          · intro tr act w' hm hout hsz hd hG hk hub
            have h4 := hd ⟨4, .guard⟩ (by simp) rfl _ rfl
            refine jg_run (by rfl) rfl ((wanted_of rfl rfl (hsz 9 (by decide)) h4).trans rfl) (ex_field rfl Try.underlying32 rfl (by kernel_rfl) ((hout 3 (by decide)).trans oe3)) (Mod.refl _ _) ?_
            rfl
          · intro tr act w' hm hout hsz hd hG hk hub
            have h4 := hd ⟨4, .guard⟩ (by simp) rfl _ rfl
            have h5 := hd ⟨5, .data⟩ (by simp) rfl _ rfl
            refine jg_run (by rfl) rfl ((wanted_of rfl rfl (hsz 9 (by decide)) h4).trans rfl) (ex_field rfl Try.underlying26 rfl (by kernel_rfl) h5) (Mod.refl _ _) ?_
            rfl
          · intro tr act w' hm hout hsz hd hG hk hub
            have h4 := hd ⟨4, .guard⟩ (by simp) rfl _ rfl
            have h6 := hd ⟨6, .data⟩ (by simp) rfl _ rfl
            exact jg_run (by rfl) rfl ((wanted_of rfl rfl (hsz 9 (by decide)) h4).trans rfl) (ex_load1 rfl Try.underlying3 rfl h6 ((KX.out.mod hm (fun h => h)).c0)) (Mod.refl _ _) rfl
          · intro tr act w' hm hout hsz hd hG hk hub
            have h4 := hd ⟨4, .guard⟩ (by simp) rfl _ rfl
            refine jg_run (by rfl) rfl ((wanted_of rfl rfl (hsz 9 (by decide)) h4).trans rfl) (ex_field rfl Try.underlying24 rfl (by kernel_rfl) ((hout 2 (by decide)).trans oe2)) (Mod.refl _ _) ?_
            rfl
          · intro tr act w' hm hout hsz hd hG hk hub
            have h4 := hd ⟨4, .guard⟩ (by simp) rfl _ rfl
            have h8 := hd ⟨8, .data⟩ (by simp) rfl _ rfl
            exact jg_run (by rfl) rfl ((wanted_of rfl rfl (hsz 9 (by decide)) h4).trans rfl) (ex_load1 rfl Try.underlying3 rfl h8 (by rw [(KF.out.mod hm (fun h => h)).cell]; rfl)) (Mod.refl _ _) rfl
          · intro tr act w' hm hout hsz hd hG hk hub
            have h4 := hd ⟨4, .guard⟩ (by simp) rfl _ rfl
            have h7 := hd ⟨7, .data⟩ (by simp) rfl _ rfl
            have h9 := hd ⟨9, .data⟩ (by simp) rfl _ rfl
            refine jg_run (by rfl) rfl ((wanted_of rfl rfl (hsz 9 (by decide)) h4).trans rfl) (ex_bin rfl h7 h9 (guard_ints _ _ _ _ _ _) (run_lss_i _ _ _ Try.underlying3)) (Mod.refl _ _) ?_
            exact congrArg Value.bool E1.out
          · intro tr act w' hm hout hsz hd hG hk hub
            have h4 := hd ⟨4, .data⟩ (by simp) rfl _ rfl
            have h10 := hd ⟨10, .data⟩ (by simp) rfl _ rfl
            exact jg_run (by rfl) rfl (wanted_none rfl) (ex_pick rfl h4 h10 rfl) (Mod.refl _ _) rfl
          · intro tr act w' hm hout hsz hd hG hk hub
            have h11 := hd ⟨11, .data⟩ (by simp) rfl _ rfl
            exact jg_run (by rfl) rfl (wanted_none rfl) (ex_move rfl h11) (Mod.refl _ _) rfl
          · intro tr act w' hm hout hsz hd hG hk hub
            have h12 := hd ⟨12, .guard⟩ (by simp) rfl _ rfl
            refine jg_run (by rfl) rfl ((wanted_of rfl rfl (hsz 17 (by decide)) h12).trans rfl) (ex_field rfl Try.underlying32 rfl (by kernel_rfl) ((hout 3 (by decide)).trans oe3)) (Mod.refl _ _) ?_
            rfl
          · intro tr act w' hm hout hsz hd hG hk hub
            have h12 := hd ⟨12, .guard⟩ (by simp) rfl _ rfl
            have h13 := hd ⟨13, .data⟩ (by simp) rfl _ rfl
            refine jg_run (by rfl) rfl ((wanted_of rfl rfl (hsz 17 (by decide)) h12).trans rfl) (ex_field rfl Try.underlying26 rfl (by kernel_rfl) h13) (Mod.refl _ _) ?_
            rfl
          · intro tr act w' hm hout hsz hd hG hk hub
            have h12 := hd ⟨12, .guard⟩ (by simp) rfl _ rfl
            have h14 := hd ⟨14, .data⟩ (by simp) rfl _ rfl
            exact jg_run (by rfl) rfl ((wanted_of rfl rfl (hsz 17 (by decide)) h12).trans rfl) (ex_load1 rfl Try.underlying3 rfl h14 ((KX.out.mod hm (fun h => h)).c1)) (Mod.refl _ _) rfl
          · intro tr act w' hm hout hsz hd hG hk hub
            have h12 := hd ⟨12, .guard⟩ (by simp) rfl _ rfl
            have h15 := hd ⟨15, .data⟩ (by simp) rfl _ rfl
            refine jg_run (by rfl) rfl ((wanted_of rfl rfl (hsz 17 (by decide)) h12).trans rfl) (ex_bin rfl h15 rfl (guard_ints _ _ _ _ _ _) (run_geq_i _ _ _ Try.underlying3)) (Mod.refl _ _) ?_
            exact congrArg Value.bool E2.out
          · intro tr act w' hm hout hsz hd hG hk hub
            have h12 := hd ⟨12, .data⟩ (by simp) rfl _ rfl
            have h16 := hd ⟨16, .data⟩ (by simp) rfl _ rfl
            exact jg_run (by rfl) rfl (wanted_none rfl) (ex_pick rfl h12 h16 rfl) (Mod.refl _ _) rfl
          · intro tr act w' hm hout hsz hd hG hk hub
            have h17 := hd ⟨17, .data⟩ (by simp) rfl _ rfl
            exact jg_run (by rfl) rfl (wanted_none rfl) (ex_move rfl h17) (Mod.refl _ _) rfl
          · intro tr act w' hm hout hsz hd hG hk hub
            have h18 := hd ⟨18, .guard⟩ (by simp) rfl _ rfl
            refine jg_run (by rfl) rfl ((wanted_of rfl rfl (hsz 23 (by decide)) h18).trans rfl) (ex_field rfl Try.underlying32 rfl (by kernel_rfl) ((hout 3 (by decide)).trans oe3)) (Mod.refl _ _) ?_
            rfl
          · intro tr act w' hm hout hsz hd hG hk hub
            have h18 := hd ⟨18, .guard⟩ (by simp) rfl _ rfl
            have h19 := hd ⟨19, .data⟩ (by simp) rfl _ rfl
            refine jg_run (by rfl) rfl ((wanted_of rfl rfl (hsz 23 (by decide)) h18).trans rfl) (ex_field rfl Try.underlying26 rfl (by kernel_rfl) h19) (Mod.refl _ _) ?_
            rfl
          · intro tr act w' hm hout hsz hd hG hk hub
            have h18 := hd ⟨18, .guard⟩ (by simp) rfl _ rfl
            have h20 := hd ⟨20, .data⟩ (by simp) rfl _ rfl
            exact jg_run (by rfl) rfl ((wanted_of rfl rfl (hsz 23 (by decide)) h18).trans rfl) (ex_load1 rfl Try.underlying3 rfl h20 ((KX.out.mod hm (fun h => h)).c1)) (Mod.refl _ _) rfl
          · intro tr act w' hm hout hsz hd hG hk hub
            have h18 := hd ⟨18, .guard⟩ (by simp) rfl _ rfl
            have h21 := hd ⟨21, .data⟩ (by simp) rfl _ rfl
            refine jg_run (by rfl) rfl ((wanted_of rfl rfl (hsz 23 (by decide)) h18).trans rfl) (ex_bin rfl h21 rfl (guard_ints _ _ _ _ _ _) (run_leq_i _ _ _ Try.underlying3)) (Mod.refl _ _) ?_
            exact congrArg Value.bool E3.out
          · intro tr act w' hm hout hsz hd hG hk hub
            have h18 := hd ⟨18, .data⟩ (by simp) rfl _ rfl
            have h22 := hd ⟨22, .data⟩ (by simp) rfl _ rfl
            exact jg_run (by rfl) rfl (wanted_none rfl) (ex_pick rfl h18 h22 rfl) (Mod.refl _ _) rfl
          · intro tr act w' hm hout hsz hd hG hk hub
            have h23 := hd ⟨23, .data⟩ (by simp) rfl _ rfl
            exact jg_run (by rfl) rfl (wanted_none rfl) (ex_move rfl h23) (Mod.refl _ _) rfl
          · intro tr act w' hm hout hsz hd hG hk hub
            have h24 := hd ⟨24, .guard⟩ (by simp) rfl _ rfl
            exact jg_skip (fun _ _ _ h => h) (by rfl) rfl ((wanted_of rfl rfl (hsz 29 (by decide)) h24).trans rfl) rfl
          · intro tr act w' hm hout hsz hd hG hk hub
            have h24 := hd ⟨24, .guard⟩ (by simp) rfl _ rfl
            exact jg_skip (fun _ _ _ h => h) (by rfl) rfl ((wanted_of rfl rfl (hsz 29 (by decide)) h24).trans rfl) rfl
          · intro tr act w' hm hout hsz hd hG hk hub
            have h24 := hd ⟨24, .guard⟩ (by simp) rfl _ rfl
            exact jg_skip (fun _ _ _ h => h) (by rfl) rfl ((wanted_of rfl rfl (hsz 29 (by decide)) h24).trans rfl) rfl
          · intro tr act w' hm hout hsz hd hG hk hub
            have h24 := hd ⟨24, .data⟩ (by simp) rfl _ rfl
            have h27 := hd ⟨27, .data⟩ (by simp) rfl _ rfl
            exact jg_run (by rfl) rfl (wanted_none rfl) (ex_pick rfl h24 h27 rfl) (Mod.refl _ _) rfl
          · intro tr act w' hm hout hsz hd hG hk hub
            have h28 := hd ⟨28, .data⟩ (by simp) rfl _ rfl
            exact jg_run (by rfl) rfl (wanted_none rfl) (ex_move rfl h28) (Mod.refl _ _) rfl
          · intro tr act w' hm hout hsz hd hG hk hub
            have h29 := hd ⟨29, .guard⟩ (by simp) rfl _ rfl
            exact jg_skip (fun _ _ _ h => h) (by rfl) rfl ((wanted_of rfl rfl (hsz 34 (by decide)) h29).trans rfl) rfl
          · intro tr act w' hm hout hsz hd hG hk hub
            have h29 := hd ⟨29, .guard⟩ (by simp) rfl _ rfl
            exact jg_skip (fun _ _ _ h => h) (by rfl) rfl ((wanted_of rfl rfl (hsz 34 (by decide)) h29).trans rfl) rfl
          · intro tr act w' hm hout hsz hd hG hk hub
            have h29 := hd ⟨29, .guard⟩ (by simp) rfl _ rfl
            exact jg_skip (fun _ _ _ h => h) (by rfl) rfl ((wanted_of rfl rfl (hsz 34 (by decide)) h29).trans rfl) rfl
          · intro tr act w' hm hout hsz hd hG hk hub
            have h29 := hd ⟨29, .data⟩ (by simp) rfl _ rfl
            have h32 := hd ⟨32, .data⟩ (by simp) rfl _ rfl
            exact jg_run (by rfl) rfl (wanted_none rfl) (ex_pick rfl h29 h32 rfl) (Mod.refl _ _) rfl
          · intro tr act w' hm hout hsz hd hG hk hub
            have h33 := hd ⟨33, .data⟩ (by simp) rfl _ rfl
            exact jg_run (by rfl) rfl (wanted_none rfl) (ex_assign rfl h33) (Mod.refl _ _) rfl
          intro vs tr w3 hl htl hm hG hV
          obtain ⟨v0, vs0, rfl, hl0⟩ := list_cons hl
          obtain ⟨v1, vs1, rfl, hl1⟩ := list_cons hl0
          obtain ⟨v2, vs2, rfl, hl2⟩ := list_cons hl1
          obtain ⟨v3, vs3, rfl, hl3⟩ := list_cons hl2
          obtain ⟨v4, vs4, rfl, hl4⟩ := list_cons hl3
          obtain ⟨v5, vs5, rfl, hl5⟩ := list_cons hl4
          obtain ⟨v6, vs6, rfl, hl6⟩ := list_cons hl5
          obtain ⟨v7, vs7, rfl, hl7⟩ := list_cons hl6
          obtain ⟨v8, vs8, rfl, hl8⟩ := list_cons hl7
          obtain ⟨v9, vs9, rfl, hl9⟩ := list_cons hl8
          obtain ⟨v10, vs10, rfl, hl10⟩ := list_cons hl9
          obtain ⟨v11, vs11, rfl, hl11⟩ := list_cons hl10
          obtain ⟨v12, vs12, rfl, hl12⟩ := list_cons hl11
          obtain ⟨v13, vs13, rfl, hl13⟩ := list_cons hl12
          obtain ⟨v14, vs14, rfl, hl14⟩ := list_cons hl13
          obtain ⟨v15, vs15, rfl, hl15⟩ := list_cons hl14
          obtain ⟨v16, vs16, rfl, hl16⟩ := list_cons hl15
          obtain ⟨v17, vs17, rfl, hl17⟩ := list_cons hl16
          obtain ⟨v18, vs18, rfl, hl18⟩ := list_cons hl17
          obtain ⟨v19, vs19, rfl, hl19⟩ := list_cons hl18
          obtain ⟨v20, vs20, rfl, hl20⟩ := list_cons hl19
          obtain ⟨v21, vs21, rfl, hl21⟩ := list_cons hl20
          obtain ⟨v22, vs22, rfl, hl22⟩ := list_cons hl21
          obtain ⟨v23, vs23, rfl, hl23⟩ := list_cons hl22
          obtain ⟨v24, vs24, rfl, hl24⟩ := list_cons hl23
          obtain ⟨v25, vs25, rfl, hl25⟩ := list_cons hl24
          obtain ⟨v26, vs26, rfl, hl26⟩ := list_cons hl25
          obtain ⟨v27, vs27, rfl, hl27⟩ := list_cons hl26
          obtain ⟨v28, vs28, rfl, hl28⟩ := list_cons hl27
          obtain ⟨v29, vs29, rfl, hl29⟩ := list_cons hl28
          obtain ⟨v30, vs30, rfl, hl30⟩ := list_cons hl29
          obtain ⟨v31, vs31, rfl, hl31⟩ := list_cons hl30
          obtain ⟨v32, vs32, rfl, hl32⟩ := list_cons hl31
          obtain ⟨v33, vs33, rfl, hl33⟩ := list_cons hl32
          obtain ⟨v34, vs34, rfl, hl34⟩ := list_cons hl33
          obtain rfl := list_nil hl34
          clear hl hl0 hl1 hl2 hl3 hl4 hl5 hl6 hl7 hl8 hl9 hl10 hl11 hl12 hl13 hl14 hl15 hl16 hl17 hl18 hl19 hl20 hl21 hl22 hl23 hl24 hl25 hl26 hl27 hl28 hl29 hl30 hl31 hl32 hl33 hl34
          obtain rfl : v34 = .bool false := hV 34 _ rfl
          have ha0 := HA0.out
          subst ha0
          clear HA0 hV hsz0 oe2 oe3
          simp only [putAll, Act.put, List.setIfInBounds_toArray, List.set_cons_zero, List.set_cons_succ]
          have KM3 := Lib.hid (KM.out.trans hm (fun _ _ h => h))
          clear hm hG
          go_wp2
          go_ret
          exact ⟨congrArg (fun z => Ending.returned (Value.bool z)) (show false = validF k c by unfold validF; (simp only [E0.out, E1.out, E2.out, E3.out, Bool.false_and, Bool.true_and] <;> rfl)), KM3.out⟩
      · have E2 := Lib.hid (decide_eq_false c2)
        clear c2
        generalize ha0 : Act.mk _ _ = a0
        have oe2 : a0.eval (.tmp 2) = .pointer (some ⟨w.heap.size, 0, none⟩) := by rw [← ha0]; rfl
        have oe3 : a0.eval (.tmp 3) = .pointer (some ⟨w.heap.size + 1, 0, none⟩) := by rw [← ha0]; rfl
        have hsz0 : a0.tmps.size = 39 := by rw [← ha0]; rfl
        have HA0 := Lib.hid ha0
        clear ha0
        refine wp_region_G 39 hsz0 (by kernel_rfl) (by kernel_rfl) [5, 6, 7, 8, 9, 10, 11, 12, 13, 14, 15, 16, 17, 18, 19, 20, 21, 22, 23, 24, 25, 26, 27, 28, 29, 30, 31, 32, 33, 34, 35, 36, 37, 38, 4] (by kernel_rfl) (by decide) (fun _ => False) (fun _ _ => False) (fun _ _ h => h) Still (fun _ _ _ h => h) (fun _ _ _ hm h => hm.trans h (fun _ _ h => h.elim)) [gi (.pointer (some ⟨w.heap.size + 1, 0, none⟩)), gi (.pointer (some ⟨w.heap.size + 1, 0, none⟩)), gi (.int .i64 c.cl), gi (.bool true), gi (.bool true), gi (.pointer (some ⟨w.heap.size + 1, 0, none⟩)), gi (.pointer (some ⟨w.heap.size + 1, 0, none⟩)), gi (.int .i64 c.cl), gi (.pointer (some ⟨w.heap.size, 1, none⟩)), gi (.int .i64 k), gi (.bool true), gi (.bool true), gi (.bool true), gi (.pointer (some ⟨w.heap.size + 1, 0, none⟩)), gi (.pointer (some ⟨w.heap.size + 1, 1, none⟩)), gi (.int .i64 c.sq), gi (.bool false), gi (.bool false), gi (.bool false), gi (undef), gi (undef), gi (undef), gi (undef), gi (.bool false), gi (.bool false), gi (undef), gi (undef), gi (undef), gi (.bool false), gi (.bool false), gi (undef), gi (undef), gi (undef), gi (.bool false), gi (.bool false)] ⟨gi_stable, gi_stable, gi_stable, gi_stable, gi_stable, gi_stable, gi_stable, gi_stable, gi_stable, gi_stable, gi_stable, gi_stable, gi_stable, gi_stable, gi_stable, gi_stable, gi_stable, gi_stable, gi_stable, gi_stable, gi_stable, gi_stable, gi_stable, gi_stable, gi_stable, gi_stable, gi_stable, gi_stable, gi_stable, gi_stable, gi_stable, gi_stable, gi_stable, gi_stable, gi_stable, trivial⟩ [] (by kernel_rfl) (by decide) (by kernel_rfl) (fun _ _ => True) (fun _ _ _ _ _ => trivial) trivial ⟨?_, ?_, ?_, ?_, ?_, ?_, ?_, ?_, ?_, ?_, ?_, ?_, ?_, ?_, ?_, ?_, ?_, ?_, ?_, ?_, ?_, ?_, ?_, ?_, ?_, ?_, ?_, ?_, ?_, ?_, ?_, ?_, ?_, ?_, ?_, trivial⟩ ?_
        · intro tr act w' hm hout hsz hd hG hk hub
          refine jg_run (by rfl) rfl (wanted_none rfl) (ex_field rfl Try.underlying32 rfl (by kernel_rfl) ((hout 3 (by decide)).trans oe3)) (Mod.refl _ _) ?_
          rfl
        · intro tr act w' hm hout hsz hd hG hk hub
          have h0 := hd ⟨0, .data⟩ (by simp) rfl _ rfl
          refine jg_run (by rfl) rfl (wanted_none rfl) (ex_field rfl Try.underlying26 rfl (by kernel_rfl) h0) (Mod.refl _ _) ?_
          rfl
        · intro tr act w' hm hout hsz hd hG hk hub
          have h1 := hd ⟨1, .data⟩ (by simp) rfl _ rfl
          exact jg_run (by rfl) rfl (wanted_none rfl) (ex_load1 rfl Try.underlying3 rfl h1 ((KX.out.mod hm (fun h => h)).c0)) (Mod.refl _ _) rfl
        · intro tr act w' hm hout hsz hd hG hk hub
          have h2 := hd ⟨2, .data⟩ (by simp) rfl _ rfl
          refine jg_run (by rfl) rfl (wanted_none rfl) (ex_bin rfl h2 rfl (guard_ints _ _ _ _ _ _) (run_geq_i _ _ _ Try.underlying3)) (Mod.refl _ _) ?_
          exact congrArg Value.bool E0.out
        · intro tr act w' hm hout hsz hd hG hk hub
          have h3 := hd ⟨3, .data⟩ (by simp) rfl _ rfl
          exact jg_run (by rfl) rfl (wanted_none rfl) (ex_move rfl h3) (Mod.refl _ _) rfl
        · intro tr act w' hm hout hsz hd hG hk hub
          have h4 := hd ⟨4, .guard⟩ (by simp) rfl _ rfl
          refine jg_run (by rfl) rfl ((wanted_of rfl rfl (hsz 9 (by decide)) h4).trans rfl) (ex_field rfl Try.underlying32 rfl (by kernel_rfl) ((hout 3 (by decide)).trans oe3)) (Mod.refl _ _) ?_
          rfl
        · intro tr act w' hm hout hsz hd hG hk hub
          have h4 := hd ⟨4, .guard⟩ (by simp) rfl _ rfl
          have h5 := hd ⟨5, .data⟩ (by simp) rfl _ rfl
          refine jg_run (by rfl) rfl ((wanted_of rfl rfl (hsz 9 (by decide)) h4).trans rfl) (ex_field rfl Try.underlying26 rfl (by kernel_rfl) h5) (Mod.refl _ _) ?_
          rfl
        · intro tr act w' hm hout hsz hd hG hk hub
          have h4 := hd ⟨4, .guard⟩ (by simp) rfl _ rfl
          have h6 := hd ⟨6, .data⟩ (by simp) rfl _ rfl
          exact jg_run (by rfl) rfl ((wanted_of rfl rfl (hsz 9 (by decide)) h4).trans rfl) (ex_load1 rfl Try.underlying3 rfl h6 ((KX.out.mod hm (fun h => h)).c0)) (Mod.refl _ _) rfl
        · intro tr act w' hm hout hsz hd hG hk hub
          have h4 := hd ⟨4, .guard⟩ (by simp) rfl _ rfl
          refine jg_run (by rfl) rfl ((wanted_of rfl rfl (hsz 9 (by decide)) h4).trans rfl) (ex_field rfl Try.underlying24 rfl (by kernel_rfl) ((hout 2 (by decide)).trans oe2)) (Mod.refl _ _) ?_
          rfl
        · intro tr act w' hm hout hsz hd hG hk hub
          have h4 := hd ⟨4, .guard⟩ (by simp) rfl _ rfl
          have h8 := hd ⟨8, .data⟩ (by simp) rfl _ rfl
          exact jg_run (by rfl) rfl ((wanted_of rfl rfl (hsz 9 (by decide)) h4).trans rfl) (ex_load1 rfl Try.underlying3 rfl h8 (by rw [(KF.out.mod hm (fun h => h)).cell]; rfl)) (Mod.refl _ _) rfl
        · intro tr act w' hm hout hsz hd hG hk hub
          have h4 := hd ⟨4, .guard⟩ (by simp) rfl _ rfl
          have h7 := hd ⟨7, .data⟩ (by simp) rfl _ rfl
          have h9 := hd ⟨9, .data⟩ (by simp) rfl _ rfl
          refine jg_run (by rfl) rfl ((wanted_of rfl rfl (hsz 9 (by decide)) h4).trans rfl) (ex_bin rfl h7 h9 (guard_ints _ _ _ _ _ _) (run_lss_i _ _ _ Try.underlying3)) (Mod.refl _ _) ?_
          exact congrArg Value.bool E1.out
        · intro tr act w' hm hout hsz hd hG hk hub
          have h4 := hd ⟨4, .data⟩ (by simp) rfl _ rfl
          have h10 := hd ⟨10, .data⟩ (by simp) rfl _ rfl
          exact jg_run (by rfl) rfl (wanted_none rfl) (ex_pick rfl h4 h10 rfl) (Mod.refl _ _) rfl
        · intro tr act w' hm hout hsz hd hG hk hub
          have h11 := hd ⟨11, .data⟩ (by simp) rfl _ rfl
          exact jg_run (by rfl) rfl (wanted_none rfl) (ex_move rfl h11) (Mod.refl _ _) rfl
        · intro tr act w' hm hout hsz hd hG hk hub
          have h12 := hd ⟨12, .guard⟩ (by simp) rfl _ rfl
          refine jg_run (by rfl) rfl ((wanted_of rfl rfl (hsz 17 (by decide)) h12).trans rfl) (ex_field rfl Try.underlying32 rfl (by kernel_rfl) ((hout 3 (by decide)).trans oe3)) (Mod.refl _ _) ?_
          rfl
        · intro tr act w' hm hout hsz hd hG hk hub
          have h12 := hd ⟨12, .guard⟩ (by simp) rfl _ rfl
          have h13 := hd ⟨13, .data⟩ (by simp) rfl _ rfl
          refine jg_run (by rfl) rfl ((wanted_of rfl rfl (hsz 17 (by decide)) h12).trans rfl) (ex_field rfl Try.underlying26 rfl (by kernel_rfl) h13) (Mod.refl _ _) ?_
          rfl
        · intro tr act w' hm hout hsz hd hG hk hub
          have h12 := hd ⟨12, .guard⟩ (by simp) rfl _ rfl
          have h14 := hd ⟨14, .data⟩ (by simp) rfl _ rfl
          exact jg_run (by rfl) rfl ((wanted_of rfl rfl (hsz 17 (by decide)) h12).trans rfl) (ex_load1 rfl Try.underlying3 rfl h14 ((KX.out.mod hm (fun h => h)).c1)) (Mod.refl _ _) rfl
        · intro tr act w' hm hout hsz hd hG hk hub
          have h12 := hd ⟨12, .guard⟩ (by simp) rfl _ rfl
          have h15 := hd ⟨15, .data⟩ (by simp) rfl _ rfl
          refine jg_run (by rfl) rfl ((wanted_of rfl rfl (hsz 17 (by decide)) h12).trans rfl) (ex_bin rfl h15 rfl (guard_ints _ _ _ _ _ _) (run_geq_i _ _ _ Try.underlying3)) (Mod.refl _ _) ?_
          exact congrArg Value.bool E2.out
        · intro tr act w' hm hout hsz hd hG hk hub
          have h12 := hd ⟨12, .data⟩ (by simp) rfl _ rfl
          have h16 := hd ⟨16, .data⟩ (by simp) rfl _ rfl
          exact jg_run (by rfl) rfl (wanted_none rfl) (ex_pick rfl h12 h16 rfl) (Mod.refl _ _) rfl
        · intro tr act w' hm hout hsz hd hG hk hub
          have h17 := hd ⟨17, .data⟩ (by simp) rfl _ rfl
          exact jg_run (by rfl) rfl (wanted_none rfl) (ex_move rfl h17) (Mod.refl _ _) rfl
        · intro tr act w' hm hout hsz hd hG hk hub
          have h18 := hd ⟨18, .guard⟩ (by simp) rfl _ rfl
          exact jg_skip (fun _ _ _ h => h) (by rfl) rfl ((wanted_of rfl rfl (hsz 23 (by decide)) h18).trans rfl) rfl
        · intro tr act w' hm hout hsz hd hG hk hub
          have h18 := hd ⟨18, .guard⟩ (by simp) rfl _ rfl
          exact jg_skip (fun _ _ _ h => h) (by rfl) rfl ((wanted_of rfl rfl (hsz 23 (by decide)) h18).trans rfl) rfl
        · intro tr act w' hm hout hsz hd hG hk hub
          have h18 := hd ⟨18, .guard⟩ (by simp) rfl _ rfl
          exact jg_skip (fun _ _ _ h => h) (by rfl) rfl ((wanted_of rfl rfl (hsz 23 (by decide)) h18).trans rfl) rfl
        · intro tr act w' hm hout hsz hd hG hk hub
          have h18 := hd ⟨18, .guard⟩ (by simp) rfl _ rfl
          exact jg_skip (fun _ _ _ h => h) (by rfl) rfl ((wanted_of rfl rfl (hsz 23 (by decide)) h18).trans rfl) rfl
        · intro tr act w' hm hout hsz hd hG hk hub
          have h18 := hd ⟨18, .data⟩ (by simp) rfl _ rfl
          have h22 := hd ⟨22, .data⟩ (by simp) rfl _ rfl
          exact jg_run (by rfl) rfl (wanted_none rfl) (ex_pick rfl h18 h22 rfl) (Mod.refl _ _) rfl
        · intro tr act w' hm hout hsz hd hG hk hub
          have h23 := hd ⟨23, .data⟩ (by simp) rfl _ rfl
          exact jg_run (by rfl) rfl (wanted_none rfl) (ex_move rfl h23) (Mod.refl _ _) rfl
        · intro tr act w' hm hout hsz hd hG hk hub
          have h24 := hd ⟨24, .guard⟩ (by simp) rfl _ rfl
          exact jg_skip (fun _ _ _ h => h) (by rfl) rfl ((wanted_of rfl rfl (hsz 29 (by decide)) h24).trans rfl) rfl
        · intro tr act w' hm hout hsz hd hG hk hub
          have h24 := hd ⟨24, .guard⟩ (by simp) rfl _ rfl
          exact jg_skip (fun _ _ _ h => h) (by rfl) rfl ((wanted_of rfl rfl (hsz 29 (by decide)) h24).trans rfl) rfl
        · intro tr act w' hm hout hsz hd hG hk hub
          have h24 := hd ⟨24, .guard⟩ (by simp) rfl _ rfl
          exact jg_skip (fun _ _ _ h => h) (by rfl) rfl ((wanted_of rfl rfl (hsz 29 (by decide)) h24).trans rfl) rfl
        · intro tr act w' hm hout hsz hd hG hk hub
          have h24 := hd ⟨24, .data⟩ (by simp) rfl _ rfl
          have h27 := hd ⟨27, .data⟩ (by simp) rfl _ rfl
          exact jg_run (by rfl) rfl (wanted_none rfl) (ex_pick rfl h24 h27 rfl) (Mod.refl _ _) rfl
        · intro tr act w' hm hout hsz hd hG hk hub
          have h28 := hd ⟨28, .data⟩ (by simp) rfl _ rfl
          exact jg_run (by rfl) rfl (wanted_none rfl) (ex_move rfl h28) (Mod.refl _ _) rfl
        · intro tr act w' hm hout hsz hd hG hk hub
          have h29 := hd ⟨29, .guard⟩ (by simp) rfl _ rfl
          exact jg_skip (fun _ _ _ h => h) (by rfl) rfl ((wanted_of rfl rfl (hsz 34 (by decide)) h29).trans rfl) rfl
        · intro tr act w' hm hout hsz hd hG hk hub
          have h29 := hd ⟨29, .guard⟩ (by simp) rfl _ rfl
          exact jg_skip (fun _ _ _ h => h) (by rfl) rfl ((wanted_of rfl rfl (hsz 34 (by decide)) h29).trans rfl) rfl
        · intro tr act w' hm hout hsz hd hG hk hub
          have h29 := hd ⟨29, .guard⟩ (by simp) rfl _ rfl
          exact jg_skip (fun _ _ _ h => h) (by rfl) rfl ((wanted_of rfl rfl (hsz 34 (by decide)) h29).trans rfl) rfl
        · intro tr act w' hm hout hsz hd hG hk hub
          have h29 := hd ⟨29, .data⟩ (by simp) rfl _ rfl
          have h32 := hd ⟨32, .data⟩ (by simp) rfl _ rfl
          exact jg_run (by rfl) rfl (wanted_none rfl) (ex_pick rfl h29 h32 rfl) (Mod.refl _ _) rfl
        · intro tr act w' hm hout hsz hd hG hk hub
          have h33 := hd ⟨33, .data⟩ (by simp) rfl _ rfl
          exact jg_run (by rfl) rfl (wanted_none rfl) (ex_assign rfl h33) (Mod.refl _ _) rfl
        intro vs tr w3 hl htl hm hG hV
        obtain ⟨v0, vs0, rfl, hl0⟩ := list_cons hl
        obtain ⟨v1, vs1, rfl, hl1⟩ := list_cons hl0
        obtain ⟨v2, vs2, rfl, hl2⟩ := list_cons hl1
        obtain ⟨v3, vs3, rfl, hl3⟩ := list_cons hl2
        obtain ⟨v4, vs4, rfl, hl4⟩ := list_cons hl3
        obtain ⟨v5, vs5, rfl, hl5⟩ := list_cons hl4
        obtain ⟨v6, vs6, rfl, hl6⟩ := list_cons hl5
        obtain ⟨v7, vs7, rfl, hl7⟩ := list_cons hl6
        obtain ⟨v8, vs8, rfl, hl8⟩ := list_cons hl7
        obtain ⟨v9, vs9, rfl, hl9⟩ := list_cons hl8
        obtain ⟨v10, vs10, rfl, hl10⟩ := list_cons hl9
        obtain ⟨v11, vs11, rfl, hl11⟩ := list_cons hl10
        obtain ⟨v12, vs12, rfl, hl12⟩ := list_cons hl11
        obtain ⟨v13, vs13, rfl, hl13⟩ := list_cons hl12
        obtain ⟨v14, vs14, rfl, hl14⟩ := list_cons hl13
        obtain ⟨v15, vs15, rfl, hl15⟩ := list_cons hl14
        obtain ⟨v16, vs16, rfl, hl16⟩ := list_cons hl15
        obtain ⟨v17, vs17, rfl, hl17⟩ := list_cons hl16
        obtain ⟨v18, vs18, rfl, hl18⟩ := list_cons hl17
        obtain ⟨v19, vs19, rfl, hl19⟩ := list_cons hl18
        obtain ⟨v20, vs20, rfl, hl20⟩ := list_cons hl19
        obtain ⟨v21, vs21, rfl, hl21⟩ := list_cons hl20
        obtain ⟨v22, vs22, rfl, hl22⟩ := list_cons hl21
        obtain ⟨v23, vs23, rfl, hl23⟩ := list_cons hl22
        obtain ⟨v24, vs24, rfl, hl24⟩ := list_cons hl23
        obtain ⟨v25, vs25, rfl, hl25⟩ := list_cons hl24
        obtain ⟨v26, vs26, rfl, hl26⟩ := list_cons hl25
        obtain ⟨v27, vs27, rfl, hl27⟩ := list_cons hl26
        obtain ⟨v28, vs28, rfl, hl28⟩ := list_cons hl27
        obtain ⟨v29, vs29, rfl, hl29⟩ := list_cons hl28
        obtain ⟨v30, vs30, rfl, hl30⟩ := list_cons hl29
        obtain ⟨v31, vs31, rfl, hl31⟩ := list_cons hl30
        obtain ⟨v32, vs32, rfl, hl32⟩ := list_cons hl31
        obtain ⟨v33, vs33, rfl, hl33⟩ := list_cons hl32
        obtain ⟨v34, vs34, rfl, hl34⟩ := list_cons hl33
        obtain rfl := list_nil hl34
        clear hl hl0 hl1 hl2 hl3 hl4 hl5 hl6 hl7 hl8 hl9 hl10 hl11 hl12 hl13 hl14 hl15 hl16 hl17 hl18 hl19 hl20 hl21 hl22 hl23 hl24 hl25 hl26 hl27 hl28 hl29 hl30 hl31 hl32 hl33 hl34
        obtain rfl : v34 = .bool false := hV 34 _ rfl
        have ha0 := HA0.out
        subst ha0
        clear HA0 hV hsz0 oe2 oe3
        simp only [putAll, Act.put, List.setIfInBounds_toArray, List.set_cons_zero, List.set_cons_succ]
        have KM3 := Lib.hid (KM.out.trans hm (fun _ _ h => h))
        clear hm hG
        go_wp2
        go_ret
        exact ⟨congrArg (fun z => Ending.returned (Value.bool z)) (show false = validF k c by unfold validF; (simp only [E0.out, E1.out, E2.out, Bool.false_and, Bool.true_and] <;> rfl)), KM3.out⟩
    · have E1 := Lib.hid (decide_eq_false c1)
      clear c1
      generalize ha0 : Act.mk _ _ = a0
      have oe2 : a0.eval (.tmp 2) = .pointer (some ⟨w.heap.size, 0, none⟩) := by rw [← ha0]; rfl
      have oe3 : a0.eval (.tmp 3) = .pointer (some ⟨w.heap.size + 1, 0, none⟩) := by rw [← ha0]; rfl
      have hsz0 : a0.tmps.size = 39 := by rw [← ha0]; rfl
      have HA0 := Lib.hid ha0
      clear ha0
      refine wp_region_G 39 hsz0 (by kernel_rfl) (by kernel_rfl) [5, 6, 7, 8, 9, 10, 11, 12, 13, 14, 15, 16, 17, 18, 19, 20, 21, 22, 23, 24, 25, 26, 27, 28, 29, 30, 31, 32, 33, 34, 35, 36, 37, 38, 4] (by kernel_rfl) (by decide) (fun _ => False) (fun _ _ => False) (fun _ _ h => h) Still (fun _ _ _ h => h) (fun _ _ _ hm h => hm.trans h (fun _ _ h => h.elim)) [gi (.pointer (some ⟨w.heap.size + 1, 0, none⟩)), gi (.pointer (some ⟨w.heap.size + 1, 0, none⟩)), gi (.int .i64 c.cl), gi (.bool true), gi (.bool true), gi (.pointer (some ⟨w.heap.size + 1, 0, none⟩)), gi (.pointer (some ⟨w.heap.size + 1, 0, none⟩)), gi (.int .i64 c.cl), gi (.pointer (some ⟨w.heap.size, 1, none⟩)), gi (.int .i64 k), gi (.bool false), gi (.bool false), gi (.bool false), gi (undef), gi (undef), gi (undef), gi (undef), gi (.bool false), gi (.bool false), gi (undef), gi (undef), gi (undef), gi (undef), gi (.bool false), gi (.bool false), gi (undef), gi (undef), gi (undef), gi (.bool false), gi (.bool false), gi (undef), gi (undef), gi (undef), gi (.bool false), gi (.bool false)] ⟨gi_stable, gi_stable, gi_stable, gi_stable, gi_stable, gi_stable, gi_stable, gi_stable, gi_stable, gi_stable, gi_stable, gi_stable, gi_stable, gi_stable, gi_stable, gi_stable, gi_stable, gi_stable, gi_stable, gi_stable, gi_stable, gi_stable, gi_stable, gi_stable, gi_stable, gi_stable, gi_stable, gi_stable, gi_stable, gi_stable, gi_stable, gi_stable, gi_stable, gi_stable, gi_stable, trivial⟩ [] (by kernel_rfl) (by decide) (by kernel_rfl) (fun _ _ => True) (fun _ _ _ _ _ => trivial) trivial ⟨?_, ?_, ?_, ?_, ?_, ?_, ?_, ?_, ?_, ?_, ?_, ?_, ?_, ?_, ?_, ?_, ?_, ?_, ?_, ?_, ?_, ?_, ?_, ?_, ?_, ?_, ?_, ?_, ?_, ?_, ?_, ?_, ?_, ?_, ?_, trivial⟩ ?_
      · intro tr act w' hm hout hsz hd hG hk hub
        refine jg_run (by rfl) rfl (wanted_none rfl) (ex_field rfl Try.underlying32 rfl (by kernel_rfl) ((hout 3 (by decide)).trans oe3)) (Mod.refl _ _) ?_
        rfl
      · intro tr act w' hm hout hsz hd hG hk hub
        have h0 := hd ⟨0, .data⟩ (by simp) rfl _ rfl
        refine jg_run (by rfl) rfl (wanted_none rfl) (ex_field rfl Try.underlying26 rfl (by kernel_rfl) h0) (Mod.refl _ _) ?_
        rfl
      · intro tr act w' hm hout hsz hd hG hk hub
        have h1 := hd ⟨1, .data⟩ (by simp) rfl _ rfl
        exact jg_run (by rfl) rfl (wanted_none rfl) (ex_load1 rfl Try.underlying3 rfl h1 ((KX.out.mod hm (fun h => h)).c0)) (Mod.refl _ _) rfl
      · intro tr act w' hm hout hsz hd hG hk hub
        have h2 := hd ⟨2, .data⟩ (by simp) rfl _ rfl
        refine jg_run (by rfl) rfl (wanted_none rfl) (ex_bin rfl h2 rfl (guard_ints _ _ _ _ _ _) (run_geq_i _ _ _ Try.underlying3)) (Mod.refl _ _) ?_
        exact congrArg Value.bool E0.out
      · intro tr act w' hm hout hsz hd hG hk hub
        have h3 := hd ⟨3, .data⟩ (by simp) rfl _ rfl
        exact jg_run (by rfl) rfl (wanted_none rfl) (ex_move rfl h3) (Mod.refl _ _) rfl
      · intro tr act w' hm hout hsz hd hG hk hub
        have h4 := hd ⟨4, .guard⟩ (by simp) rfl _ rfl
        refine jg_run (by rfl) rfl ((wanted_of rfl rfl (hsz 9 (by decide)) h4).trans rfl) (ex_field rfl Try.underlying32 rfl (by kernel_rfl) ((hout 3 (by decide)).trans oe3)) (Mod.refl _ _) ?_
        rfl
      · intro tr act w' hm hout hsz hd hG hk hub
        have h4 := hd ⟨4, .guard⟩ (by simp) rfl _ rfl
        have h5 := hd ⟨5, .data⟩ (by simp) rfl _ rfl
        refine jg_run (by rfl) rfl ((wanted_of rfl rfl (hsz 9 (by decide)) h4).trans rfl) (ex_field rfl Try.underlying26 rfl (by kernel_rfl) h5) (Mod.refl _ _) ?_
        rfl
      · intro tr act w' hm hout hsz hd hG hk hub
        have h4 := hd ⟨4, .guard⟩ (by simp) rfl _ rfl
        have h6 := hd ⟨6, .data⟩ (by simp) rfl _ rfl
        exact jg_run (by rfl) rfl ((wanted_of rfl rfl (hsz 9 (by decide)) h4).trans rfl) (ex_load1 rfl Try.underlying3 rfl h6 ((KX.out.mod hm (fun h => h)).c0)) (Mod.refl _ _) rfl
      · intro tr act w' hm hout hsz hd hG hk hub
        have h4 := hd ⟨4, .guard⟩ (by simp) rfl _ rfl
        refine jg_run (by rfl) rfl ((wanted_of rfl rfl (hsz 9 (by decide)) h4).trans rfl) (ex_field rfl Try.underlying24 rfl (by kernel_rfl) ((hout 2 (by decide)).trans oe2)) (Mod.refl _ _) ?_
        rfl
      · intro tr act w' hm hout hsz hd hG hk hub
        have h4 := hd ⟨4, .guard⟩ (by simp) rfl _ rfl
        have h8 := hd ⟨8, .data⟩ (by simp) rfl _ rfl
        exact jg_run (by rfl) rfl ((wanted_of rfl rfl (hsz 9 (by decide)) h4).trans rfl) (ex_load1 rfl Try.underlying3 rfl h8 (by rw [(KF.out.mod hm (fun h => h)).cell]; rfl)) (Mod.refl _ _) rfl
      · intro tr act w' hm hout hsz hd hG hk hub
        have h4 := hd ⟨4, .guard⟩ (by simp) rfl _ rfl
        have h7 := hd ⟨7, .data⟩ (by simp) rfl _ rfl
        have h9 := hd ⟨9, .data⟩ (by simp) rfl _ rfl
        refine jg_run (by rfl) rfl ((wanted_of rfl rfl (hsz 9 (by decide)) h4).trans rfl) (ex_bin rfl h7 h9 (guard_ints _ _ _ _ _ _) (run_lss_i _ _ _ Try.underlying3)) (Mod.refl _ _) ?_
        exact congrArg Value.bool E1.out
      · intro tr act w' hm hout hsz hd hG hk hub
        have h4 := hd ⟨4, .data⟩ (by simp) rfl _ rfl
        have h10 := hd ⟨10, .data⟩ (by simp) rfl _ rfl
        exact jg_run (by rfl) rfl (wanted_none rfl) (ex_pick rfl h4 h10 rfl) (Mod.refl _ _) rfl
      · intro tr act w' hm hout hsz hd hG hk hub
        have h11 := hd ⟨11, .data⟩ (by simp) rfl _ rfl
        exact jg_run (by rfl) rfl (wanted_none rfl) (ex_move rfl h11) (Mod.refl _ _) rfl
      · intro tr act w' hm hout hsz hd hG hk hub
        have h12 := hd ⟨12, .guard⟩ (by simp) rfl _ rfl
        exact jg_skip (fun _ _ _ h => h) (by rfl) rfl ((wanted_of rfl rfl (hsz 17 (by decide)) h12).trans rfl) rfl
      · intro tr act w' hm hout hsz hd hG hk hub
        have h12 := hd ⟨12, .guard⟩ (by simp) rfl _ rfl
        exact jg_skip (fun _ _ _ h => h) (by rfl) rfl ((wanted_of rfl rfl (hsz 17 (by decide)) h12).trans rfl) rfl
      · intro tr act w' hm hout hsz hd hG hk hub
        have h12 := hd ⟨12, .guard⟩ (by simp) rfl _ rfl
        exact jg_skip (fun _ _ _ h => h) (by rfl) rfl ((wanted_of rfl rfl (hsz 17 (by decide)) h12).trans rfl) rfl
      · intro tr act w' hm hout hsz hd hG hk hub
        have h12 := hd ⟨12, .guard⟩ (by simp) rfl _ rfl
        exact jg_skip (fun _ _ _ h => h) (by rfl) rfl ((wanted_of rfl rfl (hsz 17 (by decide)) h12).trans rfl) rfl
      · intro tr act w' hm hout hsz hd hG hk hub
        have h12 := hd ⟨12, .data⟩ (by simp) rfl _ rfl
        have h16 := hd ⟨16, .data⟩ (by simp) rfl _ rfl
        exact jg_run (by rfl) rfl (wanted_none rfl) (ex_pick rfl h12 h16 rfl) (Mod.refl _ _) rfl
      · intro tr act w' hm hout hsz hd hG hk hub
        have h17 := hd ⟨17, .data⟩ (by simp) rfl _ rfl
        exact jg_run (by rfl) rfl (wanted_none rfl) (ex_move rfl h17) (Mod.refl _ _) rfl
      · intro tr act w' hm hout hsz hd hG hk hub
        have h18 := hd ⟨18, .guard⟩ (by simp) rfl _ rfl
        exact jg_skip (fun _ _ _ h => h) (by rfl) rfl ((wanted_of rfl rfl (hsz 23 (by decide)) h18).trans rfl) rfl
      · intro tr act w' hm hout hsz hd hG hk hub
        have h18 := hd ⟨18, .guard⟩ (by simp) rfl _ rfl
        exact jg_skip (fun _ _ _ h => h) (by rfl) rfl ((wanted_of rfl rfl (hsz 23 (by decide)) h18).trans rfl) rfl
      · intro tr act w' hm hout hsz hd hG hk hub
        have h18 := hd ⟨18, .guard⟩ (by simp) rfl _ rfl
        exact jg_skip (fun _ _ _ h => h) (by rfl) rfl ((wanted_of rfl rfl (hsz 23 (by decide)) h18).trans rfl) rfl
      · intro tr act w' hm hout hsz hd hG hk hub
        have h18 := hd ⟨18, .guard⟩ (by simp) rfl _ rfl
        exact jg_skip (fun _ _ _ h => h) (by rfl) rfl ((wanted_of rfl rfl (hsz 23 (by decide)) h18).trans rfl) rfl
      · intro tr act w' hm hout hsz hd hG hk hub
        have h18 := hd ⟨18, .data⟩ (by simp) rfl _ rfl
        have h22 := hd ⟨22, .data⟩ (by simp) rfl _ rfl
        exact jg_run (by rfl) rfl (wanted_none rfl) (ex_pick rfl h18 h22 rfl) (Mod.refl _ _) rfl
      · intro tr act w' hm hout hsz hd hG hk hub
        have h23 := hd ⟨23, .data⟩ (by simp) rfl _ rfl
        exact jg_run (by rfl) rfl (wanted_none rfl) (ex_move rfl h23) (Mod.refl _ _) rfl
      · intro tr act w' hm hout hsz hd hG hk hub
        have h24 := hd ⟨24, .guard⟩ (by simp) rfl _ rfl
        exact jg_skip (fun _ _ _ h => h) (by rfl) rfl ((wanted_of rfl rfl (hsz 29 (by decide)) h24).trans rfl) rfl
      · intro tr act w' hm hout hsz hd hG hk hub
        have h24 := hd ⟨24, .guard⟩ (by simp) rfl _ rfl
        exact jg_skip (fun _ _ _ h => h) (by rfl) rfl ((wanted_of rfl rfl (hsz 29 (by decide)) h24).trans rfl) rfl
      · intro tr act w' hm hout hsz hd hG hk hub
        have h24 := hd ⟨24, .guard⟩ (by simp) rfl _ rfl
        exact jg_skip (fun _ _ _ h => h) (by rfl) rfl ((wanted_of rfl rfl (hsz 29 (by decide)) h24).trans rfl) rfl
      · intro tr act w' hm hout hsz hd hG hk hub
        have h24 := hd ⟨24, .data⟩ (by simp) rfl _ rfl
        have h27 := hd ⟨27, .data⟩ (by simp) rfl _ rfl
        exact jg_run (by rfl) rfl (wanted_none rfl) (ex_pick rfl h24 h27 rfl) (Mod.refl _ _) rfl
      · intro tr act w' hm hout hsz hd hG hk hub
        have h28 := hd ⟨28, .data⟩ (by simp) rfl _ rfl
        exact jg_run (by rfl) rfl (wanted_none rfl) (ex_move rfl h28) (Mod.refl _ _) rfl
      · intro tr act w' hm hout hsz hd hG hk hub
        have h29 := hd ⟨29, .guard⟩ (by simp) rfl _ rfl
        exact jg_skip (fun _ _ _ h => h) (by rfl) rfl ((wanted_of rfl rfl (hsz 34 (by decide)) h29).trans rfl) rfl
      · intro tr act w' hm hout hsz hd hG hk hub
        have h29 := hd ⟨29, .guard⟩ (by simp) rfl _ rfl
        exact jg_skip (fun _ _ _ h => h) (by rfl) rfl ((wanted_of rfl rfl (hsz 34 (by decide)) h29).trans rfl) rfl
      · intro tr act w' hm hout hsz hd hG hk hub
        have h29 := hd ⟨29, .guard⟩ (by simp) rfl _ rfl
        exact jg_skip (fun _ _ _ h => h) (by rfl) rfl ((wanted_of rfl rfl (hsz 34 (by decide)) h29).trans rfl) rfl
      · intro tr act w' hm hout hsz hd hG hk hub
        have h29 := hd ⟨29, .data⟩ (by simp) rfl _ rfl
        have h32 := hd ⟨32, .data⟩ (by simp) rfl _ rfl
        exact jg_run (by rfl) rfl (wanted_none rfl) (ex_pick rfl h29 h32 rfl) (Mod.refl _ _) rfl
      · intro tr act w' hm hout hsz hd hG hk hub
        have h33 := hd ⟨33, .data⟩ (by simp) rfl _ rfl
        exact jg_run (by rfl) rfl (wanted_none rfl) (ex_assign rfl h33) (Mod.refl _ _) rfl
      intro vs tr w3 hl htl hm hG hV
      obtain ⟨v0, vs0, rfl, hl0⟩ := list_cons hl
      obtain ⟨v1, vs1, rfl, hl1⟩ := list_cons hl0
      obtain ⟨v2, vs2, rfl, hl2⟩ := list_cons hl1
      obtain ⟨v3, vs3, rfl, hl3⟩ := list_cons hl2
      obtain ⟨v4, vs4, rfl, hl4⟩ := list_cons hl3
      obtain ⟨v5, vs5, rfl, hl5⟩ := list_cons hl4
      obtain ⟨v6, vs6, rfl, hl6⟩ := list_cons hl5
      obtain ⟨v7, vs7, rfl, hl7⟩ := list_cons hl6
      obtain ⟨v8, vs8, rfl, hl8⟩ := list_cons hl7
      obtain ⟨v9, vs9, rfl, hl9⟩ := list_cons hl8
      obtain ⟨v10, vs10, rfl, hl10⟩ := list_cons hl9
      obtain ⟨v11, vs11, rfl, hl11⟩ := list_cons hl10
      obtain ⟨v12, vs12, rfl, hl12⟩ := list_cons hl11
      obtain ⟨v13, vs13, rfl, hl13⟩ := list_cons hl12
      obtain ⟨v14, vs14, rfl, hl14⟩ := list_cons hl13
      obtain ⟨v15, vs15, rfl, hl15⟩ := list_cons hl14
      obtain ⟨v16, vs16, rfl, hl16⟩ := list_cons hl15
      obtain ⟨v17, vs17, rfl, hl17⟩ := list_cons hl16
      obtain ⟨v18, vs18, rfl, hl18⟩ := list_cons hl17
      obtain ⟨v19, vs19, rfl, hl19⟩ := list_cons hl18
      obtain ⟨v20, vs20, rfl, hl20⟩ := list_cons hl19
      obtain ⟨v21, vs21, rfl, hl21⟩ := list_cons hl20
      obtain ⟨v22, vs22, rfl, hl22⟩ := list_cons hl21
      obtain ⟨v23, vs23, rfl, hl23⟩ := list_cons hl22
      obtain ⟨v24, vs24, rfl, hl24⟩ := list_cons hl23
      obtain ⟨v25, vs25, rfl, hl25⟩ := list_cons hl24
      obtain ⟨v26, vs26, rfl, hl26⟩ := list_cons hl25
      obtain ⟨v27, vs27, rfl, hl27⟩ := list_cons hl26
      obtain ⟨v28, vs28, rfl, hl28⟩ := list_cons hl27
      obtain ⟨v29, vs29, rfl, hl29⟩ := list_cons hl28
      obtain ⟨v30, vs30, rfl, hl30⟩ := list_cons hl29
      obtain ⟨v31, vs31, rfl, hl31⟩ := list_cons hl30
      obtain ⟨v32, vs32, rfl, hl32⟩ := list_cons hl31
      obtain ⟨v33, vs33, rfl, hl33⟩ := list_cons hl32
      obtain ⟨v34, vs34, rfl, hl34⟩ := list_cons hl33
      obtain rfl := list_nil hl34
      clear hl hl0 hl1 hl2 hl3 hl4 hl5 hl6 hl7 hl8 hl9 hl10 hl11 hl12 hl13 hl14 hl15 hl16 hl17 hl18 hl19 hl20 hl21 hl22 hl23 hl24 hl25 hl26 hl27 hl28 hl29 hl30 hl31 hl32 hl33 hl34
      obtain rfl : v34 = .bool false := hV 34 _ rfl
      have ha0 := HA0.out
      subst ha0
      clear HA0 hV hsz0 oe2 oe3
      simp only [putAll, Act.put, List.setIfInBounds_toArray, List.set_cons_zero, List.set_cons_succ]
      have KM3 := Lib.hid (KM.out.trans hm (fun _ _ h => h))
      clear hm hG
      go_wp2
      go_ret
      exact ⟨congrArg (fun z => Ending.returned (Value.bool z)) (show false = validF k c by unfold validF; (simp only [E0.out, E1.out, Bool.false_and, Bool.true_and] <;> rfl)), KM3.out⟩
  · have E0 := Lib.hid (decide_eq_false c0)
    clear c0
    generalize ha0 : Act.mk _ _ = a0
    have oe2 : a0.eval (.tmp 2) = .pointer (some ⟨w.heap.size, 0, none⟩) := by rw [← ha0]; rfl
    have oe3 : a0.eval (.tmp 3) = .pointer (some ⟨w.heap.size + 1, 0, none⟩) := by rw [← ha0]; rfl
    have hsz0 : a0.tmps.size = 39 := by rw [← ha0]; rfl
    have HA0 := Lib.hid ha0
    clear ha0
    refine wp_region_G 39 hsz0 (by kernel_rfl) (by kernel_rfl) [5, 6, 7, 8, 9, 10, 11, 12, 13, 14, 15, 16, 17, 18, 19, 20, 21, 22, 23, 24, 25, 26, 27, 28, 29, 30, 31, 32, 33, 34, 35, 36, 37, 38, 4] (by kernel_rfl) (by decide) (fun _ => False) (fun _ _ => False) (fun _ _ h => h) Still (fun _ _ _ h => h) (fun _ _ _ hm h => hm.trans h (fun _ _ h => h.elim)) [gi (.pointer (some ⟨w.heap.size + 1, 0, none⟩)), gi (.pointer (some ⟨w.heap.size + 1, 0, none⟩)), gi (.int .i64 c.cl), gi (.bool false), gi (.bool false), gi (undef), gi (undef), gi (undef), gi (undef), gi (undef), gi (undef), gi (.bool false), gi (.bool false), gi (undef), gi (undef), gi (undef), gi (undef), gi (.bool false), gi (.bool false), gi (undef), gi (undef), gi (undef), gi (undef), gi (.bool false), gi (.bool false), gi (undef), gi (undef), gi (undef), gi (.bool false), gi (.bool false), gi (undef), gi (undef), gi (undef), gi (.bool false), gi (.bool false)] ⟨gi_stable, gi_stable, gi_stable, gi_stable, gi_stable, gi_stable, gi_stable, gi_stable, gi_stable, gi_stable, gi_stable, gi_stable, gi_stable, gi_stable, gi_stable, gi_stable, gi_stable, gi_stable, gi_stable, gi_stable, gi_stable, gi_stable, gi_stable, gi_stable, gi_stable, gi_stable, gi_stable, gi_stable, gi_stable, gi_stable, gi_stable, gi_stable, gi_stable, gi_stable, gi_stable, trivial⟩ [] (by kernel_rfl) (by decide) (by kernel_rfl) (fun _ _ => True) (fun _ _ _ _ _ => trivial) trivial ⟨?_, ?_, ?_, ?_, ?_, ?_, ?_, ?_, ?_, ?_, ?_, ?_, ?_, ?_, ?_, ?_, ?_, ?_, ?_, ?_, ?_, ?_, ?_, ?_, ?_, ?_, ?_, ?_, ?_, ?_, ?_, ?_, ?_, ?_, ?_, trivial⟩ ?_
    · intro tr act w' hm hout hsz hd hG hk hub
      refine jg_run (by rfl) rfl (wanted_none rfl) (ex_field rfl Try.underlying32 rfl (by kernel_rfl) ((hout 3 (by decide)).trans oe3)) (Mod.refl _ _) ?_
      rfl
    · intro tr act w' hm hout hsz hd hG hk hub
      have h0 := hd ⟨0, .data⟩ (by simp) rfl _ rfl
      refine jg_run (by rfl) rfl (wanted_none rfl) (ex_field rfl Try.underlying26 rfl (by kernel_rfl) h0) (Mod.refl _ _) ?_
      rfl
    · intro tr act w' hm hout hsz hd hG hk hub
      have h1 := hd ⟨1, .data⟩ (by simp) rfl _ rfl
      exact jg_run (by rfl) rfl (wanted_none rfl) (ex_load1 rfl Try.underlying3 rfl h1 ((KX.out.mod hm (fun h => h)).c0)) (Mod.refl _ _) rfl
    · intro tr act w' hm hout hsz hd hG hk hub
      have h2 := hd ⟨2, .data⟩ (by simp) rfl _ rfl
      refine jg_run (by rfl) rfl (wanted_none rfl) (ex_bin rfl h2 rfl (guard_ints _ _ _ _ _ _) (run_geq_i _ _ _ Try.underlying3)) (Mod.refl _ _) ?_
      exact congrArg Value.bool E0.out
    · intro tr act w' hm hout hsz hd hG hk hub
      have h3 := hd ⟨3, .data⟩ (by simp) rfl _ rfl
      exact jg_run (by rfl) rfl (wanted_none rfl) (ex_move rfl h3) (Mod.refl _ _) rfl
    · intro tr act w' hm hout hsz hd hG hk hub
      have h4 := hd ⟨4, .guard⟩ (by simp) rfl _ rfl
      exact jg_skip (fun _ _ _ h => h) (by rfl) rfl ((wanted_of rfl rfl (hsz 9 (by decide)) h4).trans rfl) rfl
    · intro tr act w' hm hout hsz hd hG hk hub
      have h4 := hd ⟨4, .guard⟩ (by simp) rfl _ rfl
      exact jg_skip (fun _ _ _ h => h) (by rfl) rfl ((wanted_of rfl rfl (hsz 9 (by decide)) h4).trans rfl) rfl
    · intro tr act w' hm hout hsz hd hG hk hub
      have h4 := hd ⟨4, .guard⟩ (by simp) rfl _ rfl
      exact jg_skip (fun _ _ _ h => h) (by rfl) rfl ((wanted_of rfl rfl (hsz 9 (by decide)) h4).trans rfl) rfl
    · intro tr act w' hm hout hsz hd hG hk hub
      have h4 := hd ⟨4, .guard⟩ (by simp) rfl _ rfl
      exact jg_skip (fun _ _ _ h => h) (by rfl) rfl ((wanted_of rfl rfl (hsz 9 (by decide)) h4).trans rfl) rfl
    · intro tr act w' hm hout hsz hd hG hk hub
      have h4 := hd ⟨4, .guard⟩ (by simp) rfl _ rfl
      exact jg_skip (fun _ _ _ h => h) (by rfl) rfl ((wanted_of rfl rfl (hsz 9 (by decide)) h4).trans rfl) rfl
    · intro tr act w' hm hout hsz hd hG hk hub
      have h4 := hd ⟨4, .guard⟩ (by simp) rfl _ rfl
      exact jg_skip (fun _ _ _ h => h) (by rfl) rfl ((wanted_of rfl rfl (hsz 9 (by decide)) h4).trans rfl) rfl
    · intro tr act w' hm hout hsz hd hG hk hub
      have h4 := hd ⟨4, .data⟩ (by simp) rfl _ rfl
      have h10 := hd ⟨10, .data⟩ (by simp) rfl _ rfl
      exact jg_run (by rfl) rfl (wanted_none rfl) (ex_pick rfl h4 h10 rfl) (Mod.refl _ _) rfl
    · intro tr act w' hm hout hsz hd hG hk hub
      have h11 := hd ⟨11, .data⟩ (by simp) rfl _ rfl
      exact jg_run (by rfl) rfl (wanted_none rfl) (ex_move rfl h11) (Mod.refl _ _) rfl
    · intro tr act w' hm hout hsz hd hG hk hub
      have h12 := hd ⟨12, .guard⟩ (by simp) rfl _ rfl
      exact jg_skip (fun _ _ _ h => h) (by rfl) rfl ((wanted_of rfl rfl (hsz 17 (by decide)) h12).trans rfl) rfl
    · intro tr act w' hm hout hsz hd hG hk hub
      have h12 := hd ⟨12, .guard⟩ (by simp) rfl _ rfl
      exact jg_skip (fun _ _ _ h => h) (by rfl) rfl ((wanted_of rfl rfl (hsz 17 (by decide)) h12).trans rfl) rfl
    · intro tr act w' hm hout hsz hd hG hk hub
      have h12 := hd ⟨12, .guard⟩ (by simp) rfl _ rfl
      exact jg_skip (fun _ _ _ h => h) (by rfl) rfl ((wanted_of rfl rfl (hsz 17 (by decide)) h12).trans rfl) rfl
    · intro tr act w' hm hout hsz hd hG hk hub
      have h12 := hd ⟨12, .guard⟩ (by simp) rfl _ rfl
      exact jg_skip (fun _ _ _ h => h) (by rfl) rfl ((wanted_of rfl rfl (hsz 17 (by decide)) h12).trans rfl) rfl
    · intro tr act w' hm hout hsz hd hG hk hub
      have h12 := hd ⟨12, .data⟩ (by simp) rfl _ rfl
      have h16 := hd ⟨16, .data⟩ (by simp) rfl _ rfl
      exact jg_run (by rfl) rfl (wanted_none rfl) (ex_pick rfl h12 h16 rfl) (Mod.refl _ _) rfl
    · intro tr act w' hm hout hsz hd hG hk hub
      have h17 := hd ⟨17, .data⟩ (by simp) rfl _ rfl
      exact jg_run (by rfl) rfl (wanted_none rfl) (ex_move rfl h17) (Mod.refl _ _) rfl
    · intro tr act w' hm hout hsz hd hG hk hub
      have h18 := hd ⟨18, .guard⟩ (by simp) rfl _ rfl
      exact jg_skip (fun _ _ _ h => h) (by rfl) rfl ((wanted_of rfl rfl (hsz 23 (by decide)) h18).trans rfl) rfl
    · intro tr act w' hm hout hsz hd hG hk hub
      have h18 := hd ⟨18, .guard⟩ (by simp) rfl _ rfl
      exact jg_skip (fun _ _ _ h => h) (by rfl) rfl ((wanted_of rfl rfl (hsz 23 (by decide)) h18).trans rfl) rfl
    · intro tr act w' hm hout hsz hd hG hk hub
      have h18 := hd ⟨18, .guard⟩ (by simp) rfl _ rfl
      exact jg_skip (fun _ _ _ h => h) (by rfl) rfl ((wanted_of rfl rfl (hsz 23 (by decide)) h18).trans rfl) rfl
    · intro tr act w' hm hout hsz hd hG hk hub
      have h18 := hd ⟨18, .guard⟩ (by simp) rfl _ rfl
      exact jg_skip (fun _ _ _ h => h) (by rfl) rfl ((wanted_of rfl rfl (hsz 23 (by decide)) h18).trans rfl) rfl
    · intro tr act w' hm hout hsz hd hG hk hub
      have h18 := hd ⟨18, .data⟩ (by simp) rfl _ rfl
      have h22 := hd ⟨22, .data⟩ (by simp) rfl _ rfl
      exact jg_run (by rfl) rfl (wanted_none rfl) (ex_pick rfl h18 h22 rfl) (Mod.refl _ _) rfl
    · intro tr act w' hm hout hsz hd hG hk hub
      have h23 := hd ⟨23, .data⟩ (by simp) rfl _ rfl
      exact jg_run (by rfl) rfl (wanted_none rfl) (ex_move rfl h23) (Mod.refl _ _) rfl
    · intro tr act w' hm hout hsz hd hG hk hub
      have h24 := hd ⟨24, .guard⟩ (by simp) rfl _ rfl
      exact jg_skip (fun _ _ _ h => h) (by rfl) rfl ((wanted_of rfl rfl (hsz 29 (by decide)) h24).trans rfl) rfl
    · intro tr act w' hm hout hsz hd hG hk hub
      have h24 := hd ⟨24, .guard⟩ (by simp) rfl _ rfl
      exact jg_skip (fun _ _ _ h => h) (by rfl) rfl ((wanted_of rfl rfl (hsz 29 (by decide)) h24).trans rfl) rfl
    · intro tr act w' hm hout hsz hd hG hk hub
      have h24 := hd ⟨24, .guard⟩ (by simp) rfl _ rfl
      exact jg_skip (fun _ _ _ h => h) (by rfl) rfl ((wanted_of rfl rfl (hsz 29 (by decide)) h24).trans rfl) rfl
    · intro tr act w' hm hout hsz hd hG hk hub
      have h24 := hd ⟨24, .data⟩ (by simp) rfl _ rfl
      have h27 := hd ⟨27, .data⟩ (by simp) rfl _ rfl
      exact jg_run (by rfl) rfl (wanted_none rfl) (ex_pick rfl h24 h27 rfl) (Mod.refl _ _) rfl
    · intro tr act w' hm hout hsz hd hG hk hub
      have h28 := hd ⟨28, .data⟩ (by simp) rfl _ rfl
      exact jg_run (by rfl) rfl (wanted_none rfl) (ex_move rfl h28) (Mod.refl _ _) rfl
    · intro tr act w' hm hout hsz hd hG hk hub
      have h29 := hd ⟨29, .guard⟩ (by simp) rfl _ rfl
      exact jg_skip (fun _ _ _ h => h) (by rfl) rfl ((wanted_of rfl rfl (hsz 34 (by decide)) h29).trans rfl) rfl
    · intro tr act w' hm hout hsz hd hG hk hub
      have h29 := hd ⟨29, .guard⟩ (by simp) rfl _ rfl
      exact jg_skip (fun _ _ _ h => h) (by rfl) rfl ((wanted_of rfl rfl (hsz 34 (by decide)) h29).trans rfl) rfl
    · intro tr act w' hm hout hsz hd hG hk hub
      have h29 := hd ⟨29, .guard⟩ (by simp) rfl _ rfl
      exact jg_skip (fun _ _ _ h => h) (by rfl) rfl ((wanted_of rfl rfl (hsz 34 (by decide)) h29).trans rfl) rfl
    · intro tr act w' hm hout hsz hd hG hk hub
      have h29 := hd ⟨29, .data⟩ (by simp) rfl _ rfl
      have h32 := hd ⟨32, .data⟩ (by simp) rfl _ rfl
      exact jg_run (by rfl) rfl (wanted_none rfl) (ex_pick rfl h29 h32 rfl) (Mod.refl _ _) rfl
    · intro tr act w' hm hout hsz hd hG hk hub
      have h33 := hd ⟨33, .data⟩ (by simp) rfl _ rfl
      exact jg_run (by rfl) rfl (wanted_none rfl) (ex_assign rfl h33) (Mod.refl _ _) rfl
    intro vs tr w3 hl htl hm hG hV
    obtain ⟨v0, vs0, rfl, hl0⟩ := list_cons hl
    obtain ⟨v1, vs1, rfl, hl1⟩ := list_cons hl0
    obtain ⟨v2, vs2, rfl, hl2⟩ := list_cons hl1
    obtain ⟨v3, vs3, rfl, hl3⟩ := list_cons hl2
    obtain ⟨v4, vs4, rfl, hl4⟩ := list_cons hl3
    obtain ⟨v5, vs5, rfl, hl5⟩ := list_cons hl4
    obtain ⟨v6, vs6, rfl, hl6⟩ := list_cons hl5
    obtain ⟨v7, vs7, rfl, hl7⟩ := list_cons hl6
    obtain ⟨v8, vs8, rfl, hl8⟩ := list_cons hl7
    obtain ⟨v9, vs9, rfl, hl9⟩ := list_cons hl8
    obtain ⟨v10, vs10, rfl, hl10⟩ := list_cons hl9
    obtain ⟨v11, vs11, rfl, hl11⟩ := list_cons hl10
    obtain ⟨v12, vs12, rfl, hl12⟩ := list_cons hl11
    obtain ⟨v13, vs13, rfl, hl13⟩ := list_cons hl12
    obtain ⟨v14, vs14, rfl, hl14⟩ := list_cons hl13
    obtain ⟨v15, vs15, rfl, hl15⟩ := list_cons hl14
    obtain ⟨v16, vs16, rfl, hl16⟩ := list_cons hl15
    obtain ⟨v17, vs17, rfl, hl17⟩ := list_cons hl16
    obtain ⟨v18, vs18, rfl, hl18⟩ := list_cons hl17
    obtain ⟨v19, vs19, rfl, hl19⟩ := list_cons hl18
    obtain ⟨v20, vs20, rfl, hl20⟩ := list_cons hl19
    obtain ⟨v21, vs21, rfl, hl21⟩ := list_cons hl20
    obtain ⟨v22, vs22, rfl, hl22⟩ := list_cons hl21
    obtain ⟨v23, vs23, rfl, hl23⟩ := list_cons hl22
    obtain ⟨v24, vs24, rfl, hl24⟩ := list_cons hl23
    obtain ⟨v25, vs25, rfl, hl25⟩ := list_cons hl24
    obtain ⟨v26, vs26, rfl, hl26⟩ := list_cons hl25
    obtain ⟨v27, vs27, rfl, hl27⟩ := list_cons hl26
    obtain ⟨v28, vs28, rfl, hl28⟩ := list_cons hl27
    obtain ⟨v29, vs29, rfl, hl29⟩ := list_cons hl28
    obtain ⟨v30, vs30, rfl, hl30⟩ := list_cons hl29
    obtain ⟨v31, vs31, rfl, hl31⟩ := list_cons hl30
    obtain ⟨v32, vs32, rfl, hl32⟩ := list_cons hl31
    obtain ⟨v33, vs33, rfl, hl33⟩ := list_cons hl32
    obtain ⟨v34, vs34, rfl, hl34⟩ := list_cons hl33
    obtain rfl := list_nil hl34
    clear hl hl0 hl1 hl2 hl3 hl4 hl5 hl6 hl7 hl8 hl9 hl10 hl11 hl12 hl13 hl14 hl15 hl16 hl17 hl18 hl19 hl20 hl21 hl22 hl23 hl24 hl25 hl26 hl27 hl28 hl29 hl30 hl31 hl32 hl33 hl34
    obtain rfl : v34 = .bool false := hV 34 _ rfl
    have ha0 := HA0.out
    subst ha0
    clear HA0 hV hsz0 oe2 oe3
    simp only [putAll, Act.put, List.setIfInBounds_toArray, List.set_cons_zero, List.set_cons_succ]
    have KM3 := Lib.hid (KM.out.trans hm (fun _ _ h => h))
    clear hm hG
    go_wp2
    go_ret
    exact ⟨congrArg (fun z => Ending.returned (Value.bool z)) (show false = validF k c by unfold validF; (simp only [E0.out, Bool.false_and] <;> rfl)), KM3.out⟩
end Go.Proofs.Ytgnmdnmmemdemaa
