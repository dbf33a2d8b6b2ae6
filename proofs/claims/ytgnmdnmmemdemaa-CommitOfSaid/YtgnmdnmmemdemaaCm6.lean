/- gavellaw04.wakes. -/
import Derived.Test.YtgnmdnmmemdemaaCm5
set_option maxRecDepth 100000
set_option linter.unusedVariables false
namespace Go.Proofs.Ytgnmdnmmemdemaa
open Go Go.RowKit Go.Gv

theorem signF_pos (L : List (Int × List Int)) (k : Int × List Int) : mkN (signF L k) k ≠ 0 := by
  unfold signF
  by_cases h : mkN L k = 0
  · rw [if_pos h]
    have := marks_put 0 L k (mkN_none h)
    unfold mkN
    rw [← this, mlook_put, if_pos rfl]
    simp
  · rw [if_neg h]; exact h
theorem right_made (L : List (Int × List Int)) (a b : Int) (h bs : List Int) (k : Int) (hv : validF k (cm0 a b h bs) = true) : rightC (mkBook L a b h bs) k (mkCm L a b h bs) = true := by
  unfold rightC
  rw [show validF k (mkCm L a b h bs) = true from hv, show ((mkCm L a b h bs).sb == 1000 + (mkCm L a b h bs).cl) = true by simp [mkCm, cm0]]
  unfold rightF
  have e : ((mkCm L a b h bs).sb, txT (mkCm L a b h bs)) = mkKey a b h bs := rfl
  rw [e, decide_eq_true (show mkN (mkBook L a b h bs) (mkKey a b h bs) ≠ 0 from signF_pos _ _)]
  simp [mkCm]
theorem mkCm_ok (L : List (Int × List Int)) (a b : Int) (h bs : List Int) (ha : I64 a) (hs : I64 (1000 + a)) (hb : I64 b) (hl : bs.length ≤ 1000000) (hL : L.length ≤ 1000000) : (mkCm L a b h bs).OK := by
  refine ⟨⟨ha, hb, ?_, hs, ?_⟩, shaF_len _, shaF_bytes _⟩
  · simp only [mkCm, cm0, I64]; omega
  · have : mkN (mkBook L a b h bs) (mkKey a b h bs) ≤ 1000001 := by
      unfold mkN
      cases hq : mlook (marksFrom 0 (mkBook L a b h bs)) (mkKey a b h bs) with
      | none => simp
      | some m =>
        have := (marks_pos 0 _ _ m hq).2
        have h2 : (mkBook L a b h bs).length ≤ L.length + 1 := by unfold mkBook signF; split <;> simp
        simp; omega
    simp only [mkCm, I64]; omega
theorem lit_rd {B K : Nat} {t : List Value} {v : Value} {w : World} {C : List Int} (h : litG B 5 K (C.map bv).toArray t v w) (hk : t.length ≤ K) (hC : Bytes C) (hl : C.length ≤ 1000) : RdB w v C := by
  obtain ⟨g, rfl, -, m, -, hb⟩ := h hk
  refine ⟨hC, ?_⟩
  have e : (C.map bv).toArray.size = C.length := by simp
  rw [e]
  refine Rd.mk (by omega) (by rw [maxLen_val]; omega) (by simp) (fun j u hu => ?_)
  rw [show (0 : Nat) + j = j by omega]
  simp only [World.cell?, hb]
  simpa using hu
def WkSt (g b : Nat) (L : List (Int × List Int)) : Nat → List Value → World → Prop := fun k _ w => match k with
  | 0 => BookIs w g b []
  | _ => BookIs w g b L
theorem BookIs.marked {B g b : Nat} {L : List (Int × List Int)} {w w' : World} (h : BookIs w g b L) (hm : Marked B 5 w w') : BookIs w' g b L := ⟨Cs_marked' h.cell hm (by decide), h.map.marked hm⟩
theorem WkSt_still {g b B K : Nat} {L : List (Int × List Int)} : ∀ t w w', ByLen (WkSt g b L) t w → StillM B 5 K t.length w w' → ByLen (WkSt g b L) t w' := by
  intro t w w' h hr
  unfold ByLen at h ⊢
  have key : ∀ L', BookIs w g b L' → BookIs w' g b L' := fun L' h => by
    rcases hr with hr | ⟨-, hr⟩
    · exact h.mod hr (fun h => h) (fun h => h)
    · exact h.marked hr
  revert h
  cases t.length with
  | zero => exact key _
  | succ k => exact key _
theorem WkSt_mod {S : Nat → Prop} {g b : Nat} {L : List (Int × List Int)} {t : List Value} {w w' : World} (h : ByLen (WkSt g b L) t w) (hm : Mod S w w') (h1 : ¬ S g) (h2 : ¬ S b) : ByLen (WkSt g b L) t w' := by
  unfold ByLen at h ⊢
  have key : ∀ L', BookIs w g b L' → BookIs w' g b L' := fun L' h => h.mod hm h1 h2
  revert h
  cases t.length with
  | zero => exact key _
  | succ k => exact key _
set_option maxHeartbeats 2000000 in
theorem wakes04 (w : World) : Calls Try.prog 16 #[] w fun e w' => e = .returned (.bool true) ∧ Mod (fun _ => False) w w' := by
  go_enter Try.func16, Try.ntmps16
  go_wp2_with fail
  refine (Book_new _).mono ?_
  rintro e w1 ⟨g, b, rfl, y1, y2, hb0, hm1⟩
  have HB0 := Lib.hid (show ByLen (WkSt g b (mkBook [] 0 1 (List.replicate 32 (0 : Int)) [97])) [] w1 from hb0)
  have KM := Lib.hid hm1
  have zg := hb0.cell.lt
  have zb := hb0.map.lt
  clear hb0 hm1
  go_upto_region 4 with (fail)
  generalize ha0 : Act.mk _ _ = a0
  have oe1 : a0.eval (.tmp 1) = .pointer (some ⟨g, 0, none⟩) := by rw [← ha0]; rfl
  have hsz0 : a0.tmps.size = 16 := by rw [← ha0]; rfl
  have HA0 := Lib.hid ha0
  clear ha0
  refine wp_region_A 16 hsz0 (by kernel_rfl) (by kernel_rfl) [6, 7, 8, 9, 10, 11, 2, 23] (by kernel_rfl) (by decide) (fun j => j = b ∨ w1.heap.size ≤ j) (fun _ j => j = b) (fun _ _ h => Or.inl h) (StillM w1.heap.size 5 0) stillM_still (stillM_T2 (fun _ h => Or.inr h)) [gi (.pointer (some ⟨g, 0, none⟩)), gi (.agg ([.int .i64 0, .int .i64 1] : List Value).toArray), gi (hv (List.replicate 32 (0 : Int))), litG w1.heap.size 5 0 ([97].map bv).toArray, litG w1.heap.size 5 0 ([97].map bv).toArray, gi ((mkCm [] 0 1 (List.replicate 32 (0 : Int)) [97]).val), ga, ga] ⟨gi_stable, gi_stable, gi_stable, litG_stable (fun k hk j h => by omega), litG_stable (fun k hk j h => by omega), gi_stable, ga_stable, ga_stable, trivial⟩ [5] (by kernel_rfl) (by decide) (by kernel_rfl) (ByLen (WkSt g b (mkBook [] 0 1 (List.replicate 32 (0 : Int)) [97]))) WkSt_still HB0.out [⟨6, 7, 32, [.int .i64 0, .int .i64 0, .int .u8 0, .int .u8 0, .int .u8 0, .int .u8 0, .int .u8 0, .int .u8 0, .int .u8 0, .int .u8 0, .int .u8 0, .int .u8 0, .int .u8 0, .int .u8 0, .int .u8 0, .int .u8 0, .int .u8 0, .int .u8 0, .int .u8 0, .int .u8 0, .int .u8 0, .int .u8 0, .int .u8 0, .int .u8 0, .int .u8 0, .int .u8 0, .int .u8 0, .int .u8 0, .int .u8 0, .int .u8 0, .int .u8 0, .int .u8 0, .int .u8 0, .int .u8 0, .int .i64 0, .int .i64 0, .int .i64 0], Cm.cells (mkCm [] 0 1 (List.replicate 32 (0 : Int)) [97])⟩] (by kernel_rfl) (by intro r hr; simp only [List.mem_cons, List.not_mem_nil, or_false] at hr; rcases hr with rfl <;> exact ⟨rfl, rfl⟩) (fun k j h => by omega) (fun j h => Or.inr h) (stillMA (by intro r hr; simp only [List.mem_cons, List.not_mem_nil, or_false] at hr; rcases hr with rfl; decide)) (fun t w w' _ h hm => WkSt_mod h hm (by omega) (by omega)) (AllEnd.get _ ⟨gi_end, gi_end, gi_end, litG_end (by decide), litG_end (by decide), gi_end, ga_end, ga_end, trivial⟩) (by intro r hr; simp only [List.mem_cons, List.not_mem_nil, or_false] at hr; rcases hr with rfl <;> exact ⟨of_decide_eq_true (by kernel_rfl), of_decide_eq_true (by kernel_rfl)⟩) (by intro r hr; simp only [List.mem_cons, List.not_mem_nil, or_false] at hr; rcases hr with rfl <;> exact fun _ _ _ => ⟨trivial, trivial⟩) ⟨?_, ?_, ?_, ?_, ?_, ?_, ?_, ?_, trivial⟩ ?_
  · refine ⟨fun r hr e => ?_, fun r hr e => ?_, fun hno => ?_⟩
    · simp only [List.mem_cons, List.not_mem_nil, or_false] at hr
      rcases hr with rfl
      · simp at e
    · simp only [List.mem_cons, List.not_mem_nil, or_false] at hr
      rcases hr with rfl
      · simp at e
    · intro tr act w' hm hout hsz hd hG hk hub
      exact jg_run (by rfl) rfl (wanted_none rfl) (ex_move rfl ((hout 1 (by decide)).trans oe1)) (Or.inl (Mod.refl _ _)) rfl
  · refine ⟨fun r hr e => ?_, fun r hr e => ?_, fun hno => ?_⟩
    · simp only [List.mem_cons, List.not_mem_nil, or_false] at hr
      rcases hr with rfl
      · simp at e
    · simp only [List.mem_cons, List.not_mem_nil, or_false] at hr
      rcases hr with rfl
      · simp at e
    · intro tr act w' hm hout hsz hd hG hk hub
      exact jg_run (by rfl) rfl (wanted_none rfl) (ex_build rfl (z := [.int .i64 0, .int .i64 0]) (places := [(0, 1), (1, 1)]) (by kernel_rfl) (parts := [(1, .int .i64 1)]) (by simp only [List.map_toArray, List.map_cons, List.map_nil]; try rfl) (r := [.int .i64 0, .int .i64 1]) (by rfl)) (Or.inl (Mod.refl _ _)) rfl
  · refine ⟨fun r hr e => ?_, fun r hr e => ?_, fun hno => ?_⟩
    · simp only [List.mem_cons, List.not_mem_nil, or_false] at hr
      rcases hr with rfl
      · simp at e
    · simp only [List.mem_cons, List.not_mem_nil, or_false] at hr
      rcases hr with rfl
      · simp at e
    · intro tr act w' hm hout hsz hd hG hk hub
      exact jg_run (by rfl) rfl (wanted_none rfl) (ex_build0 rfl (r := ((List.replicate 32 (0 : Int)).map bv).toArray) (by kernel_rfl)) (Or.inl (Mod.refl _ _)) rfl
  · refine ⟨fun r hr e => ?_, fun r hr e => ?_, fun hno => ?_⟩
    · simp only [List.mem_cons, List.not_mem_nil, or_false] at hr
      rcases hr with rfl
      · simp at e
    · simp only [List.mem_cons, List.not_mem_nil, or_false] at hr
      rcases hr with rfl
      · simp at e
    · intro tr act w' hm hout hsz hd hG hk hub
      refine jg_run (by rfl) rfl (wanted_none rfl) (ex_lit rfl Try.underlying36 (by kernel_rfl) (by decide) (C := ([97].map bv).toArray) (by simp only [List.map_toArray, List.map_cons, List.map_nil, Act.eval]; kernel_rfl)) (Or.inl ((Mod.refl _ _).alloc _)) ?_
      exact fun _ => ⟨_, rfl, hm.size, _, Or.inl rfl, heap_alloc_new _ _⟩
  · refine ⟨fun r hr e => ?_, fun r hr e => ?_, fun hno => ?_⟩
    · simp only [List.mem_cons, List.not_mem_nil, or_false] at hr
      rcases hr with rfl
      · simp at e
    · simp only [List.mem_cons, List.not_mem_nil, or_false] at hr
      rcases hr with rfl
      · simp at e
    · intro tr act w' hm hout hsz hd hG hk hub
      have h3 := hd ⟨3, .data⟩ (by simp) rfl _ rfl
      have hle := hub 0 5 rfl (by kernel_rfl)
      obtain ⟨g, e1, hB, m, h0', hb⟩ := h3 hle
      exact jg_mark (by rfl) rfl (wanted_none rfl) rfl Try.underlying36 Try.underlying5 h0' hB hb e1 (fun _ hmk => Or.inr ⟨hle, hmk⟩) (fun _ hb2 _ => ⟨g, rfl, hB, _, Or.inr rfl, hb2⟩)
  · refine ⟨fun r hr e => ?_, fun r hr e => ?_, fun hno => ?_⟩
    · simp only [List.mem_cons, List.not_mem_nil, or_false] at hr
      rcases hr with rfl
      · simp at e
    · simp only [List.mem_cons, List.not_mem_nil, or_false] at hr
      rcases hr with rfl
      · simp at e
    · intro tr act w' hm hout hsz hd hG hk hub
      have h0 := hd ⟨0, .data⟩ (by simp) rfl _ rfl
      have h1 := hd ⟨1, .data⟩ (by simp) rfl _ rfl
      have h2 := hd ⟨2, .data⟩ (by simp) rfl _ rfl
      have h4 := hd ⟨4, .data⟩ (by simp) rfl _ rfl
      have hl := hk 0 rfl
      have hs := hG.at hl
      obtain ⟨u, hu0⟩ : ∃ u, u = act.eval (.tmp 10) := ⟨_, rfl⟩
      have hu : RdB w' u [97] := by rw [hu0]; exact lit_rd (C := [97]) (h4 : litG _ _ _ _ _ _ _) (by omega) (by unfold Bytes; decide) (by decide)
      refine jc_call (args := #[.pointer (some ⟨g, 0, none⟩), .agg #[.int .i64 0, .int .i64 1], hv (List.replicate 32 (0 : Int)), u]) (by rfl) rfl (wanted_none rfl) (by rw [ex_callF rfl Try.func19 (by kernel_rfl) (by kernel_rfl)]; exact congrArg (fun z => Result.ok (Next.enter _ z) _) (by simp only [List.map_toArray, List.map_cons, List.map_nil, show act.eval (.tmp 6) = _ from h0, show act.eval (.tmp 7) = _ from h1, show act.eval (.tmp 8) = _ from h2, show act.eval (.tmp 10) = _ from hu0.symm]; try rfl)) (Make_any hs (by decide) 0 1 (List.replicate 32 (0 : Int)) [97] u (by unfold I64; decide) (by unfold I64; decide) (by unfold I64; decide) ⟨by simp, by intro x hx; rw [List.eq_of_mem_replicate hx]; decide⟩ hu (by decide)) ?_
      rintro e w2 ⟨rfl, hb2, hm2⟩
      exact ⟨_, rfl, hm2, rfl, ByLen.on hl hb2⟩
  · refine ⟨fun r hr e => ?_, fun r hr e => ?_, fun hno => ?_⟩
    · simp only [List.mem_cons, List.not_mem_nil, or_false] at hr
      rcases hr with rfl
      · exact ⟨rfl, rfl, by kernel_rfl, (by rw [Cm.len (shaF_len _)]; rfl), (Cm.one _), (by rw [Cm.len (shaF_len _)]; exact size_commit)⟩
    · simp only [List.mem_cons, List.not_mem_nil, or_false] at hr
      rcases hr with rfl
      · simp at e
    · exact absurd rfl (hno ⟨6, 7, 32, [.int .i64 0, .int .i64 0, .int .u8 0, .int .u8 0, .int .u8 0, .int .u8 0, .int .u8 0, .int .u8 0, .int .u8 0, .int .u8 0, .int .u8 0, .int .u8 0, .int .u8 0, .int .u8 0, .int .u8 0, .int .u8 0, .int .u8 0, .int .u8 0, .int .u8 0, .int .u8 0, .int .u8 0, .int .u8 0, .int .u8 0, .int .u8 0, .int .u8 0, .int .u8 0, .int .u8 0, .int .u8 0, .int .u8 0, .int .u8 0, .int .u8 0, .int .u8 0, .int .u8 0, .int .u8 0, .int .i64 0, .int .i64 0, .int .i64 0], Cm.cells (mkCm [] 0 1 (List.replicate 32 (0 : Int)) [97])⟩ (by simp)).1
  · refine ⟨fun r hr e => ?_, fun r hr e => ?_, fun hno => ?_⟩
    · simp only [List.mem_cons, List.not_mem_nil, or_false] at hr
      rcases hr with rfl
      · simp at e
    · simp only [List.mem_cons, List.not_mem_nil, or_false] at hr
      rcases hr with rfl
      · refine ⟨rfl, _, (.tmp 11), rfl, by decide, rfl, by kernel_rfl, by kernel_rfl, fun tr act w' hm hout hd hG => ?_⟩
        have h5 := hd ⟨5, .data⟩ (by simp) rfl _ rfl
        rw [show act.eval ((.tmp 11)) = _ from h5]
        rfl
    · exact absurd rfl (hno ⟨6, 7, 32, [.int .i64 0, .int .i64 0, .int .u8 0, .int .u8 0, .int .u8 0, .int .u8 0, .int .u8 0, .int .u8 0, .int .u8 0, .int .u8 0, .int .u8 0, .int .u8 0, .int .u8 0, .int .u8 0, .int .u8 0, .int .u8 0, .int .u8 0, .int .u8 0, .int .u8 0, .int .u8 0, .int .u8 0, .int .u8 0, .int .u8 0, .int .u8 0, .int .u8 0, .int .u8 0, .int .u8 0, .int .u8 0, .int .u8 0, .int .u8 0, .int .u8 0, .int .u8 0, .int .u8 0, .int .u8 0, .int .i64 0, .int .i64 0, .int .i64 0], Cm.cells (mkCm [] 0 1 (List.replicate 32 (0 : Int)) [97])⟩ (by simp)).2
  intro vs tr w2 hl htl hm hG hV hAL hNE
  obtain ⟨v0, vs0, rfl, hl0⟩ := list_cons hl
  obtain ⟨v1, vs1, rfl, hl1⟩ := list_cons hl0
  obtain ⟨v2, vs2, rfl, hl2⟩ := list_cons hl1
  obtain ⟨v3, vs3, rfl, hl3⟩ := list_cons hl2
  obtain ⟨v4, vs4, rfl, hl4⟩ := list_cons hl3
  obtain ⟨v5, vs5, rfl, hl5⟩ := list_cons hl4
  obtain ⟨v6, vs6, rfl, hl6⟩ := list_cons hl5
  obtain ⟨v7, vs7, rfl, hl7⟩ := list_cons hl6
  obtain rfl := list_nil hl7
  obtain ⟨q0, fq0, hqB0, hqC0⟩ := hAL _ (by simp only [List.mem_cons, List.not_mem_nil, or_false]; trivial)
  obtain rfl : v6 = _ := Option.some.inj fq0
  clear hl hl0 hl1 hl2 hl3 hl4 hl5 hl6 hl7
  have ha0 := HA0.out
  subst ha0
  clear HA0 hV hsz0 oe1
  simp only [putAll, Act.put, List.setIfInBounds_toArray, List.set_cons_zero, List.set_cons_succ, List.set_nil]
  have HB2 := Lib.hid (show BookIs w2 g b (mkBook [] 0 1 (List.replicate 32 (0 : Int)) [97]) from hG.at htl)
  have KQ := Lib.hid (show Cs w2 q0 (Cm.cells (mkCm [] 0 1 (List.replicate 32 (0 : Int)) [97])).toArray 32 from hqC0)
  have KM2 := Lib.hid (KM.out.trans hm (fun k h1 h2 => by omega))
  have HOK := Lib.hid (mkCm_ok [] 0 1 (List.replicate 32 (0 : Int)) [97] (by unfold I64; decide) (by unfold I64; decide) (by unfold I64; decide) (by decide) (by decide))
  clear hG hm htl hAL hNE hqC0 fq0 KM HB0
  go_upto_region 5 with (fail)
  generalize ha0 : Act.mk _ _ = a0
  have oe1 : a0.eval (.tmp 1) = .pointer (some ⟨g, 0, none⟩) := by rw [← ha0]; rfl
  have oe2 : a0.eval (.tmp 2) = .pointer (some ⟨q0, 0, none⟩) := by rw [← ha0]; rfl
  have hsz0 : a0.tmps.size = 16 := by rw [← ha0]; rfl
  have HA0 := Lib.hid ha0
  clear ha0
  refine wp_region_G 16 hsz0 (by kernel_rfl) (by kernel_rfl) [12, 13, 14, 15, 0] (by kernel_rfl) (by decide) (fun _ => False) (fun _ _ => False) (fun _ _ h => h) Still (fun _ _ _ h => h) (fun _ _ _ hm h => hm.trans h (fun _ _ h => h.elim)) [gi (.agg ([.int .i64 1, .int .i64 1] : List Value).toArray), gi (.pointer (some ⟨g, 0, none⟩)), gi ((mkCm [] 0 1 (List.replicate 32 (0 : Int)) [97]).val), gi (.bool true), gi (.bool true)] ⟨gi_stable, gi_stable, gi_stable, gi_stable, gi_stable, trivial⟩ [] (by kernel_rfl) (by decide) (by kernel_rfl) (fun _ _ => True) (fun _ _ _ _ _ => trivial) trivial ⟨?_, ?_, ?_, ?_, ?_, trivial⟩ ?_
  · intro tr act w' hm hout hsz hd hG hk hub
    exact jg_run (by rfl) rfl (wanted_none rfl) (ex_build rfl (z := [.int .i64 0, .int .i64 0]) (places := [(0, 1), (1, 1)]) (by kernel_rfl) (parts := [(0, .int .i64 1), (1, .int .i64 1)]) (by simp only [List.map_toArray, List.map_cons, List.map_nil]; try rfl) (r := [.int .i64 1, .int .i64 1]) (by rfl)) (Mod.refl _ _) rfl
  · intro tr act w' hm hout hsz hd hG hk hub
    exact jg_run (by rfl) rfl (wanted_none rfl) (ex_move rfl ((hout 1 (by decide)).trans oe1)) (Mod.refl _ _) rfl
  · intro tr act w' hm hout hsz hd hG hk hub
    exact jg_run (by rfl) rfl (wanted_none rfl) (ex_loadA rfl Try.underlying32 rfl (off := 0) (cs := Cm.cells (mkCm [] 0 1 (List.replicate 32 (0 : Int)) [97])) (by rw [Cm.len (shaF_len _)]; exact size_commit) ((hout 2 (by decide)).trans oe2) (Cs.whole (KQ.out.mod hm (fun h => h)))) (Mod.refl _ _) rfl
  · intro tr act w' hm hout hsz hd hG hk hub
    have h0 := hd ⟨0, .data⟩ (by simp) rfl _ rfl
    have h1 := hd ⟨1, .data⟩ (by simp) rfl _ rfl
    have h2 := hd ⟨2, .data⟩ (by simp) rfl _ rfl
    refine jg_call (args := #[.agg #[.int .i64 1, .int .i64 1], .pointer (some ⟨g, 0, none⟩), (mkCm [] 0 1 (List.replicate 32 (0 : Int)) [97]).val]) (by rfl) rfl (wanted_none rfl) (by rw [ex_callF rfl Try.func21 (by kernel_rfl) (by kernel_rfl)]; exact congrArg (fun z => Result.ok (Next.enter _ z) _) (by simp only [List.map_toArray, List.map_cons, List.map_nil, show act.eval (.tmp 12) = _ from h0, show act.eval (.tmp 13) = _ from h1, show act.eval (.tmp 14) = _ from h2]; try rfl)) (Right_any (HB2.out.mod hm (fun h => h) (fun h => h)) 1 1 (mkCm [] 0 1 (List.replicate 32 (0 : Int)) [97]) HOK.out (by show I64 (1000 + 0); unfold I64; decide)) ?_
    rintro e w2 ⟨rfl, hm2⟩
    exact ⟨_, rfl, hm2, congrArg Value.bool (right_made [] 0 1 (List.replicate 32 (0 : Int)) [97] 1 (by rfl))⟩
  · intro tr act w' hm hout hsz hd hG hk hub
    have h3 := hd ⟨3, .data⟩ (by simp) rfl _ rfl
    exact jg_run (by rfl) rfl (wanted_none rfl) (ex_assign rfl h3) (Mod.refl _ _) rfl
  intro vs tr w3 hl htl hm hG hV
  obtain ⟨v0, vs0, rfl, hl0⟩ := list_cons hl
  obtain ⟨v1, vs1, rfl, hl1⟩ := list_cons hl0
  obtain ⟨v2, vs2, rfl, hl2⟩ := list_cons hl1
  obtain ⟨v3, vs3, rfl, hl3⟩ := list_cons hl2
  obtain ⟨v4, vs4, rfl, hl4⟩ := list_cons hl3
  obtain rfl := list_nil hl4
  clear hl hl0 hl1 hl2 hl3 hl4
  obtain rfl : v4 = .bool true := hV 4 _ rfl
  have ha0 := HA0.out
  subst ha0
  clear HA0 hV hsz0 oe1 oe2
  simp only [putAll, Act.put, List.setIfInBounds_toArray, List.set_cons_zero, List.set_cons_succ]
  have KM3 := Lib.hid (KM2.out.trans hm (fun _ _ h => h))
  clear hm hG
  go_wp2
  go_ret
  exact ⟨rfl, KM3.out⟩
end Go.Proofs.Ytgnmdnmmemdemaa
