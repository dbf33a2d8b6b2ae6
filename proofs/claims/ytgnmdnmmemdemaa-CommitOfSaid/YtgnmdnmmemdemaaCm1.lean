/- commit.Of. -/
import Derived.Test.YtgnmdnmmemdemaaWc
import Derived.Deep.Cut
set_option maxRecDepth 100000
set_option linter.unusedVariables false
namespace Go.Proofs.Ytgnmdnmmemdemaa
open Go Go.RowKit Go.Gv

def commitLit : List Int := [99, 111, 109, 109, 105, 116]
def ofC (a b : Int) (h bs : List Int) : Nat → List Int
  | 0 | 1 => []
  | 2 => encN commitLit.length ++ commitLit
  | 3 => (encN commitLit.length ++ commitLit) ++ encI a
  | 4 => ((encN commitLit.length ++ commitLit) ++ encI a) ++ encI b
  | 5 => (((encN commitLit.length ++ commitLit) ++ encI a) ++ encI b) ++ h
  | _ => ((((encN commitLit.length ++ commitLit) ++ encI a) ++ encI b) ++ h) ++ (encN bs.length ++ bs)
def ofT (a b : Int) (h bs : List Int) : List Int := ofC a b h bs 6
def I64 (n : Int) : Prop := -9223372036854775808 ≤ n ∧ n ≤ 9223372036854775807
def OfSt (B g gr : Nat) (ct : Nat → List Int) : Nat → List Value → World → Prop := fun k t w => B ≤ w.heap.size ∧ match k with
  | 0 => WrR (fun k => B ≤ k) (Nf 4) w g (ct 4) ∧ Cs w gr ((List.replicate 32 0).map bv).toArray 28
  | 1 => WrR (fun k => B ≤ k) (Nf 4 + 32) w g (ct 5) ∧ Cs w gr ((List.replicate 32 0).map bv).toArray 28
  | 2 => WrR (fun k => B ≤ k) 900000 w g (ct 6) ∧ Cs w gr ((List.replicate 32 0).map bv).toArray 28
  | 3 => (∃ v, t[2]? = some v ∧ RdB w v (ct 6) ∧ (ct 6).length ≤ 900000) ∧ Cs w gr ((List.replicate 32 0).map bv).toArray 28
  | 4 => Cs w gr ((List.replicate 32 0).map bv).toArray 28
  | _ => Cs w gr ((shaF (ct 6)).map bv).toArray 28
theorem OfSt_still {B g gr : Nat} {ct : Nat → List Int} : ∀ k t w w', OfSt B g gr ct k t w → Mod (fun _ => False) w w' → OfSt B g gr ct k t w' := by
  rintro k t w w' ⟨h0, h⟩ hm
  refine ⟨Nat.le_trans h0 hm.size, ?_⟩
  match k, h with
  | 0, h | 1, h | 2, h => exact ⟨h.1.mod hm (fun _ _ h => h), h.2.mod hm (fun h => h)⟩
  | 3, ⟨⟨v, h1, h2, h3⟩, h4⟩ => exact ⟨⟨v, h1, h2.mod hm (fun _ _ _ h => h), h3⟩, h4.mod hm (fun h => h)⟩
  | 4, h => exact Cs.mod h hm (fun h => h)
  | k + 5, h => exact Cs.mod h hm (fun h => h)
set_option maxHeartbeats 1000000 in
theorem Of_any (a b : Int) (h bs : List Int) (v : Value) (w : World) (ha : I64 a) (hb : I64 b) (hh : h.length = 32) (hB : Bytes h) (hr : RdB w v bs) (hl : bs.length ≤ 800000) :
    Calls Try.prog 24 #[.agg #[.int .i64 a, .int .i64 b], hv h, v] w fun e w' => e = .returned (hv (shaF (ofT a b h bs))) ∧ Mod (fun _ => False) w w' := by
  have hbl := hr.block_lt
  have HR := Lib.hid hr
  have HBL := Lib.hid hbl
  have HA := Lib.hid ha
  have HBb := Lib.hid hb
  have HL := Lib.hid hh
  have HBy := Lib.hid hB
  have HLB := Lib.hid hl
  clear hbl hr ha hb hh hB hl
  change Calls _ _ #[.agg #[.int .i64 a, .int .i64 b], .agg (h.map bv).toArray, v] _ _
  go_enter Try.func24, Try.ntmps24
  go_upto_region 1 with (fail)
  obtain ⟨w1, hw1⟩ : ∃ x, x = ((w.alloc (.cells #[.int .i64 a, .int .i64 b] 26)).alloc (.cells (h.map bv).toArray 28)).alloc (.cells ((List.replicate 32 0).map bv).toArray 28) := ⟨_, rfl⟩
  change Code.wp _ _ _ _ (((w.alloc (.cells #[.int .i64 a, .int .i64 b] 26)).alloc (.cells (h.map bv).toArray 28)).alloc (.cells ((List.replicate 32 0).map bv).toArray 28))
  rw [← hw1]
  have KN := Lib.hid (show Cs w1 w.heap.size #[.int .i64 a, .int .i64 b] 26 by rw [hw1]; exact ((Cs.new _ _ _).alloc _).alloc _)
  have KH := Lib.hid (show Cs w1 (w.heap.size + 1) (h.map bv).toArray 28 by rw [hw1]; exact (Cs_new1 _ _ _ _).alloc _)
  have KR := Lib.hid (show Cs w1 (w.heap.size + 1 + 1) ((List.replicate 32 0).map bv).toArray 28 by
    rw [hw1]
    have := Cs_new1 (w.alloc (.cells #[.int .i64 a, .int .i64 b] 26)) (.cells (h.map bv).toArray 28) ((List.replicate 32 0).map bv).toArray 28
    rwa [show (w.alloc (.cells #[.int .i64 a, .int .i64 b] 26)).heap.size = w.heap.size + 1 by simp] at this)
  have KM := Lib.hid (show Mod (fun _ => False) w w1 by rw [hw1]; exact (((Mod.refl _ _).alloc _).alloc _).alloc _)
  have hs1 : w1.heap.size = w.heap.size + 3 := by rw [hw1]; simp
  clear hw1
  obtain ⟨B, hBB⟩ : ∃ B, B = w1.heap.size := ⟨_, rfl⟩
  have HBB := Lib.hid (show w1.heap.size ≤ B by omega)
  have HBE := Lib.hid hBB
  have hB3 : B = w.heap.size + 3 := by omega
  clear hBB
  generalize ha0 : Act.mk _ _ = a0
  have oe3 : a0.eval (.tmp 3) = .pointer (some ⟨w.heap.size, 0, none⟩) := by rw [← ha0]; rfl
  have hsz0 : a0.tmps.size = 25 := by rw [← ha0]; rfl
  have HA0 := Lib.hid ha0
  clear ha0
  refine wp_region_G 25 hsz0 (by kernel_rfl) (by kernel_rfl) [8, 9, 10, 11, 12, 13, 14, 15, 16, 17, 7] (by kernel_rfl) (by decide) (fun j => B ≤ j) (WcS B) (WcS_T B) (StillM B 5 1) stillM_still stillM_T [gv 0, litG B 5 1 (commitLit.map bv).toArray, litG B 5 1 (commitLit.map bv).toArray, gv 1, gi (.pointer (some ⟨w.heap.size, 0, none⟩)), gi (.int .i64 a), gv 2, gi (.pointer (some ⟨w.heap.size, 1, none⟩)), gi (.int .i64 b), gv 3, gv 3] ⟨gv_stable, litG_stable (fun k hk j h => by have := h.1; omega), litG_stable (fun k hk j h => by have := h.1; omega), gv_stable, gi_stable, gi_stable, gv_stable, gi_stable, gi_stable, gv_stable, gv_stable, trivial⟩ [0, 3, 6, 9] (by kernel_rfl) (by decide) (by kernel_rfl) (WcG B (ofC a b h bs)) WcG_still (WcG_nil (Nat.le_of_eq HBE.out)) ⟨?_, ?_, ?_, ?_, ?_, ?_, ?_, ?_, ?_, ?_, ?_, trivial⟩ ?_
  · intro tr act w' hm hout hsz hd hG hk hub
    have hl := hk 0 rfl
    refine jc_call (args := #[]) (by rfl) rfl (wanted_none rfl) (by rw [ex_callF rfl Try.func58 (by kernel_rfl) (by kernel_rfl)]; simp) (NewWriter_any _) ?_
    rintro e w2 ⟨rfl, hW, hm2⟩
    exact ⟨_, rfl, hm2.mono (fun _ _ h => h.elim), gv_new tr _ w2 hl, WcG_new hG hl (Nat.le_refl _) hW hm2⟩
  · intro tr act w' hm hout hsz hd hG hk hub
    refine jg_run (by rfl) rfl (wanted_none rfl) (ex_lit rfl Try.underlying36 (by kernel_rfl) (by decide) (C := (commitLit.map bv).toArray) (by simp only [List.map_toArray, List.map_cons, List.map_nil, Act.eval]; kernel_rfl)) (Or.inl ((Mod.refl _ _).alloc _)) ?_
    exact fun _ => ⟨_, rfl, hG.1, _, Or.inl rfl, heap_alloc_new _ _⟩
  · intro tr act w' hm hout hsz hd hG hk hub
    have h1 := hd ⟨1, .data⟩ (by simp) rfl _ rfl
    have hle := hub 1 3 rfl (by kernel_rfl)
    obtain ⟨g, e1, hB, m, h0', hb⟩ := h1 hle
    exact jg_mark (by rfl) rfl (wanted_none rfl) rfl Try.underlying36 Try.underlying5 h0' hB hb e1 (fun _ hmk => Or.inr ⟨hle, hmk⟩) (fun _ hb2 _ => ⟨g, rfl, hB, _, Or.inr rfl, hb2⟩)
  · intro tr act w' hm hout hsz hd hG hk hub
    have h0 := hd ⟨0, .data⟩ (by simp) rfl _ rfl
    have h2 := hd ⟨2, .data⟩ (by simp) rfl _ rfl
    have hl := hk 1 rfl
    exact jc_call (args := #[act.eval (.tmp 8), act.eval (.tmp 10)]) (by rfl) rfl (wanted_none rfl) (by rw [ex_callF rfl Try.func59 (by kernel_rfl) (by kernel_rfl)]; exact congrArg (fun z => Result.ok (Next.enter _ z) _) (by simp only [List.map_toArray, List.map_cons, List.map_nil]; try rfl)) (Wc_row hG hl h0 h2 (by unfold Bytes; decide) (by decide) rfl) (fun _ _ h => h)
  · intro tr act w' hm hout hsz hd hG hk hub
    refine jg_run (by rfl) rfl (wanted_none rfl) (ex_field rfl Try.underlying26 rfl (by kernel_rfl) ((hout 3 (by decide)).trans oe3)) (Or.inl (Mod.refl _ _)) ?_
    rfl
  · intro tr act w' hm hout hsz hd hG hk hub
    have h4 := hd ⟨4, .data⟩ (by simp) rfl _ rfl
    exact jg_run (by rfl) rfl (wanted_none rfl) (ex_load1 rfl Try.underlying3 rfl h4 (by rw [(KN.out.mod hm (by omega)).cell]; rfl)) (Or.inl (Mod.refl _ _)) rfl
  · intro tr act w' hm hout hsz hd hG hk hub
    have h3 := hd ⟨3, .data⟩ (by simp) rfl _ rfl
    have h5 := hd ⟨5, .data⟩ (by simp) rfl _ rfl
    have hl := hk 2 rfl
    exact jc_call (args := #[act.eval (.tmp 11), .int .i64 a]) (by rfl) rfl (wanted_none rfl) (by rw [ex_callF rfl Try.func60 (by kernel_rfl) (by kernel_rfl)]; exact congrArg (fun z => Result.ok (Next.enter _ z) _) (by simp only [List.map_toArray, List.map_cons, List.map_nil, show act.eval (.tmp 13) = _ from h5]; try rfl)) (Wc_int hG hl (by decide) (by decide) h3 HA.out rfl) (fun _ _ h => h)
  · intro tr act w' hm hout hsz hd hG hk hub
    refine jg_run (by rfl) rfl (wanted_none rfl) (ex_field rfl Try.underlying26 rfl (by kernel_rfl) ((hout 3 (by decide)).trans oe3)) (Or.inl (Mod.refl _ _)) ?_
    rfl
  · intro tr act w' hm hout hsz hd hG hk hub
    have h7 := hd ⟨7, .data⟩ (by simp) rfl _ rfl
    exact jg_run (by rfl) rfl (wanted_none rfl) (ex_load1 rfl Try.underlying3 rfl h7 (by rw [(KN.out.mod hm (by omega)).cell]; rfl)) (Or.inl (Mod.refl _ _)) rfl
  · intro tr act w' hm hout hsz hd hG hk hub
    have h6 := hd ⟨6, .data⟩ (by simp) rfl _ rfl
    have h8 := hd ⟨8, .data⟩ (by simp) rfl _ rfl
    have hl := hk 3 rfl
    exact jc_call (args := #[act.eval (.tmp 14), .int .i64 b]) (by rfl) rfl (wanted_none rfl) (by rw [ex_callF rfl Try.func60 (by kernel_rfl) (by kernel_rfl)]; exact congrArg (fun z => Result.ok (Next.enter _ z) _) (by simp only [List.map_toArray, List.map_cons, List.map_nil, show act.eval (.tmp 16) = _ from h8]; try rfl)) (Wc_int hG hl (by decide) (by decide) h6 HBb.out rfl) (fun _ _ h => h)
  · intro tr act w' hm hout hsz hd hG hk hub
    have h9 := hd ⟨9, .data⟩ (by simp) rfl _ rfl
    exact jg_run (by rfl) rfl (wanted_none rfl) (ex_assign rfl rfl) (Or.inl (Mod.refl _ _)) h9
  intro vs tr w2 hl htl hm hG hV
  obtain ⟨v0, vs0, rfl, hl0⟩ := list_cons hl
  obtain ⟨v1, vs1, rfl, hl1⟩ := list_cons hl0
  obtain ⟨v2, vs2, rfl, hl2⟩ := list_cons hl1
  obtain ⟨v3, vs3, rfl, hl3⟩ := list_cons hl2
  obtain ⟨v4, vs4, rfl, hl4⟩ := list_cons hl3
  obtain ⟨v5, vs5, rfl, hl5⟩ := list_cons hl4
  obtain ⟨v6, vs6, rfl, hl6⟩ := list_cons hl5
  obtain ⟨v7, vs7, rfl, hl7⟩ := list_cons hl6
  obtain ⟨v8, vs8, rfl, hl8⟩ := list_cons hl7
  obtain ⟨v9, vs9, rfl, hl9⟩ := list_cons hl8
  obtain ⟨v10, vs10, rfl, hl10⟩ := list_cons hl9
  obtain rfl := list_nil hl10
  clear hl hl0 hl1 hl2 hl3 hl4 hl5 hl6 hl7 hl8 hl9 hl10
  have f10 := hV 10 _ rfl
  have ha0 := HA0.out
  subst ha0
  clear HA0 hV hsz0 oe3
  simp only [putAll, Act.put, List.setIfInBounds_toArray, List.set_cons_zero, List.set_cons_succ]
  obtain ⟨g, rfl, -, hgB, -, hw⟩ := WcG_val hG f10
  have hw4 := hw (by rw [htl]; decide)
  rw [show tr.length = 4 from htl] at hw4
  have KH2 := Lib.hid (KH.out.mod hm (by omega))
  have HRR := Lib.hid (show RdR (fun k => k < w.heap.size) 800000 w2 v bs from (RdR.mod (S := fun j => B ≤ j) ⟨HR.out.mod KM.out (fun _ _ _ h => h), HBL.out, HLB.out⟩ hm (fun k h1 h2 => by omega)))
  have HG0 := Lib.hid (show ByLen (OfSt B g (w.heap.size + 1 + 1) (ofC a b h bs)) [] w2 from ⟨hG.1, hw4, KR.out.mod hm (by omega)⟩)
  have KM2 := Lib.hid (KM.out.trans hm (fun k h1 h2 => by omega))
  clear hG hm hw hw4 f10 htl
  go_upto_region 2 with (fail)
  generalize ha0 : Act.mk _ _ = a0
  have oe2 : a0.eval (.tmp 2) = v := by rw [← ha0]; rfl
  have oe4 : a0.eval (.tmp 4) = .pointer (some ⟨w.heap.size + 1, 0, none⟩) := by rw [← ha0]; rfl
  have oe6 : a0.eval (.tmp 6) = .pointer (some ⟨w.heap.size + 1 + 1, 0, none⟩) := by rw [← ha0]; rfl
  have oe7 : a0.eval (.tmp 7) = .pointer (some ⟨g, 0, none⟩) := by rw [← ha0]; rfl
  have hsz0 : a0.tmps.size = 25 := by rw [← ha0]; rfl
  have HA0 := Lib.hid ha0
  clear ha0
  refine wp_region_G 25 hsz0 (by kernel_rfl) (by kernel_rfl) [18, 19, 20, 21, 22, 23, 24, 32] (by kernel_rfl) (by decide) (fun j => B ≤ j ∨ j = w.heap.size + 1 + 1) (fun k j => B ≤ j ∨ (k = 4 ∧ j = w.heap.size + 1 + 1)) (fun k j h => by omega) Still (fun _ _ _ h => h) (fun _ _ _ hm h => hm.trans h (fun _ _ h => h.elim)) [gi (.pointer (some ⟨g, 0, none⟩)), gi (hv h), gi (.pointer (some ⟨g, 0, none⟩)), gi (v), gi (.pointer (some ⟨g, 0, none⟩)), gv 2, gi (hv (shaF (ofT a b h bs))), gv 4] ⟨gi_stable, gi_stable, gi_stable, gi_stable, gi_stable, gv_stable, gi_stable, gv_stable, trivial⟩ [2, 4, 5, 6, 7] (by kernel_rfl) (by decide) (by kernel_rfl) (ByLen (OfSt B g (w.heap.size + 1 + 1) (ofC a b h bs))) (ByLen.still OfSt_still) HG0.out ⟨?_, ?_, ?_, ?_, ?_, ?_, ?_, ?_, trivial⟩ ?_
  · intro tr act w' hm hout hsz hd hG hk hub
    exact jg_run (by rfl) rfl (wanted_none rfl) (ex_move rfl ((hout 7 (by decide)).trans oe7)) (Mod.refl _ _) rfl
  · intro tr act w' hm hout hsz hd hG hk hub
    exact jg_run (by rfl) rfl (wanted_none rfl) (ex_loadA rfl Try.underlying28 rfl (off := 0) (cs := h.map bv) (by rw [List.length_map, HL.out]; exact size_hash) ((hout 4 (by decide)).trans oe4) (fun j u hu => by rw [Nat.zero_add, (KH2.out.mod hm (by omega)).cell]; simpa using hu)) (Mod.refl _ _) rfl
  · intro tr act w' hm hout hsz hd hG hk hub
    have h0 := hd ⟨0, .data⟩ (by simp) rfl _ rfl
    have h1 := hd ⟨1, .data⟩ (by simp) rfl _ rfl
    have hl := hk 0 rfl
    have hs := hG.at hl
    refine jc_call (args := #[.pointer (some ⟨g, 0, none⟩), hv h]) (by rfl) rfl (wanted_none rfl) (by rw [ex_callF rfl Try.func62 (by kernel_rfl) (by kernel_rfl)]; exact congrArg (fun z => Result.ok (Next.enter _ z) _) (by simp only [List.map_toArray, List.map_cons, List.map_nil, show act.eval (.tmp 18) = _ from h0, show act.eval (.tmp 19) = _ from h1]; try rfl)) (WHash_R hs.2.1 HL.out HBy.out (by decide)) ?_
    rintro e w2 ⟨rfl, hw2, hm2⟩
    exact ⟨_, rfl, hm2.mono (fun _ _ h => Or.inl h), rfl, ByLen.on hl ⟨Nat.le_trans hs.1 hm2.size, hw2.widen (fun k hk => by rcases hk with hk | hk; exact hk; exact Nat.le_trans hs.1 hk.1) (Nat.le_refl _), hs.2.2.mod hm2 (by omega)⟩⟩
  · intro tr act w' hm hout hsz hd hG hk hub
    exact jg_run (by rfl) rfl (wanted_none rfl) (ex_move rfl ((hout 2 (by decide)).trans oe2)) (Mod.refl _ _) rfl
  · intro tr act w' hm hout hsz hd hG hk hub
    have h2 := hd ⟨2, .data⟩ (by simp) rfl _ rfl
    have h3 := hd ⟨3, .data⟩ (by simp) rfl _ rfl
    have hl := hk 1 rfl
    have hs := hG.at hl
    refine jc_call (args := #[.pointer (some ⟨g, 0, none⟩), v]) (by rfl) rfl (wanted_none rfl) (by rw [ex_callF rfl Try.func59 (by kernel_rfl) (by kernel_rfl)]; exact congrArg (fun z => Result.ok (Next.enter _ z) _) (by simp only [List.map_toArray, List.map_cons, List.map_nil, show act.eval (.tmp 20) = _ from h2, show act.eval (.tmp 21) = _ from h3]; try rfl)) (WRow_R hs.2.1 (HRR.out.mod hm (fun k h1 h2 => by omega)) (fun k h1 h2 => by omega) (by unfold Nf; omega)) ?_
    rintro e w2 ⟨rfl, hw2, hm2⟩
    exact ⟨_, rfl, hm2.mono (fun _ _ h => Or.inl h), rfl, ByLen.on hl ⟨Nat.le_trans hs.1 hm2.size, hw2.widen (fun k hk => by rcases hk with hk | hk; exact hk; exact Nat.le_trans hs.1 hk.1) (by unfold Nf; omega), hs.2.2.mod hm2 (by omega)⟩⟩
  · intro tr act w' hm hout hsz hd hG hk hub
    have h4 := hd ⟨4, .data⟩ (by simp) rfl _ rfl
    have hl := hk 2 rfl
    have hs := hG.at hl
    refine jc_call (args := #[.pointer (some ⟨g, 0, none⟩)]) (by rfl) rfl (wanted_none rfl) (by rw [ex_callF rfl Try.func63 (by kernel_rfl) (by kernel_rfl)]; exact congrArg (fun z => Result.ok (Next.enter _ z) _) (by simp only [List.map_toArray, List.map_cons, List.map_nil, show act.eval (.tmp 22) = _ from h4]; try rfl)) (WBytes_R hs.2.1 (by decide)) ?_
    rintro e w2 ⟨u, rfl, ho, hm2⟩
    exact ⟨_, rfl, hm2.mono (fun _ _ h => h.elim), gv_new tr _ w2 hl, ByLen.on hl ⟨Nat.le_trans hs.1 hm2.size, ⟨u, by rw [List.getElem?_append_right (by omega), hl]; rfl, ho.rd.1, ho.2.2⟩, hs.2.2.mod hm2 (fun h => h)⟩⟩
  · intro tr act w' hm hout hsz hd hG hk hub
    have h5 := hd ⟨5, .data⟩ (by simp) rfl _ rfl
    have hl := hk 3 rfl
    have hs := hG.at hl
    obtain ⟨u, h1, h2, h3⟩ := hs.2.1
    have e5 : act.eval (.tmp 23) = u := Option.some.inj (Eq.trans (Eq.symm h5) h1)
    refine jc_call (args := #[u]) (by rfl) rfl (wanted_none rfl) (by rw [ex_callF rfl Try.func61 (by kernel_rfl) (by kernel_rfl)]; exact congrArg (fun z => Result.ok (Next.enter _ z) _) (by simp only [List.map_toArray, List.map_cons, List.map_nil, show act.eval (.tmp 23) = _ from e5]; try rfl)) (Sum_any u _ _ h2 h3) ?_
    rintro e w2 ⟨rfl, hm2⟩
    exact ⟨_, rfl, hm2.mono (fun _ _ h => h.elim), rfl, ByLen.on hl ⟨Nat.le_trans hs.1 hm2.size, hs.2.2.mod hm2 (fun h => h)⟩⟩
  · intro tr act w' hm hout hsz hd hG hk hub
    have h6 := hd ⟨6, .data⟩ (by simp) rfl _ rfl
    have hl := hk 4 rfl
    have hs := hG.at hl
    have hE : (act.eval (.tmp 24)).cells = ((shaF (ofT a b h bs)).map bv).toArray := by rw [show act.eval (.tmp 24) = _ from h6]; rfl
    refine jc_turn (by rfl) rfl (wanted_none rfl) (ex_storeA rfl hs.2 (off := 0) (vs := (shaF (ofT a b h bs)).map bv) (by rw [List.length_map, shaF_len]; exact size_hash) (ints_oneCell .u8 _) (by simp [shaF_len]) ((hout 6 (by decide)).trans oe6) hE) (setRow_Mod.mono (fun _ _ h => Or.inr ⟨hl, h⟩)) (gv_new tr _ w' hl) (ByLen.on hl ⟨Nat.le_trans hs.1 setRow_Mod.size, ?_⟩)
    rw [lay_whole _ _ (by simp [shaF_len])]
    exact setRow_Cs hs.2
  intro vs tr w3 hl htl hm hG hV
  obtain ⟨v0, vs0, rfl, hl0⟩ := list_cons hl
  obtain ⟨v1, vs1, rfl, hl1⟩ := list_cons hl0
  obtain ⟨v2, vs2, rfl, hl2⟩ := list_cons hl1
  obtain ⟨v3, vs3, rfl, hl3⟩ := list_cons hl2
  obtain ⟨v4, vs4, rfl, hl4⟩ := list_cons hl3
  obtain ⟨v5, vs5, rfl, hl5⟩ := list_cons hl4
  obtain ⟨v6, vs6, rfl, hl6⟩ := list_cons hl5
  obtain ⟨v7, vs7, rfl, hl7⟩ := list_cons hl6
  obtain rfl := list_nil hl7
  clear hl hl0 hl1 hl2 hl3 hl4 hl5 hl6 hl7
  have ha0 := HA0.out
  subst ha0
  clear HA0 hV hsz0 oe2 oe4 oe6 oe7
  simp only [putAll, Act.put, List.setIfInBounds_toArray, List.set_cons_zero, List.set_cons_succ, List.set_nil]
  have hs := hG.at htl
  have hsz : (Try.prog.info? 28).map (·.size) = some ((shaF (ofT a b h bs)).map bv).length := by rw [List.length_map, shaF_len]; exact size_hash
  go_wp2
  exact bodyPost_ret (results_cellA rfl _ _ (w.heap.size + 1 + 1) ((shaF (ofT a b h bs)).map bv) rfl (fun k u hu => by rw [Cs.cell hs.2]; simpa [ofT] using hu) Try.underlying28 rfl hsz) rfl ⟨rfl, KM2.out.trans hm (fun k h1 h2 => by omega)⟩
end Go.Proofs.Ytgnmdnmmemdemaa
