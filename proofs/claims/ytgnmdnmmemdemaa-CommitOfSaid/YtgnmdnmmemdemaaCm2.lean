/- commit.Text. -/
import Derived.Test.YtgnmdnmmemdemaaCm1
set_option maxRecDepth 100000
set_option linter.unusedVariables false
namespace Go.Proofs.Ytgnmdnmmemdemaa
open Go Go.RowKit Go.Gv

/-- a commitment -/
structure Cm where
  cl : Int
  sq : Int
  h : List Int
  ln : Int
  sb : Int
  mr : Int
def Cm.cells (c : Cm) : List Value := [.int .i64 c.cl, .int .i64 c.sq] ++ (c.h.map bv ++ [.int .i64 c.ln, .int .i64 c.sb, .int .i64 c.mr])
def Cm.val (c : Cm) : Value := .agg c.cells.toArray
/-- its numbers are numbers, its hash is one -/
def Cm.OK (c : Cm) : Prop := (I64 c.cl ∧ I64 c.sq ∧ I64 c.ln ∧ I64 c.sb ∧ I64 c.mr) ∧ c.h.length = 32 ∧ Bytes c.h
theorem Cm.len {c : Cm} (h : c.h.length = 32) : c.cells.length = 37 := by simp [Cm.cells, h]
theorem size_commit : (Try.prog.info? 32).map (·.size) = some 37 := by kernel_rfl
section
variable {w : World} {g : Nat} {c : Cm} {T : TypeId}
theorem Cm.at0 (h : Cs w g c.cells.toArray T) : w.cell? ⟨g, 0, none⟩ = some (.int .i64 c.cl) := by rw [h.cell]; rfl
end
end Go.Proofs.Ytgnmdnmmemdemaa
namespace Go.Gv
open Go Go.RowKit Go.Proofs.Ytgnmdnmmemdemaa
section
variable {w : World} {g : Nat} {c : Cm} {T : TypeId}
theorem Cs.c0 (h : Cs w g c.cells.toArray T) : w.cell? ⟨g, 0, none⟩ = some (.int .i64 c.cl) := by rw [h.cell]; rfl
theorem Cs.c1 (h : Cs w g c.cells.toArray T) : w.cell? ⟨g, 1, none⟩ = some (.int .i64 c.sq) := by rw [h.cell]; rfl
theorem Cs.far (h : Cs w g c.cells.toArray T) (hl : c.h.length = 32) (j : Nat) : w.cell? ⟨g, 34 + j, none⟩ = ([Value.int .i64 c.ln, .int .i64 c.sb, .int .i64 c.mr] : List Value)[j]? := by
  rw [h.cell]
  simp only [List.getElem?_toArray, Cm.cells]
  rw [List.getElem?_append_right (by simp; omega), List.getElem?_append_right (by simp [hl]; omega)]
  simp only [List.length_cons, List.length_nil, List.length_map, hl]
  congr 1
  omega
theorem Cs.c34 (h : Cs w g c.cells.toArray T) (hl : c.h.length = 32) : w.cell? ⟨g, 34, none⟩ = some (.int .i64 c.ln) := Cs.far h hl 0
theorem Cs.c35 (h : Cs w g c.cells.toArray T) (hl : c.h.length = 32) : w.cell? ⟨g, 35, none⟩ = some (.int .i64 c.sb) := Cs.far h hl 1
theorem Cs.c36 (h : Cs w g c.cells.toArray T) (hl : c.h.length = 32) : w.cell? ⟨g, 36, none⟩ = some (.int .i64 c.mr) := Cs.far h hl 2
theorem Cs.hash (h : Cs w g c.cells.toArray T) : ∀ j u, (c.h.map bv)[j]? = some u → w.cell? ⟨g, 2 + j, none⟩ = some u := by
  intro j u hu
  rw [h.cell]
  simp only [List.getElem?_toArray, Cm.cells]
  rw [List.getElem?_append_right (by simp), List.getElem?_append_left (by simpa using (List.getElem?_eq_some_iff.1 hu).1)]
  simpa using hu
theorem Cs.name (h : Cs w g c.cells.toArray T) : ∀ j u, ([Value.int .i64 c.cl, .int .i64 c.sq] : List Value)[j]? = some u → w.cell? ⟨g, 0 + j, none⟩ = some u := by
  intro j u hu
  rw [Nat.zero_add, h.cell]
  simp only [List.getElem?_toArray, Cm.cells]
  rw [List.getElem?_append_left (List.getElem?_eq_some_iff.1 hu).1]
  exact hu
theorem Cs.sig (h : Cs w g c.cells.toArray T) (hl : c.h.length = 32) : ∀ j u, ([Value.int .i64 c.sb, .int .i64 c.mr] : List Value)[j]? = some u → w.cell? ⟨g, 35 + j, none⟩ = some u := by
  intro j u hu
  have := Cs.far h hl (1 + j)
  rw [show 34 + (1 + j) = 35 + j by omega] at this
  rw [this, Nat.add_comm]
  exact hu
theorem Cs.whole {cs : List Value} (h : Cs w g cs.toArray T) : ∀ j u, cs[j]? = some u → w.cell? ⟨g, 0 + j, none⟩ = some u := by
  intro j u hu
  rw [Nat.zero_add, h.cell]
  simpa using hu
end
end Go.Gv
namespace Go.Proofs.Ytgnmdnmmemdemaa
open Go Go.RowKit Go.Gv
def requestLit : List Int := [114, 101, 113, 117, 101, 115, 116]
def txC (c : Cm) : Nat → List Int
  | 0 | 1 => []
  | 2 => encN requestLit.length ++ requestLit
  | 3 => (encN requestLit.length ++ requestLit) ++ encI c.cl
  | 4 => ((encN requestLit.length ++ requestLit) ++ encI c.cl) ++ encI c.sq
  | 5 => (((encN requestLit.length ++ requestLit) ++ encI c.cl) ++ encI c.sq) ++ c.h
  | _ => ((((encN requestLit.length ++ requestLit) ++ encI c.cl) ++ encI c.sq) ++ c.h) ++ encI c.ln
def txT (c : Cm) : List Int := txC c 6
def TxSt (B g : Nat) (ct : Nat → List Int) : Nat → List Value → World → Prop := fun k t w => B ≤ w.heap.size ∧ match k with
  | 0 => WrR (fun k => B ≤ k) (Nf 4) w g (ct 4)
  | 1 => WrR (fun k => B ≤ k) (Nf 4 + 32) w g (ct 5)
  | 2 => WrR (fun k => B ≤ k) 500 w g (ct 6)
  | _ => ∃ v, t[2]? = some v ∧ OwR (fun k => B ≤ k) 500 w v (ct 6)
theorem TxSt_still {B g : Nat} {ct : Nat → List Int} : ∀ k t w w', TxSt B g ct k t w → Mod (fun _ => False) w w' → TxSt B g ct k t w' := by
  rintro k t w w' ⟨h0, h⟩ hm
  refine ⟨Nat.le_trans h0 hm.size, ?_⟩
  match k, h with
  | 0, h | 1, h | 2, h => exact WrR.mod h hm (fun _ _ h => h)
  | k + 3, ⟨v, h1, h2⟩ => exact ⟨v, h1, h2.mod hm (fun _ _ h => h)⟩
set_option maxHeartbeats 1000000 in
theorem Text_any (c : Cm) (w : World) (hc : c.OK) :
    Calls Try.prog 30 #[c.val] w fun e w' => ∃ v, e = .returned v ∧ OwR (fun k => w.heap.size ≤ k) 500 w' v (txT c) ∧ Mod (fun _ => False) w w' := by
  have HC := Lib.hid hc.1
  have HL := Lib.hid hc.2.1
  have HBy := Lib.hid hc.2.2
  clear hc
  change Calls _ _ #[.agg c.cells.toArray] _ _
  go_enter Try.func30, Try.ntmps30
  go_upto_region 1 with (fail)
  obtain ⟨w1, hw1⟩ : ∃ x, x = w.alloc (.cells c.cells.toArray 32) := ⟨_, rfl⟩
  change Code.wp _ _ _ _ (w.alloc (.cells c.cells.toArray 32))
  rw [← hw1]
  have KN := Lib.hid (show Cs w1 w.heap.size c.cells.toArray 32 by rw [hw1]; exact Cs.new _ _ _)
  have KM := Lib.hid (show Mod (fun _ => False) w w1 by rw [hw1]; exact (Mod.refl _ _).alloc _)
  have hs1 : w1.heap.size = w.heap.size + 1 := by rw [hw1]; simp
  clear hw1
  obtain ⟨B, hBB⟩ : ∃ B, B = w1.heap.size := ⟨_, rfl⟩
  have HBE := Lib.hid hBB
  have hB3 : B = w.heap.size + 1 := by omega
  clear hBB
  generalize ha0 : Act.mk _ _ = a0
  have oe1 : a0.eval (.tmp 1) = .pointer (some ⟨w.heap.size, 0, none⟩) := by rw [← ha0]; rfl
  have hsz0 : a0.tmps.size = 24 := by rw [← ha0]; rfl
  have HA0 := Lib.hid ha0
  clear ha0
  refine wp_region_G 24 hsz0 (by kernel_rfl) (by kernel_rfl) [4, 5, 6, 7, 8, 9, 10, 11, 12, 13, 14, 15, 3] (by kernel_rfl) (by decide) (fun j => B ≤ j) (WcS B) (WcS_T B) (StillM B 5 1) stillM_still stillM_T [gv 0, litG B 5 1 (requestLit.map bv).toArray, litG B 5 1 (requestLit.map bv).toArray, gv 1, gi (.pointer (some ⟨w.heap.size, 0, none⟩)), gi (.pointer (some ⟨w.heap.size, 0, none⟩)), gi (.int .i64 c.cl), gv 2, gi (.pointer (some ⟨w.heap.size, 0, none⟩)), gi (.pointer (some ⟨w.heap.size, 1, none⟩)), gi (.int .i64 c.sq), gv 3, gv 3] ⟨gv_stable, litG_stable (fun k hk j h => by have := h.1; omega), litG_stable (fun k hk j h => by have := h.1; omega), gv_stable, gi_stable, gi_stable, gi_stable, gv_stable, gi_stable, gi_stable, gi_stable, gv_stable, gv_stable, trivial⟩ [0, 3, 7, 11] (by kernel_rfl) (by decide) (by kernel_rfl) (WcG B (txC c)) WcG_still (WcG_nil (Nat.le_of_eq HBE.out)) ⟨?_, ?_, ?_, ?_, ?_, ?_, ?_, ?_, ?_, ?_, ?_, ?_, ?_, trivial⟩ ?_
  · intro tr act w' hm hout hsz hd hG hk hub
    have hl := hk 0 rfl
    refine jc_call (args := #[]) (by rfl) rfl (wanted_none rfl) (by rw [ex_callF rfl Try.func58 (by kernel_rfl) (by kernel_rfl)]; simp) (NewWriter_any _) ?_
    rintro e w2 ⟨rfl, hW, hm2⟩
    exact ⟨_, rfl, hm2.mono (fun _ _ h => h.elim), gv_new tr _ w2 hl, WcG_new hG hl (Nat.le_refl _) hW hm2⟩
  · intro tr act w' hm hout hsz hd hG hk hub
    refine jg_run (by rfl) rfl (wanted_none rfl) (ex_lit rfl Try.underlying36 (by kernel_rfl) (by decide) (C := (requestLit.map bv).toArray) (by simp only [List.map_toArray, List.map_cons, List.map_nil, Act.eval]; kernel_rfl)) (Or.inl ((Mod.refl _ _).alloc _)) ?_
    exact fun _ => ⟨_, rfl, hG.1, _, Or.inl rfl, heap_alloc_new _ _⟩
  · intro tr act w' hm hout hsz hd hG hk hub
    have h1 := hd ⟨1, .data⟩ (by simp) rfl _ rfl
    have hle := hub 1 3 rfl (by kernel_rfl)
    obtain ⟨g, e1, hB, m, h0', hb⟩ := h1 hle
    exact jg_mark (by rfl) rfl (wanted_none rfl) rfl Try.underlying36 Try.underlying5 h0' hB hb e1 (fun _ hmk => Or.inr ⟨hle, hmk⟩) (fun _ hb2 _ => ⟨g, rfl, hB, _, Or.inr rfl, hb2⟩)
  · intro tr act w' hm hout hsz hd hG hk hub
    have h0 := hd ⟨0, .data⟩ (by simp) rfl _ rfl
    have h2 := hd ⟨2, .data⟩ (by simp) rfl _ rfl
    have hl := hk 1 rfl
    exact jc_call (args := #[act.eval (.tmp 4), act.eval (.tmp 6)]) (by rfl) rfl (wanted_none rfl) (by rw [ex_callF rfl Try.func59 (by kernel_rfl) (by kernel_rfl)]; exact congrArg (fun z => Result.ok (Next.enter _ z) _) (by simp only [List.map_toArray, List.map_cons, List.map_nil]; try rfl)) (Wc_row hG hl h0 h2 (by unfold Bytes; decide) (by decide) rfl) (fun _ _ h => h)
  · intro tr act w' hm hout hsz hd hG hk hub
    refine jg_run (by rfl) rfl (wanted_none rfl) (ex_field rfl Try.underlying32 rfl (by kernel_rfl) ((hout 1 (by decide)).trans oe1)) (Or.inl (Mod.refl _ _)) ?_
    rfl
  · intro tr act w' hm hout hsz hd hG hk hub
    have h4 := hd ⟨4, .data⟩ (by simp) rfl _ rfl
    refine jg_run (by rfl) rfl (wanted_none rfl) (ex_field rfl Try.underlying26 rfl (by kernel_rfl) h4) (Or.inl (Mod.refl _ _)) ?_
    rfl
  · intro tr act w' hm hout hsz hd hG hk hub
    have h5 := hd ⟨5, .data⟩ (by simp) rfl _ rfl
    exact jg_run (by rfl) rfl (wanted_none rfl) (ex_load1 rfl Try.underlying3 rfl h5 ((KN.out.mod hm (by omega)).c0)) (Or.inl (Mod.refl _ _)) rfl
  · intro tr act w' hm hout hsz hd hG hk hub
    have h3 := hd ⟨3, .data⟩ (by simp) rfl _ rfl
    have h6 := hd ⟨6, .data⟩ (by simp) rfl _ rfl
    have hl := hk 2 rfl
    exact jc_call (args := #[act.eval (.tmp 7), .int .i64 c.cl]) (by rfl) rfl (wanted_none rfl) (by rw [ex_callF rfl Try.func60 (by kernel_rfl) (by kernel_rfl)]; exact congrArg (fun z => Result.ok (Next.enter _ z) _) (by simp only [List.map_toArray, List.map_cons, List.map_nil, show act.eval (.tmp 10) = _ from h6]; try rfl)) (Wc_int hG hl (by decide) (by decide) h3 HC.out.1 rfl) (fun _ _ h => h)
  · intro tr act w' hm hout hsz hd hG hk hub
    refine jg_run (by rfl) rfl (wanted_none rfl) (ex_field rfl Try.underlying32 rfl (by kernel_rfl) ((hout 1 (by decide)).trans oe1)) (Or.inl (Mod.refl _ _)) ?_
    rfl
  · intro tr act w' hm hout hsz hd hG hk hub
    have h8 := hd ⟨8, .data⟩ (by simp) rfl _ rfl
    refine jg_run (by rfl) rfl (wanted_none rfl) (ex_field rfl Try.underlying26 rfl (by kernel_rfl) h8) (Or.inl (Mod.refl _ _)) ?_
    rfl
  · intro tr act w' hm hout hsz hd hG hk hub
    have h9 := hd ⟨9, .data⟩ (by simp) rfl _ rfl
    exact jg_run (by rfl) rfl (wanted_none rfl) (ex_load1 rfl Try.underlying3 rfl h9 ((KN.out.mod hm (by omega)).c1)) (Or.inl (Mod.refl _ _)) rfl
  · intro tr act w' hm hout hsz hd hG hk hub
    have h7 := hd ⟨7, .data⟩ (by simp) rfl _ rfl
    have h10 := hd ⟨10, .data⟩ (by simp) rfl _ rfl
    have hl := hk 3 rfl
    exact jc_call (args := #[act.eval (.tmp 11), .int .i64 c.sq]) (by rfl) rfl (wanted_none rfl) (by rw [ex_callF rfl Try.func60 (by kernel_rfl) (by kernel_rfl)]; exact congrArg (fun z => Result.ok (Next.enter _ z) _) (by simp only [List.map_toArray, List.map_cons, List.map_nil, show act.eval (.tmp 14) = _ from h10]; try rfl)) (Wc_int hG hl (by decide) (by decide) h7 HC.out.2.1 rfl) (fun _ _ h => h)
  · intro tr act w' hm hout hsz hd hG hk hub
    have h11 := hd ⟨11, .data⟩ (by simp) rfl _ rfl
    exact jg_run (by rfl) rfl (wanted_none rfl) (ex_assign rfl rfl) (Or.inl (Mod.refl _ _)) h11
  intro vs tr w2 hl htl hm hG hV
  obtain ⟨v0, vs0, rfl, hl0⟩ := list_cons hl
  obtain ⟨v1, vs1, rfl, hl1⟩ := list_cons hl0
  obtain ⟨v2, vs2, rfl, hl2⟩ := list_cons hl1
  obtain ⟨v3, vs3, rfl, hl3⟩ := list_cons hl2
  obtain ⟨v4, vs4, rfl, hl4⟩ := list_cons hl3
  obtain ⟨v5, vs5, rfl, hl5⟩ := list_cons hl4
  obtain ⟨v6, vs6, rfl, hl6⟩ := list_cons hl5
  obtain ⟨v7, vs7, rfl, hl7⟩ := list_cons hl6
  obtain ⟨v8, vs8, rfl, hl8⟩ := list_cons hl7
  obtain ⟨v9, vs9, rfl, hl9⟩ := list_cons hl8
  obtain ⟨v10, vs10, rfl, hl10⟩ := list_cons hl9
  obtain ⟨v11, vs11, rfl, hl11⟩ := list_cons hl10
  obtain ⟨v12, vs12, rfl, hl12⟩ := list_cons hl11
  obtain rfl := list_nil hl12
  clear hl hl0 hl1 hl2 hl3 hl4 hl5 hl6 hl7 hl8 hl9 hl10 hl11 hl12
  have f12 := hV 12 _ rfl
  have ha0 := HA0.out
  subst ha0
  clear HA0 hV hsz0 oe1
  simp only [putAll, Act.put, List.setIfInBounds_toArray, List.set_cons_zero, List.set_cons_succ]
  obtain ⟨g, rfl, -, hgB, -, hw⟩ := WcG_val hG f12
  have hw4 := hw (by rw [htl]; decide)
  rw [show tr.length = 4 from htl] at hw4
  have KN2 := Lib.hid (KN.out.mod hm (by omega))
  have HG0 := Lib.hid (show ByLen (TxSt B g (txC c)) [] w2 from ⟨hG.1, hw4⟩)
  have KM2 := Lib.hid (KM.out.trans hm (fun k h1 h2 => by omega))
  clear hG hm hw hw4 f12 htl
  go_upto_region 2 with (fail)
  generalize ha0 : Act.mk _ _ = a0
  have oe1 : a0.eval (.tmp 1) = .pointer (some ⟨w.heap.size, 0, none⟩) := by rw [← ha0]; rfl
  have oe3 : a0.eval (.tmp 3) = .pointer (some ⟨g, 0, none⟩) := by rw [← ha0]; rfl
  have hsz0 : a0.tmps.size = 24 := by rw [← ha0]; rfl
  have HA0 := Lib.hid ha0
  clear ha0
  refine wp_region_G 24 hsz0 (by kernel_rfl) (by kernel_rfl) [16, 17, 18, 19, 20, 21, 22, 23, 2] (by kernel_rfl) (by decide) (fun j => B ≤ j) (fun k j => B ≤ j) (fun k j h => h) Still (fun _ _ _ h => h) (fun _ _ _ hm h => hm.trans h (fun _ _ h => h.elim)) [gi (.pointer (some ⟨g, 0, none⟩)), gi (.pointer (some ⟨w.heap.size, 2, none⟩)), gi (hv c.h), gi (.pointer (some ⟨g, 0, none⟩)), gi (.pointer (some ⟨w.heap.size, 34, none⟩)), gi (.int .i64 c.ln), gi (.pointer (some ⟨g, 0, none⟩)), gv 2, gv 2] ⟨gi_stable, gi_stable, gi_stable, gi_stable, gi_stable, gi_stable, gi_stable, gv_stable, gv_stable, trivial⟩ [3, 6, 7] (by kernel_rfl) (by decide) (by kernel_rfl) (ByLen (TxSt B g (txC c))) (ByLen.still TxSt_still) HG0.out ⟨?_, ?_, ?_, ?_, ?_, ?_, ?_, ?_, ?_, trivial⟩ ?_
  · intro tr act w' hm hout hsz hd hG hk hub
    exact jg_run (by rfl) rfl (wanted_none rfl) (ex_move rfl ((hout 3 (by decide)).trans oe3)) (Mod.refl _ _) rfl
  · intro tr act w' hm hout hsz hd hG hk hub
    refine jg_run (by rfl) rfl (wanted_none rfl) (ex_field rfl Try.underlying32 rfl (by kernel_rfl) ((hout 1 (by decide)).trans oe1)) (Mod.refl _ _) ?_
    rfl
  · intro tr act w' hm hout hsz hd hG hk hub
    have h1 := hd ⟨1, .data⟩ (by simp) rfl _ rfl
    exact jg_run (by rfl) rfl (wanted_none rfl) (ex_loadA rfl Try.underlying28 rfl (off := 2) (cs := c.h.map bv) (by rw [List.length_map, HL.out]; exact size_hash) h1 ((KN2.out.mod hm (by omega)).hash)) (Mod.refl _ _) rfl
  · intro tr act w' hm hout hsz hd hG hk hub
    have h0 := hd ⟨0, .data⟩ (by simp) rfl _ rfl
    have h2 := hd ⟨2, .data⟩ (by simp) rfl _ rfl
    have hl := hk 0 rfl
    have hs := hG.at hl
    refine jc_call (args := #[.pointer (some ⟨g, 0, none⟩), hv c.h]) (by rfl) rfl (wanted_none rfl) (by rw [ex_callF rfl Try.func62 (by kernel_rfl) (by kernel_rfl)]; exact congrArg (fun z => Result.ok (Next.enter _ z) _) (by simp only [List.map_toArray, List.map_cons, List.map_nil, show act.eval (.tmp 16) = _ from h0, show act.eval (.tmp 18) = _ from h2]; try rfl)) (WHash_R hs.2 HL.out HBy.out (by decide)) ?_
    rintro e w2 ⟨rfl, hw2, hm2⟩
    exact ⟨_, rfl, hm2, rfl, ByLen.on hl ⟨Nat.le_trans hs.1 hm2.size, hw2.widen (fun k hk => by rcases hk with hk | hk; exact hk; exact Nat.le_trans hs.1 hk.1) (Nat.le_refl _)⟩⟩
  · intro tr act w' hm hout hsz hd hG hk hub
    refine jg_run (by rfl) rfl (wanted_none rfl) (ex_field rfl Try.underlying32 rfl (by kernel_rfl) ((hout 1 (by decide)).trans oe1)) (Mod.refl _ _) ?_
    rfl
  · intro tr act w' hm hout hsz hd hG hk hub
    have h4 := hd ⟨4, .data⟩ (by simp) rfl _ rfl
    exact jg_run (by rfl) rfl (wanted_none rfl) (ex_load1 rfl Try.underlying3 rfl h4 ((KN2.out.mod hm (by omega)).c34 HL.out)) (Mod.refl _ _) rfl
  · intro tr act w' hm hout hsz hd hG hk hub
    have h3 := hd ⟨3, .data⟩ (by simp) rfl _ rfl
    have h5 := hd ⟨5, .data⟩ (by simp) rfl _ rfl
    have hl := hk 1 rfl
    have hs := hG.at hl
    refine jc_call (args := #[.pointer (some ⟨g, 0, none⟩), .int .i64 c.ln]) (by rfl) rfl (wanted_none rfl) (by rw [ex_callF rfl Try.func60 (by kernel_rfl) (by kernel_rfl)]; exact congrArg (fun z => Result.ok (Next.enter _ z) _) (by simp only [List.map_toArray, List.map_cons, List.map_nil, show act.eval (.tmp 19) = _ from h3, show act.eval (.tmp 21) = _ from h5]; try rfl)) (WInt_R hs.2 HC.out.2.2.1 (by decide)) ?_
    rintro e w2 ⟨rfl, hw2, hm2⟩
    exact ⟨_, rfl, hm2, rfl, ByLen.on hl ⟨Nat.le_trans hs.1 hm2.size, hw2.widen (fun k hk => by rcases hk with hk | hk; exact hk; exact Nat.le_trans hs.1 hk.1) (by decide)⟩⟩
  · intro tr act w' hm hout hsz hd hG hk hub
    have h6 := hd ⟨6, .data⟩ (by simp) rfl _ rfl
    have hl := hk 2 rfl
    have hs := hG.at hl
    refine jc_call (args := #[.pointer (some ⟨g, 0, none⟩)]) (by rfl) rfl (wanted_none rfl) (by rw [ex_callF rfl Try.func63 (by kernel_rfl) (by kernel_rfl)]; exact congrArg (fun z => Result.ok (Next.enter _ z) _) (by simp only [List.map_toArray, List.map_cons, List.map_nil, show act.eval (.tmp 22) = _ from h6]; try rfl)) (WBytes_R hs.2 (by decide)) ?_
    rintro e w2 ⟨u, rfl, ho, hm2⟩
    exact ⟨_, rfl, hm2.mono (fun _ _ h => h.elim), gv_new tr _ w2 hl, ByLen.on hl ⟨Nat.le_trans hs.1 hm2.size, u, by rw [List.getElem?_append_right (by omega), hl]; rfl, ho.widen (fun k hk => Nat.le_trans hs.1 hk.1) (by decide)⟩⟩
  · intro tr act w' hm hout hsz hd hG hk hub
    have h7 := hd ⟨7, .data⟩ (by simp) rfl _ rfl
    exact jg_run (by rfl) rfl (wanted_none rfl) (ex_assign rfl rfl) (Mod.refl _ _) h7
  intro vs tr w3 hl htl hm hG hV
  obtain ⟨v0, vs0, rfl, hl0⟩ := list_cons hl
  obtain ⟨v1, vs1, rfl, hl1⟩ := list_cons hl0
  obtain ⟨v2, vs2, rfl, hl2⟩ := list_cons hl1
  obtain ⟨v3, vs3, rfl, hl3⟩ := list_cons hl2
  obtain ⟨v4, vs4, rfl, hl4⟩ := list_cons hl3
  obtain ⟨v5, vs5, rfl, hl5⟩ := list_cons hl4
  obtain ⟨v6, vs6, rfl, hl6⟩ := list_cons hl5
  obtain ⟨v7, vs7, rfl, hl7⟩ := list_cons hl6
  obtain ⟨v8, vs8, rfl, hl8⟩ := list_cons hl7
  obtain rfl := list_nil hl8
  clear hl hl0 hl1 hl2 hl3 hl4 hl5 hl6 hl7 hl8
  have f8 := hV 8 _ rfl
  have ha0 := HA0.out
  subst ha0
  clear HA0 hV hsz0 oe1 oe3
  simp only [putAll, Act.put, List.setIfInBounds_toArray, List.set_cons_zero, List.set_cons_succ]
  have hs := hG.at htl
  obtain ⟨u, e1, hu⟩ := hs.2
  obtain rfl : v8 = u := Option.some.inj (Eq.trans (Eq.symm f8) e1)
  go_wp2
  go_ret
  exact ⟨_, rfl, hu.widen (fun k hk => by omega) (Nat.le_refl _), KM2.out.trans hm (fun k h1 h2 => by omega)⟩
end Go.Proofs.Ytgnmdnmmemdemaa
