/- Texts that are built one behind the other: XCm5, XCm6, XCmEq, XHashArg, XCm7. No condition. -/
import Derived.Test.YtgnmdnmmemdemaaR5
/- commit.Make, Right. -/
set_option maxRecDepth 100000
set_option linter.unusedVariables false
namespace Go.Proofs.Ytgnmdnmmemdemaa
open Go Go.RowKit Go.Gv

theorem Cm.one (c : Cm) : ∀ u ∈ c.cells, u.oneCell' = true := by
  intro u hu
  simp only [Cm.cells, List.mem_append, List.mem_cons, List.not_mem_nil, or_false, List.mem_map] at hu
  rcases hu with (rfl | rfl) | ⟨x, -, rfl⟩ | rfl | rfl | rfl <;> rfl
theorem laid_commit (a b : Int) (X : List Int) (n : Int) (hX : X.length = 32) : laid [(0, 2), (2, 32), (34, 1), (35, 2)] [.int .i64 0, .int .i64 0, .int .u8 0, .int .u8 0, .int .u8 0, .int .u8 0, .int .u8 0, .int .u8 0, .int .u8 0, .int .u8 0, .int .u8 0, .int .u8 0, .int .u8 0, .int .u8 0, .int .u8 0, .int .u8 0, .int .u8 0, .int .u8 0, .int .u8 0, .int .u8 0, .int .u8 0, .int .u8 0, .int .u8 0, .int .u8 0, .int .u8 0, .int .u8 0, .int .u8 0, .int .u8 0, .int .u8 0, .int .u8 0, .int .u8 0, .int .u8 0, .int .u8 0, .int .u8 0, .int .i64 0, .int .i64 0, .int .i64 0] [(0, .agg #[.int .i64 a, .int .i64 b]), (1, hv X), (2, .int .i64 n)] = some (Cm.cells ⟨a, b, X, n, 0, 0⟩) := by
  have h1 : (hv X).cells.toList = X.map bv := by simp [hv, Value.cells]
  have h2 : (hv X).cells.size = 32 := by simp [hv, Value.cells, hX]
  unfold laid
  simp only [List.getElem?_cons_zero]
  rw [if_neg (by simp [Value.cells])]
  unfold laid
  simp only [List.getElem?_cons_succ, List.getElem?_cons_zero]
  rw [if_neg (by rw [h2]; simp [Value.cells]), h1]
  unfold laid
  simp only [List.getElem?_cons_succ, List.getElem?_cons_zero]
  rw [if_neg (by simp [Value.cells, hX])]
  unfold laid
  congr 1
  unfold Cm.cells
  have e : ∀ (A B : List Value) (u : Value), A.length = 34 → (A ++ u :: B).take 34 ++ [Value.int .i64 n] ++ (A ++ u :: B).drop 35 = A ++ .int .i64 n :: B := by
    intro A B u hA
    rw [List.take_append_of_le_length (by omega), List.take_of_length_le (by omega), List.drop_append, List.drop_eq_nil_of_le (by omega), show 35 - A.length = 1 by omega]
    simp
  have := e ([Value.int .i64 a, .int .i64 b] ++ X.map bv) [.int .i64 0, .int .i64 0] (.int .i64 0) (by simp [hX])
  simpa [Value.cells] using this
theorem lay_sig (c : Cm) (y m : Int) (hl : c.h.length = 32) : lay c.cells.toArray 35 [.int .i64 y, .int .i64 m] = (Cm.cells { c with sb := y, mr := m }).toArray := by
  unfold lay
  congr 1
  have e : c.cells = ([Value.int .i64 c.cl, .int .i64 c.sq] ++ c.h.map bv ++ [.int .i64 c.ln]) ++ [.int .i64 c.sb, .int .i64 c.mr] := by simp [Cm.cells]
  have hl2 : ([Value.int .i64 c.cl, .int .i64 c.sq] ++ c.h.map bv ++ [Value.int .i64 c.ln]).length = 35 := by simp [hl]
  simp only [List.length_cons, List.length_nil]
  rw [e, List.take_append_of_le_length (by omega), List.take_of_length_le (by omega), List.drop_eq_nil_of_le (by simp [hl])]
  simp [Cm.cells]
def SgSt (g b q : Nat) (L L' : List (Int × List Int)) (c0 c1 : Cm) : Nat → List Value → World → Prop := fun k _ w => match k with
  | 0 => BookIs w g b L ∧ Cs w q c0.cells.toArray 32
  | 1 => BookIs w g b L' ∧ Cs w q c0.cells.toArray 32
  | _ => BookIs w g b L' ∧ Cs w q c1.cells.toArray 32
theorem SgSt_still {g b q : Nat} {L L' : List (Int × List Int)} {c0 c1 : Cm} : ∀ k t w w', SgSt g b q L L' c0 c1 k t w → Mod (fun _ => False) w w' → SgSt g b q L L' c0 c1 k t w' := by
  intro k t w w' h hm
  match k, h with
  | 0, h | 1, h => exact ⟨h.1.mod hm (fun h => h) (fun h => h), h.2.mod hm (fun h => h)⟩
  | k + 2, h => exact ⟨h.1.mod hm (fun h => h) (fun h => h), h.2.mod hm (fun h => h)⟩
def cm0 (a b : Int) (h bs : List Int) : Cm := ⟨a, b, shaF (ofT a b h bs), bs.length, 0, 0⟩
def mkKey (a b : Int) (h bs : List Int) : Int × List Int := (1000 + a, txT (cm0 a b h bs))
def mkBook (L : List (Int × List Int)) (a b : Int) (h bs : List Int) : List (Int × List Int) := signF L (mkKey a b h bs)
def mkCm (L : List (Int × List Int)) (a b : Int) (h bs : List Int) : Cm := { cm0 a b h bs with sb := 1000 + a, mr := mkN (mkBook L a b h bs) (mkKey a b h bs) }
set_option maxHeartbeats 4000000 in
theorem Make_any {w : World} {g b' : Nat} {L : List (Int × List Int)} (hbk : BookIs w g b' L) (hLL : L.length ≤ 1000000) (a b : Int) (h bs : List Int) (v : Value) (ha : I64 a) (hsi : I64 (1000 + a)) (hb : I64 b) (hh : HK h) (hr : RdB w v bs) (hl : bs.length ≤ 800000) :
    Calls Try.prog 19 #[.pointer (some ⟨g, 0, none⟩), .agg #[.int .i64 a, .int .i64 b], hv h, v] w fun e w' => e = .returned (mkCm L a b h bs).val ∧ BookIs w' g b' (mkBook L a b h bs) ∧ Mod (fun k => k = b') w w' := by
  have zg := hbk.cell.lt
  have zb := hbk.map.lt
  have HNE := Lib.hid hbk.ne
  have HBK := Lib.hid hbk
  have HLL := Lib.hid hLL
  have HA := Lib.hid ha
  have HSI := Lib.hid hsi
  have HB := Lib.hid hb
  have HH := Lib.hid hh
  have HR := Lib.hid hr
  have HLB := Lib.hid hl
  have hbl := hr.block_lt
  obtain ⟨ao, cap, hv0, -, -⟩ := hr.shape
  have HV := Lib.hid hv0
  have h0k : (cm0 a b h bs).OK := ⟨⟨ha, hb, ⟨by simp only [cm0]; omega, by simp only [cm0]; omega⟩, ⟨by simp [cm0], by simp [cm0]⟩, ⟨by simp [cm0], by simp [cm0]⟩⟩, shaF_len _, shaF_bytes _⟩
  obtain ⟨c0, hc0⟩ : ∃ c, c = cm0 a b h bs := ⟨_, rfl⟩
  obtain ⟨c1, hc1⟩ : ∃ c, c = mkCm L a b h bs := ⟨_, rfl⟩
  have H0K := Lib.hid (show c0.OK by rw [hc0]; exact h0k)
  have H0L := Lib.hid (show c0.h.length = 32 by rw [hc0]; exact shaF_len _)
  have H1L := Lib.hid (show c1.h.length = 32 by rw [hc1]; exact shaF_len _)
  have H0 := Lib.hid (show c0 = ⟨a, b, shaF (ofT a b h bs), bs.length, 0, 0⟩ from hc0)
  have H1 := Lib.hid (show c1 = { c0 with sb := 1000 + a, mr := mkN (signF L (1000 + a, txT c0)) (1000 + a, txT c0) } by rw [hc1, hc0]; rfl)
  have HBN := Lib.hid (show mkBook L a b h bs = signF L (1000 + a, txT c0) by rw [hc0]; rfl)
  obtain ⟨zc, hzc⟩ : ∃ z : List Value, z = [.int .i64 0, .int .i64 0, .int .u8 0, .int .u8 0, .int .u8 0, .int .u8 0, .int .u8 0, .int .u8 0, .int .u8 0, .int .u8 0, .int .u8 0, .int .u8 0, .int .u8 0, .int .u8 0, .int .u8 0, .int .u8 0, .int .u8 0, .int .u8 0, .int .u8 0, .int .u8 0, .int .u8 0, .int .u8 0, .int .u8 0, .int .u8 0, .int .u8 0, .int .u8 0, .int .u8 0, .int .u8 0, .int .u8 0, .int .u8 0, .int .u8 0, .int .u8 0, .int .u8 0, .int .u8 0, .int .i64 0, .int .i64 0, .int .i64 0] := ⟨_, rfl⟩
  have HZC := Lib.hid hzc
  have HZL := Lib.hid (show zc.length = 37 by rw [hzc]; rfl)
  rw [← hc1]
  clear hbk hLL ha hsi hb hh hr hl hv0 h0k hc0 hc1 hzc
  change Calls _ _ #[.pointer (some ⟨g, 0, none⟩), .agg #[.int .i64 a, .int .i64 b], .agg (h.map bv).toArray, v] _ _
  go_enter Try.func19, Try.ntmps19
  go_upto_region 1 with (fail)
  obtain ⟨w1, hw1⟩ : ∃ z, z = ((w.alloc (.cells #[.int .i64 a, .int .i64 b] 26)).alloc (.cells (h.map bv).toArray 28)).alloc (.cells zc.toArray 32) := ⟨_, rfl⟩
  rw [HZC.out] at hw1
  change Code.wp _ _ _ _ (((w.alloc (.cells #[.int .i64 a, .int .i64 b] 26)).alloc (.cells (h.map bv).toArray 28)).alloc (.cells ([.int .i64 0, .int .i64 0, .int .u8 0, .int .u8 0, .int .u8 0, .int .u8 0, .int .u8 0, .int .u8 0, .int .u8 0, .int .u8 0, .int .u8 0, .int .u8 0, .int .u8 0, .int .u8 0, .int .u8 0, .int .u8 0, .int .u8 0, .int .u8 0, .int .u8 0, .int .u8 0, .int .u8 0, .int .u8 0, .int .u8 0, .int .u8 0, .int .u8 0, .int .u8 0, .int .u8 0, .int .u8 0, .int .u8 0, .int .u8 0, .int .u8 0, .int .u8 0, .int .u8 0, .int .u8 0, .int .i64 0, .int .i64 0, .int .i64 0] : List Value).toArray 32))
  rw [← hw1]
  rw [← HZC.out] at hw1
  have KN := Lib.hid (show Cs w1 w.heap.size #[.int .i64 a, .int .i64 b] 26 by rw [hw1]; exact ((Cs.new _ _ _).alloc _).alloc _)
  have KH := Lib.hid (show Cs w1 (w.heap.size + 1) (h.map bv).toArray 28 by rw [hw1]; exact (Cs_new1 _ _ _ _).alloc _)
  have KR := Lib.hid (show Cs w1 (w.heap.size + 1 + 1) zc.toArray 32 by
    rw [hw1]
    have := Cs_new1 (w.alloc (.cells #[.int .i64 a, .int .i64 b] 26)) (.cells (h.map bv).toArray 28) zc.toArray 32
    rwa [show (w.alloc (.cells #[.int .i64 a, .int .i64 b] 26)).heap.size = w.heap.size + 1 by simp] at this)
  have KM := Lib.hid (show Mod (fun _ => False) w w1 by rw [hw1]; exact (((Mod.refl _ _).alloc _).alloc _).alloc _)
  have hs1 : w1.heap.size = w.heap.size + 3 := by rw [hw1]; simp
  have HAP := Lib.hid (show Apart v bs.length (fun j => w1.heap.size ≤ j) from fun h0 g hg h => by have := hbl h0 g hg; omega)
  clear hw1 hbl
  generalize ha0 : Act.mk _ _ = a0
  have oe3 : a0.eval (.tmp 3) = v := by rw [← ha0]; rfl
  have oe5 : a0.eval (.tmp 5) = .pointer (some ⟨w.heap.size, 0, none⟩) := by rw [← ha0]; rfl
  have oe6 : a0.eval (.tmp 6) = .pointer (some ⟨w.heap.size + 1, 0, none⟩) := by rw [← ha0]; rfl
  have hsz0 : a0.tmps.size = 27 := by rw [← ha0]; rfl
  have HA0 := Lib.hid ha0
  clear ha0
  refine wp_region_A 27 hsz0 (by kernel_rfl) (by kernel_rfl) [10, 11, 12, 13, 14, 15, 16, 17, 9, 36] (by kernel_rfl) (by decide) (fun j => w1.heap.size ≤ j) (fun _ _ => False) (fun _ _ h => h.elim) Still (fun _ _ _ h => h) (fun _ _ _ hm h => hm.trans h (fun _ _ h => h.elim)) [gi (.agg #[.int .i64 a, .int .i64 b]), gi (.agg #[.int .i64 a, .int .i64 b]), gi (hv h), gi (v), gi (hv (shaF (ofT a b h bs))), gi (v), gi (.int .i64 bs.length), gi (c0.val), ga, ga] ⟨gi_stable, gi_stable, gi_stable, gi_stable, gi_stable, gi_stable, gi_stable, gi_stable, ga_stable, ga_stable, trivial⟩ [] (by kernel_rfl) (by decide) (by kernel_rfl) (fun _ _ => True) (fun _ _ _ _ _ => trivial) trivial [⟨8, 9, 32, [.int .i64 0, .int .i64 0, .int .u8 0, .int .u8 0, .int .u8 0, .int .u8 0, .int .u8 0, .int .u8 0, .int .u8 0, .int .u8 0, .int .u8 0, .int .u8 0, .int .u8 0, .int .u8 0, .int .u8 0, .int .u8 0, .int .u8 0, .int .u8 0, .int .u8 0, .int .u8 0, .int .u8 0, .int .u8 0, .int .u8 0, .int .u8 0, .int .u8 0, .int .u8 0, .int .u8 0, .int .u8 0, .int .u8 0, .int .u8 0, .int .u8 0, .int .u8 0, .int .u8 0, .int .u8 0, .int .i64 0, .int .i64 0, .int .i64 0], c0.cells⟩] (by kernel_rfl) (by intro r hr; simp only [List.mem_cons, List.not_mem_nil, or_false] at hr; rcases hr with rfl <;> exact ⟨rfl, rfl⟩) (fun _ _ h => h.elim) (fun _ h => h) stillA (fun _ _ _ _ _ _ => trivial) (AllEnd.get _ ⟨gi_end, gi_end, gi_end, gi_end, gi_end, gi_end, gi_end, gi_end, ga_end, ga_end, trivial⟩) (by intro r hr; simp only [List.mem_cons, List.not_mem_nil, or_false] at hr; rcases hr with rfl <;> exact ⟨of_decide_eq_true (by kernel_rfl), of_decide_eq_true (by kernel_rfl)⟩) (by intro r hr; simp only [List.mem_cons, List.not_mem_nil, or_false] at hr; rcases hr with rfl <;> exact fun _ _ _ => ⟨trivial, trivial⟩) ⟨?_, ?_, ?_, ?_, ?_, ?_, ?_, ?_, ?_, ?_, trivial⟩ ?_
  · refine ⟨fun r hr e => ?_, fun r hr e => ?_, fun hno => ?_⟩
    · simp only [List.mem_cons, List.not_mem_nil, or_false] at hr
      rcases hr with rfl
      · simp at e
    · simp only [List.mem_cons, List.not_mem_nil, or_false] at hr
      rcases hr with rfl
      · simp at e
    · intro tr act w' hm hout hsz hd hG hk hub
      exact jg_run (by rfl) rfl (wanted_none rfl) (ex_loadA rfl Try.underlying26 rfl (off := 0) (cs := [.int .i64 a, .int .i64 b]) (by kernel_rfl) ((hout 5 (by decide)).trans oe5) (Cs.whole (KN.out.mod hm (by omega)))) (Mod.refl _ _) rfl
  · refine ⟨fun r hr e => ?_, fun r hr e => ?_, fun hno => ?_⟩
    · simp only [List.mem_cons, List.not_mem_nil, or_false] at hr
      rcases hr with rfl
      · simp at e
    · simp only [List.mem_cons, List.not_mem_nil, or_false] at hr
      rcases hr with rfl
      · simp at e
    · intro tr act w' hm hout hsz hd hG hk hub
      exact jg_run (by rfl) rfl (wanted_none rfl) (ex_loadA rfl Try.underlying26 rfl (off := 0) (cs := [.int .i64 a, .int .i64 b]) (by kernel_rfl) ((hout 5 (by decide)).trans oe5) (Cs.whole (KN.out.mod hm (by omega)))) (Mod.refl _ _) rfl
  · refine ⟨fun r hr e => ?_, fun r hr e => ?_, fun hno => ?_⟩
    · simp only [List.mem_cons, List.not_mem_nil, or_false] at hr
      rcases hr with rfl
      · simp at e
    · simp only [List.mem_cons, List.not_mem_nil, or_false] at hr
      rcases hr with rfl
      · simp at e
    · intro tr act w' hm hout hsz hd hG hk hub
      exact jg_run (by rfl) rfl (wanted_none rfl) (ex_loadA rfl Try.underlying28 rfl (off := 0) (cs := h.map bv) (by rw [List.length_map, HH.out.1]; exact size_hash) ((hout 6 (by decide)).trans oe6) (Cs.whole (KH.out.mod hm (by omega)))) (Mod.refl _ _) rfl
  · refine ⟨fun r hr e => ?_, fun r hr e => ?_, fun hno => ?_⟩
    · simp only [List.mem_cons, List.not_mem_nil, or_false] at hr
      rcases hr with rfl
      · simp at e
    · simp only [List.mem_cons, List.not_mem_nil, or_false] at hr
      rcases hr with rfl
      · simp at e
    · intro tr act w' hm hout hsz hd hG hk hub
      exact jg_run (by rfl) rfl (wanted_none rfl) (ex_move rfl ((hout 3 (by decide)).trans oe3)) (Mod.refl _ _) rfl
  · refine ⟨fun r hr e => ?_, fun r hr e => ?_, fun hno => ?_⟩
    · simp only [List.mem_cons, List.not_mem_nil, or_false] at hr
      rcases hr with rfl
      · simp at e
    · simp only [List.mem_cons, List.not_mem_nil, or_false] at hr
      rcases hr with rfl
      · simp at e
    · intro tr act w' hm hout hsz hd hG hk hub
      have h1 := hd ⟨1, .data⟩ (by simp) rfl _ rfl
      have h2 := hd ⟨2, .data⟩ (by simp) rfl _ rfl
      have h3 := hd ⟨3, .data⟩ (by simp) rfl _ rfl
      refine jg_call (args := #[.agg #[.int .i64 a, .int .i64 b], hv h, v]) (by rfl) rfl (wanted_none rfl) (by rw [ex_callF rfl Try.func24 (by kernel_rfl) (by kernel_rfl)]; exact congrArg (fun z => Result.ok (Next.enter _ z) _) (by simp only [List.map_toArray, List.map_cons, List.map_nil, show act.eval (.tmp 11) = _ from h1, show act.eval (.tmp 12) = _ from h2, show act.eval (.tmp 13) = _ from h3]; try rfl)) (Of_any a b h bs v _ HA.out HB.out HH.out.1 HH.out.2 ((HR.out.mod KM.out (fun _ _ _ h => h)).mod hm HAP.out) HLB.out) ?_
      rintro e w2 ⟨rfl, hm2⟩
      exact ⟨_, rfl, hm2, rfl⟩
  · refine ⟨fun r hr e => ?_, fun r hr e => ?_, fun hno => ?_⟩
    · simp only [List.mem_cons, List.not_mem_nil, or_false] at hr
      rcases hr with rfl
      · simp at e
    · simp only [List.mem_cons, List.not_mem_nil, or_false] at hr
      rcases hr with rfl
      · simp at e
    · intro tr act w' hm hout hsz hd hG hk hub
      exact jg_run (by rfl) rfl (wanted_none rfl) (ex_move rfl ((hout 3 (by decide)).trans oe3)) (Mod.refl _ _) rfl
  · refine ⟨fun r hr e => ?_, fun r hr e => ?_, fun hno => ?_⟩
    · simp only [List.mem_cons, List.not_mem_nil, or_false] at hr
      rcases hr with rfl
      · simp at e
    · simp only [List.mem_cons, List.not_mem_nil, or_false] at hr
      rcases hr with rfl
      · simp at e
    · intro tr act w' hm hout hsz hd hG hk hub
      have h5 := hd ⟨5, .data⟩ (by simp) rfl _ rfl
      exact jg_run (by rfl) rfl (wanted_none rfl) (ex_lenS rfl (h5.trans HV.out) Try.underlying36) (Mod.refl _ _) rfl
  · refine ⟨fun r hr e => ?_, fun r hr e => ?_, fun hno => ?_⟩
    · simp only [List.mem_cons, List.not_mem_nil, or_false] at hr
      rcases hr with rfl
      · simp at e
    · simp only [List.mem_cons, List.not_mem_nil, or_false] at hr
      rcases hr with rfl
      · simp at e
    · intro tr act w' hm hout hsz hd hG hk hub
      have h0 := hd ⟨0, .data⟩ (by simp) rfl _ rfl
      have h4 := hd ⟨4, .data⟩ (by simp) rfl _ rfl
      have h6 := hd ⟨6, .data⟩ (by simp) rfl _ rfl
      exact jg_run (by rfl) rfl (wanted_none rfl) (ex_build rfl (z := [.int .i64 0, .int .i64 0, .int .u8 0, .int .u8 0, .int .u8 0, .int .u8 0, .int .u8 0, .int .u8 0, .int .u8 0, .int .u8 0, .int .u8 0, .int .u8 0, .int .u8 0, .int .u8 0, .int .u8 0, .int .u8 0, .int .u8 0, .int .u8 0, .int .u8 0, .int .u8 0, .int .u8 0, .int .u8 0, .int .u8 0, .int .u8 0, .int .u8 0, .int .u8 0, .int .u8 0, .int .u8 0, .int .u8 0, .int .u8 0, .int .u8 0, .int .u8 0, .int .u8 0, .int .u8 0, .int .i64 0, .int .i64 0, .int .i64 0]) (places := [(0, 2), (2, 32), (34, 1), (35, 2)]) (by kernel_rfl) (parts := [(0, .agg #[.int .i64 a, .int .i64 b]), (1, hv (shaF (ofT a b h bs))), (2, .int .i64 bs.length)]) (by simp only [List.map_toArray, List.map_cons, List.map_nil, show act.eval (.tmp 10) = _ from h0, show act.eval (.tmp 14) = _ from h4, show act.eval (.tmp 16) = _ from h6]; try rfl) (r := c0.cells) (by rw [H0.out]; exact laid_commit a b _ _ (shaF_len _))) (Mod.refl _ _) rfl
  · refine ⟨fun r hr e => ?_, fun r hr e => ?_, fun hno => ?_⟩
    · simp only [List.mem_cons, List.not_mem_nil, or_false] at hr
      rcases hr with rfl
      · exact ⟨rfl, rfl, by kernel_rfl, (by rw [Cm.len H0L.out]; rfl), (Cm.one c0), (by rw [Cm.len H0L.out]; exact size_commit)⟩
    · simp only [List.mem_cons, List.not_mem_nil, or_false] at hr
      rcases hr with rfl
      · simp at e
    · exact absurd rfl (hno ⟨8, 9, 32, [.int .i64 0, .int .i64 0, .int .u8 0, .int .u8 0, .int .u8 0, .int .u8 0, .int .u8 0, .int .u8 0, .int .u8 0, .int .u8 0, .int .u8 0, .int .u8 0, .int .u8 0, .int .u8 0, .int .u8 0, .int .u8 0, .int .u8 0, .int .u8 0, .int .u8 0, .int .u8 0, .int .u8 0, .int .u8 0, .int .u8 0, .int .u8 0, .int .u8 0, .int .u8 0, .int .u8 0, .int .u8 0, .int .u8 0, .int .u8 0, .int .u8 0, .int .u8 0, .int .u8 0, .int .u8 0, .int .i64 0, .int .i64 0, .int .i64 0], c0.cells⟩ (by simp)).1
  · refine ⟨fun r hr e => ?_, fun r hr e => ?_, fun hno => ?_⟩
    · simp only [List.mem_cons, List.not_mem_nil, or_false] at hr
      rcases hr with rfl
      · simp at e
    · simp only [List.mem_cons, List.not_mem_nil, or_false] at hr
      rcases hr with rfl
      · refine ⟨rfl, _, (.tmp 17), rfl, by decide, rfl, by kernel_rfl, by kernel_rfl, fun tr act w' hm hout hd hG => ?_⟩
        have h7 := hd ⟨7, .data⟩ (by simp) rfl _ rfl
        rw [show act.eval ((.tmp 17)) = _ from h7]
        rfl
    · exact absurd rfl (hno ⟨8, 9, 32, [.int .i64 0, .int .i64 0, .int .u8 0, .int .u8 0, .int .u8 0, .int .u8 0, .int .u8 0, .int .u8 0, .int .u8 0, .int .u8 0, .int .u8 0, .int .u8 0, .int .u8 0, .int .u8 0, .int .u8 0, .int .u8 0, .int .u8 0, .int .u8 0, .int .u8 0, .int .u8 0, .int .u8 0, .int .u8 0, .int .u8 0, .int .u8 0, .int .u8 0, .int .u8 0, .int .u8 0, .int .u8 0, .int .u8 0, .int .u8 0, .int .u8 0, .int .u8 0, .int .u8 0, .int .u8 0, .int .i64 0, .int .i64 0, .int .i64 0], c0.cells⟩ (by simp)).2
  intro vs tr w2 hl htl hm hG hV hAL hNE
  obtain ⟨v0, vs0, rfl, hl0⟩ := list_cons hl
  obtain ⟨v1, vs1, rfl, hl1⟩ := list_cons hl0
  obtain ⟨v2, vs2, rfl, hl2⟩ := list_cons hl1
  obtain ⟨v3, vs3, rfl, hl3⟩ := list_cons hl2
  obtain ⟨v4, vs4, rfl, hl4⟩ := list_cons hl3
  obtain ⟨v5, vs5, rfl, hl5⟩ := list_cons hl4
  obtain ⟨v6, vs6, rfl, hl6⟩ := list_cons hl5
  obtain ⟨v7, vs7, rfl, hl7⟩ := list_cons hl6
  obtain ⟨v8, vs8, rfl, hl8⟩ := list_cons hl7
  obtain ⟨v9, vs9, rfl, hl9⟩ := list_cons hl8
  obtain rfl := list_nil hl9
  obtain ⟨q0, fq0, hqB0, hqC0⟩ := hAL _ (by simp only [List.mem_cons, List.not_mem_nil, or_false]; trivial)
  obtain rfl : v8 = _ := Option.some.inj fq0
  clear hl hl0 hl1 hl2 hl3 hl4 hl5 hl6 hl7 hl8 hl9
  have ha0 := HA0.out
  subst ha0
  clear HA0 hV hsz0 oe3 oe5 oe6
  simp only [putAll, Act.put, List.setIfInBounds_toArray, List.set_cons_zero, List.set_cons_succ, List.set_nil]
  have KN2 := Lib.hid (KN.out.mod hm (by omega))
  have KR2a := Lib.hid (KR.out.mod hm (by omega))
  have KM2 := Lib.hid (KM.out.trans hm (fun k h1 h2 => by omega))
  have HG0 := Lib.hid (show ByLen (SgSt g b' q0 L (signF L (1000 + a, txT c0)) c0 c1) [] w2 from ⟨HBK.out.mod KM2.out (fun h => h) (fun h => h), hqC0⟩)
  clear hm hG hAL hNE hqC0 fq0 KN KH KR KM
  go_upto_region 2 with (fail)
  generalize ha0 : Act.mk _ _ = a0
  have oe0 : a0.eval (.tmp 0) = .pointer (some ⟨g, 0, none⟩) := by rw [← ha0]; rfl
  have oe5 : a0.eval (.tmp 5) = .pointer (some ⟨w.heap.size, 0, none⟩) := by rw [← ha0]; rfl
  have oe9 : a0.eval (.tmp 9) = .pointer (some ⟨q0, 0, none⟩) := by rw [← ha0]; rfl
  have hsz0 : a0.tmps.size = 27 := by rw [← ha0]; rfl
  have HA0 := Lib.hid ha0
  clear ha0
  refine wp_region_G 27 hsz0 (by kernel_rfl) (by kernel_rfl) [18, 19, 20, 21, 22, 23, 24, 25, 35] (by kernel_rfl) (by decide) (fun j => j = b' ∨ j = q0) (fun k j => (k = 0 ∧ j = b') ∨ (k = 1 ∧ j = q0)) (fun k j h => by omega) Still (fun _ _ _ h => h) (fun _ _ _ hm h => hm.trans h (fun _ _ h => h.elim)) [gi (.pointer (some ⟨g, 0, none⟩)), gi (.pointer (some ⟨w.heap.size, 0, none⟩)), gi (.int .i64 a), gi (.int .i64 (1000 + a)), gi (c0.val), (fun t v w => t.length = 0 → RdB w v (txT c0) ∧ (txT c0).length ≤ 500), gi (.agg #[.int .i64 (1000 + a), .int .i64 (mkN (signF L (1000 + a, txT c0)) (1000 + a, txT c0))]), gi (.pointer (some ⟨q0, 35, none⟩)), ga] ⟨gi_stable, gi_stable, gi_stable, gi_stable, gi_stable, ⟨fun _ _ _ _ h hr h0 => ⟨(h h0).1.mod hr (fun _ _ _ h => h), (h h0).2⟩, fun _ _ _ _ _ _ _ h0 => by simp at h0⟩, gi_stable, gi_stable, ga_stable, trivial⟩ [6, 8] (by kernel_rfl) (by decide) (by kernel_rfl) (ByLen (SgSt g b' q0 L (signF L (1000 + a, txT c0)) c0 c1)) (ByLen.still SgSt_still) HG0.out ⟨?_, ?_, ?_, ?_, ?_, ?_, ?_, ?_, ?_, trivial⟩ ?_
  · intro tr act w' hm hout hsz hd hG hk hub
    exact jg_run (by rfl) rfl (wanted_none rfl) (ex_move rfl ((hout 0 (by decide)).trans oe0)) (Mod.refl _ _) rfl
  · intro tr act w' hm hout hsz hd hG hk hub
    refine jg_run (by rfl) rfl (wanted_none rfl) (ex_field rfl Try.underlying26 rfl (by kernel_rfl) ((hout 5 (by decide)).trans oe5)) (Mod.refl _ _) ?_
    rfl
  · intro tr act w' hm hout hsz hd hG hk hub
    have h1 := hd ⟨1, .data⟩ (by simp) rfl _ rfl
    exact jg_run (by rfl) rfl (wanted_none rfl) (ex_load1 rfl Try.underlying3 rfl h1 (by rw [(KN2.out.mod hm (by omega)).cell]; rfl)) (Mod.refl _ _) rfl
  · intro tr act w' hm hout hsz hd hG hk hub
    have h2 := hd ⟨2, .data⟩ (by simp) rfl _ rfl
    refine jg_call (args := #[.int .i64 a]) (by rfl) rfl (wanted_none rfl) (by rw [ex_callF rfl Try.func54 (by kernel_rfl) (by kernel_rfl)]; exact congrArg (fun z => Result.ok (Next.enter _ z) _) (by simp only [List.map_toArray, List.map_cons, List.map_nil, show act.eval (.tmp 20) = _ from h2]; try rfl)) (signer_any a _ HSI.out) ?_
    rintro e w2 ⟨rfl, hm2⟩
    exact ⟨_, rfl, hm2, rfl⟩
  · intro tr act w' hm hout hsz hd hG hk hub
    exact jg_run (by rfl) rfl (wanted_none rfl) (ex_loadA rfl Try.underlying32 rfl (off := 0) (cs := c0.cells) (by rw [Cm.len H0L.out]; exact size_commit) ((hout 9 (by decide)).trans oe9) (Cs.whole (hG.at (show tr.length = 0 from Nat.le_zero.1 (hub 0 6 rfl (by kernel_rfl)))).2)) (Mod.refl _ _) rfl
  · intro tr act w' hm hout hsz hd hG hk hub
    have h4 := hd ⟨4, .data⟩ (by simp) rfl _ rfl
    refine jg_call (args := #[c0.val]) (by rfl) rfl (wanted_none rfl) (by rw [ex_callF rfl Try.func30 (by kernel_rfl) (by kernel_rfl)]; exact congrArg (fun z => Result.ok (Next.enter _ z) _) (by simp only [List.map_toArray, List.map_cons, List.map_nil, show act.eval (.tmp 22) = _ from h4]; try rfl)) (Text_any c0 _ H0K.out) ?_
    rintro e w2 ⟨u, rfl, ho, hm2⟩
    exact ⟨_, rfl, hm2, fun _ => ⟨ho.rd.1, ho.2.2⟩⟩
  · intro tr act w' hm hout hsz hd hG hk hub
    have h0 := hd ⟨0, .data⟩ (by simp) rfl _ rfl
    have h3 := hd ⟨3, .data⟩ (by simp) rfl _ rfl
    have h5 := hd ⟨5, .data⟩ (by simp) rfl _ rfl
    have hl := hk 0 rfl
    have hs := hG.at hl
    obtain ⟨u, hu0⟩ : ∃ u, u = act.eval (.tmp 23) := ⟨_, rfl⟩
    have hu : RdB w' u (txT c0) ∧ (txT c0).length ≤ 500 := by rw [hu0]; exact h5 hl
    refine jc_call (args := #[.pointer (some ⟨g, 0, none⟩), .int .i64 (1000 + a), u]) (by rfl) rfl (wanted_none rfl) (by rw [ex_callF rfl Try.func53 (by kernel_rfl) (by kernel_rfl)]; exact congrArg (fun z => Result.ok (Next.enter _ z) _) (by simp only [List.map_toArray, List.map_cons, List.map_nil, show act.eval (.tmp 18) = _ from h0, show act.eval (.tmp 21) = _ from h3, show act.eval (.tmp 23) = _ from hu0.symm]; try rfl)) (Book_sign hs.1 (1000 + a) hu.1 ⟨HSI.out, hu.1.1, Nat.le_trans hu.2 (by decide)⟩ HLL.out) ?_
    rintro e w2 ⟨m, rfl, rfl, hb2, hm2⟩
    exact ⟨_, rfl, hm2.mono (fun _ _ h => Or.inl ⟨hl, h⟩), rfl, ByLen.on hl ⟨hb2, hs.2.mod hm2 (by omega)⟩⟩
  · intro tr act w' hm hout hsz hd hG hk hub
    refine jg_run (by rfl) rfl (wanted_none rfl) (ex_field rfl Try.underlying32 rfl (by kernel_rfl) ((hout 9 (by decide)).trans oe9)) (Mod.refl _ _) ?_
    rfl
  · intro tr act w' hm hout hsz hd hG hk hub
    have h6 := hd ⟨6, .data⟩ (by simp) rfl _ rfl
    have h7 := hd ⟨7, .data⟩ (by simp) rfl _ rfl
    have hl := hk 1 rfl
    have hs := hG.at hl
    refine jc_turn (by rfl) rfl (wanted_none rfl) (ex_storeA rfl hs.2 (off := 35) (vs := [.int .i64 (1000 + a), .int .i64 (mkN (signF L (1000 + a, txT c0)) (1000 + a, txT c0))]) (by kernel_rfl) (by intro u hu; simp at hu; rcases hu with rfl | rfl <;> rfl) (by simp [Cm.len H0L.out]) h7 (by rw [show act.eval (.tmp 24) = _ from h6]; rfl)) (setRow_Mod.mono (fun _ _ h => Or.inr ⟨hl, h⟩)) trivial (ByLen.on hl ⟨hs.1.mod setRow_Mod (by omega) (by omega), ?_⟩)
    rw [lay_sig _ _ _ H0L.out, ← H1.out]
    exact setRow_Cs hs.2
  intro vs tr w3 hl htl hm hG hV
  obtain ⟨v0, vs0, rfl, hl0⟩ := list_cons hl
  obtain ⟨v1, vs1, rfl, hl1⟩ := list_cons hl0
  obtain ⟨v2, vs2, rfl, hl2⟩ := list_cons hl1
  obtain ⟨v3, vs3, rfl, hl3⟩ := list_cons hl2
  obtain ⟨v4, vs4, rfl, hl4⟩ := list_cons hl3
  obtain ⟨v5, vs5, rfl, hl5⟩ := list_cons hl4
  obtain ⟨v6, vs6, rfl, hl6⟩ := list_cons hl5
  obtain ⟨v7, vs7, rfl, hl7⟩ := list_cons hl6
  obtain ⟨v8, vs8, rfl, hl8⟩ := list_cons hl7
  obtain rfl := list_nil hl8
  clear hl hl0 hl1 hl2 hl3 hl4 hl5 hl6 hl7 hl8
  have ha0 := HA0.out
  subst ha0
  clear HA0 hV hsz0 oe0 oe5 oe9
  simp only [putAll, Act.put, List.setIfInBounds_toArray, List.set_cons_zero, List.set_cons_succ, List.set_nil]
  have hs := hG.at htl
  have HB3 := Lib.hid hs.1
  have KQ := Lib.hid (show Cs w3 q0 c1.cells.toArray 32 from hs.2)
  have KR2 := Lib.hid (show ByLen (ResSt (w.heap.size + 1 + 1) 32 zc c1.cells) [] w3 from KR2a.out.mod hm (by omega))
  have KM3 := Lib.hid ((KM2.out.mono (S' := fun k => k = b') (fun _ _ h => h.elim)).trans hm (fun k h1 h2 => by omega))
  clear hs hG hm htl KR2a KM2 HG0
  go_upto_region 3 with (fail)
  generalize ha0 : Act.mk _ _ = a0
  have oe8 : a0.eval (.tmp 8) = .pointer (some ⟨w.heap.size + 1 + 1, 0, none⟩) := by rw [← ha0]; rfl
  have oe9 : a0.eval (.tmp 9) = .pointer (some ⟨q0, 0, none⟩) := by rw [← ha0]; rfl
  have hsz0 : a0.tmps.size = 27 := by rw [← ha0]; rfl
  have HA0 := Lib.hid ha0
  clear ha0
  refine wp_region_G 27 hsz0 (by kernel_rfl) (by kernel_rfl) [26, 28] (by kernel_rfl) (by decide) (fun j => j = w.heap.size + 1 + 1) (fun _ j => j = w.heap.size + 1 + 1) (fun _ _ h => h) Still (fun _ _ _ h => h) (fun _ _ _ hm h => hm.trans h (fun _ _ h => h.elim)) [gi (c1.val), ga] ⟨gi_stable, ga_stable, trivial⟩ [1] (by kernel_rfl) (by decide) (by kernel_rfl) (ByLen (ResSt (w.heap.size + 1 + 1) 32 zc c1.cells)) (ByLen.still ResSt_still) KR2.out ⟨?_, ?_, trivial⟩ ?_
  · intro tr act w' hm hout hsz hd hG hk hub
    exact jg_run (by rfl) rfl (wanted_none rfl) (ex_loadA rfl Try.underlying32 rfl (off := 0) (cs := c1.cells) (by rw [Cm.len H1L.out]; exact size_commit) ((hout 9 (by decide)).trans oe9) (Cs.whole (KQ.out.mod hm (by omega)))) (Mod.refl _ _) rfl
  · intro tr act w' hm hout hsz hd hG hk hub
    have h0 := hd ⟨0, .data⟩ (by simp) rfl _ rfl
    have hl := hk 0 rfl
    refine jc_turn (by rfl) rfl (wanted_none rfl) (ex_storeA rfl (hG.at hl) (off := 0) (vs := c1.cells) (by rw [Cm.len H1L.out]; exact size_commit) (Cm.one c1) (by simp [HZL.out, Cm.len H1L.out]) ((hout 8 (by decide)).trans oe8) (by rw [show act.eval (.tmp 26) = _ from h0]; rfl)) setRow_Mod trivial (ByLen.on hl ?_)
    rw [lay_whole _ _ (by simp [HZL.out, Cm.len H1L.out])]
    exact setRow_Cs (hG.at hl)
  intro vs tr w4 hl htl hm hG hV
  obtain ⟨v0, vs0, rfl, hl0⟩ := list_cons hl
  obtain ⟨v1, vs1, rfl, hl1⟩ := list_cons hl0
  obtain rfl := list_nil hl1
  clear hl hl0 hl1
  have ha0 := HA0.out
  subst ha0
  clear HA0 hV hsz0 oe8 oe9
  simp only [putAll, Act.put, List.setIfInBounds_toArray, List.set_cons_zero, List.set_cons_succ, List.set_nil]
  have hres := hG.at htl
  go_wp2
  exact bodyPost_ret (results_cellA rfl _ _ (w.heap.size + 1 + 1) c1.cells rfl (fun k u hu => by rw [Cs.cell hres]; simpa using hu) Try.underlying32 rfl (by rw [Cm.len H1L.out]; exact size_commit)) rfl ⟨rfl, by rw [HBN.out]; exact HB3.out.mod hm (by omega) (by omega), KM3.out.trans hm (fun k h1 h2 => by omega)⟩
def rightC (L : List (Int × List Int)) (k : Int) (c : Cm) : Bool := validF k c && (c.sb == 1000 + c.cl) && rightF L (c.sb, txT c) c.mr
set_option maxHeartbeats 4000000 in
theorem Right_any {w : World} {g b : Nat} {L : List (Int × List Int)} (hbk : BookIs w g b L) (f k : Int) (c : Cm) (hc : c.OK) (hsi : I64 (1000 + c.cl)) :
    Calls Try.prog 21 #[.agg #[.int .i64 f, .int .i64 k], .pointer (some ⟨g, 0, none⟩), c.val] w fun e w' => e = .returned (.bool (rightC L k c)) ∧ Mod (fun _ => False) w w' := by
  have HBK := Lib.hid hbk
  have HC := Lib.hid hc
  have HSI := Lib.hid hsi
  clear hbk hc hsi
  change Calls _ _ #[.agg #[.int .i64 f, .int .i64 k], .pointer (some ⟨g, 0, none⟩), .agg c.cells.toArray] _ _
  go_enter Try.func21, Try.ntmps21
  go_upto_region 1 with (fail)
  obtain ⟨w1, hw1⟩ : ∃ x, x = (w.alloc (.cells #[.int .i64 f, .int .i64 k] 24)).alloc (.cells c.cells.toArray 32) := ⟨_, rfl⟩
  change Code.wp _ _ _ _ ((w.alloc (.cells #[.int .i64 f, .int .i64 k] 24)).alloc (.cells c.cells.toArray 32))
  rw [← hw1]
  have KF := Lib.hid (show Cs w1 w.heap.size #[.int .i64 f, .int .i64 k] 24 by rw [hw1]; exact (Cs.new _ _ _).alloc _)
  have KX := Lib.hid (show Cs w1 (w.heap.size + 1) c.cells.toArray 32 by rw [hw1]; exact Cs_new1 _ _ _ _)
  have KM := Lib.hid (show Mod (fun _ => False) w w1 by rw [hw1]; exact ((Mod.refl _ _).alloc _).alloc _)
  clear hw1
  cases hva : validF k c with
  | false =>
    have EV := Lib.hid hva
    clear hva
    generalize ha0 : Act.mk _ _ = a0
    have oe1 : a0.eval (.tmp 1) = .pointer (some ⟨g, 0, none⟩) := by rw [← ha0]; rfl
    have oe3 : a0.eval (.tmp 3) = .pointer (some ⟨w.heap.size, 0, none⟩) := by rw [← ha0]; rfl
    have oe5 : a0.eval (.tmp 5) = .pointer (some ⟨w.heap.size + 1, 0, none⟩) := by rw [← ha0]; rfl
    have hsz0 : a0.tmps.size = 28 := by rw [← ha0]; rfl
    have HA0 := Lib.hid ha0
    clear ha0
    refine wp_region_G 28 hsz0 (by kernel_rfl) (by kernel_rfl) [7, 8, 9, 10, 11, 12, 13, 14, 15, 16, 17, 18, 19, 20, 21, 22, 23, 24, 25, 26, 27, 6] (by kernel_rfl) (by decide) (fun _ => False) (fun _ _ => False) (fun _ _ h => h) Still (fun _ _ _ h => h) (fun _ _ _ hm h => hm.trans h (fun _ _ h => h.elim)) [gi (.agg #[.int .i64 f, .int .i64 k]), gi (c.val), gi (.bool false), gi (.bool false), gi (undef), gi (undef), gi (undef), gi (undef), gi (undef), gi (undef), gi (undef), gi (undef), gi (.bool false), gi (.bool false), gi (undef), gi (undef), gi (undef), gi (undef), gi (undef), gi (undef), gi (.bool false), gi (.bool false)] ⟨gi_stable, gi_stable, gi_stable, gi_stable, gi_stable, gi_stable, gi_stable, gi_stable, gi_stable, gi_stable, gi_stable, gi_stable, gi_stable, gi_stable, gi_stable, gi_stable, gi_stable, gi_stable, gi_stable, gi_stable, gi_stable, gi_stable, trivial⟩ [] (by kernel_rfl) (by decide) (by kernel_rfl) (fun _ _ => True) (fun _ _ _ _ _ => trivial) trivial ⟨?_, ?_, ?_, ?_, ?_, ?_, ?_, ?_, ?_, ?_, ?_, ?_, ?_, ?_, ?_, ?_, ?_, ?_, ?_, ?_, ?_, ?_, trivial⟩ ?_
    · intro tr act w' hm hout hsz hd hG hk hub
      exact jg_run (by rfl) rfl (wanted_none rfl) (ex_loadA rfl Try.underlying24 rfl (off := 0) (cs := [.int .i64 f, .int .i64 k]) (by kernel_rfl) ((hout 3 (by decide)).trans oe3) (Cs.whole (KF.out.mod hm (fun h => h)))) (Mod.refl _ _) rfl
    · intro tr act w' hm hout hsz hd hG hk hub
      exact jg_run (by rfl) rfl (wanted_none rfl) (ex_loadA rfl Try.underlying32 rfl (off := 0) (cs := c.cells) (by rw [Cm.len HC.out.2.1]; exact size_commit) ((hout 5 (by decide)).trans oe5) (Cs.whole (KX.out.mod hm (fun h => h)))) (Mod.refl _ _) rfl
    · intro tr act w' hm hout hsz hd hG hk hub
      have h0 := hd ⟨0, .data⟩ (by simp) rfl _ rfl
      have h1 := hd ⟨1, .data⟩ (by simp) rfl _ rfl
      refine jg_call (args := #[.agg #[.int .i64 f, .int .i64 k], c.val]) (by rfl) rfl (wanted_none rfl) (by rw [ex_callF rfl Try.func15 (by kernel_rfl) (by kernel_rfl)]; exact congrArg (fun z => Result.ok (Next.enter _ z) _) (by simp only [List.map_toArray, List.map_cons, List.map_nil, show act.eval (.tmp 7) = _ from h0, show act.eval (.tmp 8) = _ from h1]; try rfl)) (Valid_any f k c HC.out _) ?_
      rintro e w2 ⟨rfl, hm2⟩
      exact ⟨_, rfl, hm2, congrArg Value.bool EV.out⟩
    · intro tr act w' hm hout hsz hd hG hk hub
      have h2 := hd ⟨2, .data⟩ (by simp) rfl _ rfl
      exact jg_run (by rfl) rfl (wanted_none rfl) (ex_move rfl h2) (Mod.refl _ _) rfl
    · intro tr act w' hm hout hsz hd hG hk hub
      have h3 := hd ⟨3, .guard⟩ (by simp) rfl _ rfl
      exact jg_skip (fun _ _ _ h => h) (by rfl) rfl ((wanted_of rfl rfl (hsz 10 (by decide)) h3).trans rfl) rfl
    · intro tr act w' hm hout hsz hd hG hk hub
      have h3 := hd ⟨3, .guard⟩ (by simp) rfl _ rfl
      exact jg_skip (fun _ _ _ h => h) (by rfl) rfl ((wanted_of rfl rfl (hsz 10 (by decide)) h3).trans rfl) rfl
    · intro tr act w' hm hout hsz hd hG hk hub
      have h3 := hd ⟨3, .guard⟩ (by simp) rfl _ rfl
      exact jg_skip (fun _ _ _ h => h) (by rfl) rfl ((wanted_of rfl rfl (hsz 10 (by decide)) h3).trans rfl) rfl
    · intro tr act w' hm hout hsz hd hG hk hub
      have h3 := hd ⟨3, .guard⟩ (by simp) rfl _ rfl
      exact jg_skip (fun _ _ _ h => h) (by rfl) rfl ((wanted_of rfl rfl (hsz 10 (by decide)) h3).trans rfl) rfl
    · intro tr act w' hm hout hsz hd hG hk hub
      have h3 := hd ⟨3, .guard⟩ (by simp) rfl _ rfl
      exact jg_skip (fun _ _ _ h => h) (by rfl) rfl ((wanted_of rfl rfl (hsz 10 (by decide)) h3).trans rfl) rfl
    · intro tr act w' hm hout hsz hd hG hk hub
      have h3 := hd ⟨3, .guard⟩ (by simp) rfl _ rfl
      exact jg_skip (fun _ _ _ h => h) (by rfl) rfl ((wanted_of rfl rfl (hsz 10 (by decide)) h3).trans rfl) rfl
    · intro tr act w' hm hout hsz hd hG hk hub
      have h3 := hd ⟨3, .guard⟩ (by simp) rfl _ rfl
      exact jg_skip (fun _ _ _ h => h) (by rfl) rfl ((wanted_of rfl rfl (hsz 10 (by decide)) h3).trans rfl) rfl
    · intro tr act w' hm hout hsz hd hG hk hub
      have h3 := hd ⟨3, .guard⟩ (by simp) rfl _ rfl
      exact jg_skip (fun _ _ _ h => h) (by rfl) rfl ((wanted_of rfl rfl (hsz 10 (by decide)) h3).trans rfl) rfl
    · intro tr act w' hm hout hsz hd hG hk hub
      have h3 := hd ⟨3, .data⟩ (by simp) rfl _ rfl
      have h11 := hd ⟨11, .data⟩ (by simp) rfl _ rfl
      exact jg_run (by rfl) rfl (wanted_none rfl) (ex_pick rfl h3 h11 rfl) (Mod.refl _ _) rfl
    · intro tr act w' hm hout hsz hd hG hk hub
      have h12 := hd ⟨12, .data⟩ (by simp) rfl _ rfl
      exact jg_run (by rfl) rfl (wanted_none rfl) (ex_move rfl h12) (Mod.refl _ _) rfl
    · intro tr act w' hm hout hsz hd hG hk hub
      have h13 := hd ⟨13, .guard⟩ (by simp) rfl _ rfl
      exact jg_skip (fun _ _ _ h => h) (by rfl) rfl ((wanted_of rfl rfl (hsz 20 (by decide)) h13).trans rfl) rfl
    · intro tr act w' hm hout hsz hd hG hk hub
      have h13 := hd ⟨13, .guard⟩ (by simp) rfl _ rfl
      exact jg_skip (fun _ _ _ h => h) (by rfl) rfl ((wanted_of rfl rfl (hsz 20 (by decide)) h13).trans rfl) rfl
    · intro tr act w' hm hout hsz hd hG hk hub
      have h13 := hd ⟨13, .guard⟩ (by simp) rfl _ rfl
      exact jg_skip (fun _ _ _ h => h) (by rfl) rfl ((wanted_of rfl rfl (hsz 20 (by decide)) h13).trans rfl) rfl
    · intro tr act w' hm hout hsz hd hG hk hub
      have h13 := hd ⟨13, .guard⟩ (by simp) rfl _ rfl
      exact jg_skip (fun _ _ _ h => h) (by rfl) rfl ((wanted_of rfl rfl (hsz 20 (by decide)) h13).trans rfl) rfl
    · intro tr act w' hm hout hsz hd hG hk hub
      have h13 := hd ⟨13, .guard⟩ (by simp) rfl _ rfl
      exact jg_skip (fun _ _ _ h => h) (by rfl) rfl ((wanted_of rfl rfl (hsz 20 (by decide)) h13).trans rfl) rfl
    · intro tr act w' hm hout hsz hd hG hk hub
      have h13 := hd ⟨13, .guard⟩ (by simp) rfl _ rfl
      exact jg_skip (fun _ _ _ h => h) (by rfl) rfl ((wanted_of rfl rfl (hsz 20 (by decide)) h13).trans rfl) rfl
    · intro tr act w' hm hout hsz hd hG hk hub
      have h13 := hd ⟨13, .data⟩ (by simp) rfl _ rfl
      have h19 := hd ⟨19, .data⟩ (by simp) rfl _ rfl
      exact jg_run (by rfl) rfl (wanted_none rfl) (ex_pick rfl h13 h19 rfl) (Mod.refl _ _) rfl
    · intro tr act w' hm hout hsz hd hG hk hub
      have h20 := hd ⟨20, .data⟩ (by simp) rfl _ rfl
      exact jg_run (by rfl) rfl (wanted_none rfl) (ex_assign rfl h20) (Mod.refl _ _) rfl
    intro vs tr w2 hl htl hm hG hV
    obtain ⟨v0, vs0, rfl, hl0⟩ := list_cons hl
    obtain ⟨v1, vs1, rfl, hl1⟩ := list_cons hl0
    obtain ⟨v2, vs2, rfl, hl2⟩ := list_cons hl1
    obtain ⟨v3, vs3, rfl, hl3⟩ := list_cons hl2
    obtain ⟨v4, vs4, rfl, hl4⟩ := list_cons hl3
    obtain ⟨v5, vs5, rfl, hl5⟩ := list_cons hl4
    obtain ⟨v6, vs6, rfl, hl6⟩ := list_cons hl5
    obtain ⟨v7, vs7, rfl, hl7⟩ := list_cons hl6
    obtain ⟨v8, vs8, rfl, hl8⟩ := list_cons hl7
    obtain ⟨v9, vs9, rfl, hl9⟩ := list_cons hl8
    obtain ⟨v10, vs10, rfl, hl10⟩ := list_cons hl9
    obtain ⟨v11, vs11, rfl, hl11⟩ := list_cons hl10
    obtain ⟨v12, vs12, rfl, hl12⟩ := list_cons hl11
    obtain ⟨v13, vs13, rfl, hl13⟩ := list_cons hl12
    obtain ⟨v14, vs14, rfl, hl14⟩ := list_cons hl13
    obtain ⟨v15, vs15, rfl, hl15⟩ := list_cons hl14
    obtain ⟨v16, vs16, rfl, hl16⟩ := list_cons hl15
    obtain ⟨v17, vs17, rfl, hl17⟩ := list_cons hl16
    obtain ⟨v18, vs18, rfl, hl18⟩ := list_cons hl17
    obtain ⟨v19, vs19, rfl, hl19⟩ := list_cons hl18
    obtain ⟨v20, vs20, rfl, hl20⟩ := list_cons hl19
    obtain ⟨v21, vs21, rfl, hl21⟩ := list_cons hl20
    obtain rfl := list_nil hl21
    clear hl hl0 hl1 hl2 hl3 hl4 hl5 hl6 hl7 hl8 hl9 hl10 hl11 hl12 hl13 hl14 hl15 hl16 hl17 hl18 hl19 hl20 hl21
    obtain rfl : v21 = .bool false := hV 21 _ rfl
    have ha0 := HA0.out
    subst ha0
    clear HA0 hV hsz0 oe1 oe3 oe5
    simp only [putAll, Act.put, List.setIfInBounds_toArray, List.set_cons_zero, List.set_cons_succ]
    have KM2 := Lib.hid (KM.out.trans hm (fun _ _ h => h))
    clear hm hG
    go_wp2
    go_ret
    exact ⟨congrArg (fun z => Ending.returned (Value.bool z)) (show false = rightC L k c by unfold rightC; simp only [EV.out, Bool.false_and] <;> rfl), KM2.out⟩
  | true =>
    have EV := Lib.hid hva
    clear hva
    cases hsy : (c.sb == 1000 + c.cl) with
    | false =>
      have ES := Lib.hid hsy
      clear hsy
      generalize ha0 : Act.mk _ _ = a0
      have oe1 : a0.eval (.tmp 1) = .pointer (some ⟨g, 0, none⟩) := by rw [← ha0]; rfl
      have oe3 : a0.eval (.tmp 3) = .pointer (some ⟨w.heap.size, 0, none⟩) := by rw [← ha0]; rfl
      have oe5 : a0.eval (.tmp 5) = .pointer (some ⟨w.heap.size + 1, 0, none⟩) := by rw [← ha0]; rfl
      have hsz0 : a0.tmps.size = 28 := by rw [← ha0]; rfl
      have HA0 := Lib.hid ha0
      clear ha0
      refine wp_region_G 28 hsz0 (by kernel_rfl) (by kernel_rfl) [7, 8, 9, 10, 11, 12, 13, 14, 15, 16, 17, 18, 19, 20, 21, 22, 23, 24, 25, 26, 27, 6] (by kernel_rfl) (by decide) (fun _ => False) (fun _ _ => False) (fun _ _ h => h) Still (fun _ _ _ h => h) (fun _ _ _ hm h => hm.trans h (fun _ _ h => h.elim)) [gi (.agg #[.int .i64 f, .int .i64 k]), gi (c.val), gi (.bool true), gi (.bool true), gi (.pointer (some ⟨w.heap.size + 1, 35, none⟩)), gi (.pointer (some ⟨w.heap.size + 1, 35, none⟩)), gi (.int .i64 c.sb), gi (.pointer (some ⟨w.heap.size + 1, 0, none⟩)), gi (.pointer (some ⟨w.heap.size + 1, 0, none⟩)), gi (.int .i64 c.cl), gi (.int .i64 (1000 + c.cl)), gi (.bool false), gi (.bool false), gi (.bool false), gi (undef), gi (undef), gi (undef), gi (undef), gi (undef), gi (undef), gi (.bool false), gi (.bool false)] ⟨gi_stable, gi_stable, gi_stable, gi_stable, gi_stable, gi_stable, gi_stable, gi_stable, gi_stable, gi_stable, gi_stable, gi_stable, gi_stable, gi_stable, gi_stable, gi_stable, gi_stable, gi_stable, gi_stable, gi_stable, gi_stable, gi_stable, trivial⟩ [] (by kernel_rfl) (by decide) (by kernel_rfl) (fun _ _ => True) (fun _ _ _ _ _ => trivial) trivial ⟨?_, ?_, ?_, ?_, ?_, ?_, ?_, ?_, ?_, ?_, ?_, ?_, ?_, ?_, ?_, ?_, ?_, ?_, ?_, ?_, ?_, ?_, trivial⟩ ?_
      · intro tr act w' hm hout hsz hd hG hk hub
        exact jg_run (by rfl) rfl (wanted_none rfl) (ex_loadA rfl Try.underlying24 rfl (off := 0) (cs := [.int .i64 f, .int .i64 k]) (by kernel_rfl) ((hout 3 (by decide)).trans oe3) (Cs.whole (KF.out.mod hm (fun h => h)))) (Mod.refl _ _) rfl
      · intro tr act w' hm hout hsz hd hG hk hub
        exact jg_run (by rfl) rfl (wanted_none rfl) (ex_loadA rfl Try.underlying32 rfl (off := 0) (cs := c.cells) (by rw [Cm.len HC.out.2.1]; exact size_commit) ((hout 5 (by decide)).trans oe5) (Cs.whole (KX.out.mod hm (fun h => h)))) (Mod.refl _ _) rfl
      · intro tr act w' hm hout hsz hd hG hk hub
        have h0 := hd ⟨0, .data⟩ (by simp) rfl _ rfl
        have h1 := hd ⟨1, .data⟩ (by simp) rfl _ rfl
        refine jg_call (args := #[.agg #[.int .i64 f, .int .i64 k], c.val]) (by rfl) rfl (wanted_none rfl) (by rw [ex_callF rfl Try.func15 (by kernel_rfl) (by kernel_rfl)]; exact congrArg (fun z => Result.ok (Next.enter _ z) _) (by simp only [List.map_toArray, List.map_cons, List.map_nil, show act.eval (.tmp 7) = _ from h0, show act.eval (.tmp 8) = _ from h1]; try rfl)) (Valid_any f k c HC.out _) ?_
        rintro e w2 ⟨rfl, hm2⟩
        exact ⟨_, rfl, hm2, congrArg Value.bool EV.out⟩
      · intro tr act w' hm hout hsz hd hG hk hub
        have h2 := hd ⟨2, .data⟩ (by simp) rfl _ rfl
        exact jg_run (by rfl) rfl (wanted_none rfl) (ex_move rfl h2) (Mod.refl _ _) rfl
      · intro tr act w' hm hout hsz hd hG hk hub
        have h3 := hd ⟨3, .guard⟩ (by simp) rfl _ rfl
        refine jg_run (by rfl) rfl ((wanted_of rfl rfl (hsz 10 (by decide)) h3).trans rfl) (ex_field rfl Try.underlying32 rfl (by kernel_rfl) ((hout 5 (by decide)).trans oe5)) (Mod.refl _ _) ?_
        rfl
      · intro tr act w' hm hout hsz hd hG hk hub
        have h3 := hd ⟨3, .guard⟩ (by simp) rfl _ rfl
        have h4 := hd ⟨4, .data⟩ (by simp) rfl _ rfl
        refine jg_run (by rfl) rfl ((wanted_of rfl rfl (hsz 10 (by decide)) h3).trans rfl) (ex_field rfl Try.underlying30 rfl (by kernel_rfl) h4) (Mod.refl _ _) ?_
        rfl
      · intro tr act w' hm hout hsz hd hG hk hub
        have h3 := hd ⟨3, .guard⟩ (by simp) rfl _ rfl
        have h5 := hd ⟨5, .data⟩ (by simp) rfl _ rfl
        exact jg_run (by rfl) rfl ((wanted_of rfl rfl (hsz 10 (by decide)) h3).trans rfl) (ex_load1 rfl Try.underlying3 rfl h5 ((KX.out.mod hm (fun h => h)).c35 HC.out.2.1)) (Mod.refl _ _) rfl
      · intro tr act w' hm hout hsz hd hG hk hub
        have h3 := hd ⟨3, .guard⟩ (by simp) rfl _ rfl
        refine jg_run (by rfl) rfl ((wanted_of rfl rfl (hsz 10 (by decide)) h3).trans rfl) (ex_field rfl Try.underlying32 rfl (by kernel_rfl) ((hout 5 (by decide)).trans oe5)) (Mod.refl _ _) ?_
        rfl
      · intro tr act w' hm hout hsz hd hG hk hub
        have h3 := hd ⟨3, .guard⟩ (by simp) rfl _ rfl
        have h7 := hd ⟨7, .data⟩ (by simp) rfl _ rfl
        refine jg_run (by rfl) rfl ((wanted_of rfl rfl (hsz 10 (by decide)) h3).trans rfl) (ex_field rfl Try.underlying26 rfl (by kernel_rfl) h7) (Mod.refl _ _) ?_
        rfl
      · intro tr act w' hm hout hsz hd hG hk hub
        have h3 := hd ⟨3, .guard⟩ (by simp) rfl _ rfl
        have h8 := hd ⟨8, .data⟩ (by simp) rfl _ rfl
        exact jg_run (by rfl) rfl ((wanted_of rfl rfl (hsz 10 (by decide)) h3).trans rfl) (ex_load1 rfl Try.underlying3 rfl h8 (KX.out.mod hm (fun h => h)).c0) (Mod.refl _ _) rfl
      · intro tr act w' hm hout hsz hd hG hk hub
        have h3 := hd ⟨3, .guard⟩ (by simp) rfl _ rfl
        have h9 := hd ⟨9, .data⟩ (by simp) rfl _ rfl
        refine jg_call (args := #[.int .i64 c.cl]) (by rfl) rfl ((wanted_of rfl rfl (hsz 10 (by decide)) h3).trans rfl) (by rw [ex_callF rfl Try.func54 (by kernel_rfl) (by kernel_rfl)]; exact congrArg (fun z => Result.ok (Next.enter _ z) _) (by simp only [List.map_toArray, List.map_cons, List.map_nil, show act.eval (.tmp 16) = _ from h9]; try rfl)) (signer_any c.cl _ HSI.out) ?_
        rintro e w2 ⟨rfl, hm2⟩
        exact ⟨_, rfl, hm2, rfl⟩
      · intro tr act w' hm hout hsz hd hG hk hub
        have h3 := hd ⟨3, .guard⟩ (by simp) rfl _ rfl
        have h6 := hd ⟨6, .data⟩ (by simp) rfl _ rfl
        have h10 := hd ⟨10, .data⟩ (by simp) rfl _ rfl
        refine jg_run (by rfl) rfl ((wanted_of rfl rfl (hsz 10 (by decide)) h3).trans rfl) (ex_bin rfl h6 h10 (guard_ints _ _ _ _ _ _) (run_eql_i _ _ _ Try.underlying3)) (Mod.refl _ _) ?_
        exact congrArg Value.bool ES.out
      · intro tr act w' hm hout hsz hd hG hk hub
        have h3 := hd ⟨3, .data⟩ (by simp) rfl _ rfl
        have h11 := hd ⟨11, .data⟩ (by simp) rfl _ rfl
        exact jg_run (by rfl) rfl (wanted_none rfl) (ex_pick rfl h3 h11 rfl) (Mod.refl _ _) rfl
      · intro tr act w' hm hout hsz hd hG hk hub
        have h12 := hd ⟨12, .data⟩ (by simp) rfl _ rfl
        exact jg_run (by rfl) rfl (wanted_none rfl) (ex_move rfl h12) (Mod.refl _ _) rfl
      · intro tr act w' hm hout hsz hd hG hk hub
        have h13 := hd ⟨13, .guard⟩ (by simp) rfl _ rfl
        exact jg_skip (fun _ _ _ h => h) (by rfl) rfl ((wanted_of rfl rfl (hsz 20 (by decide)) h13).trans rfl) rfl
      · intro tr act w' hm hout hsz hd hG hk hub
        have h13 := hd ⟨13, .guard⟩ (by simp) rfl _ rfl
        exact jg_skip (fun _ _ _ h => h) (by rfl) rfl ((wanted_of rfl rfl (hsz 20 (by decide)) h13).trans rfl) rfl
      · intro tr act w' hm hout hsz hd hG hk hub
        have h13 := hd ⟨13, .guard⟩ (by simp) rfl _ rfl
        exact jg_skip (fun _ _ _ h => h) (by rfl) rfl ((wanted_of rfl rfl (hsz 20 (by decide)) h13).trans rfl) rfl
      · intro tr act w' hm hout hsz hd hG hk hub
        have h13 := hd ⟨13, .guard⟩ (by simp) rfl _ rfl
        exact jg_skip (fun _ _ _ h => h) (by rfl) rfl ((wanted_of rfl rfl (hsz 20 (by decide)) h13).trans rfl) rfl
      · intro tr act w' hm hout hsz hd hG hk hub
        have h13 := hd ⟨13, .guard⟩ (by simp) rfl _ rfl
        exact jg_skip (fun _ _ _ h => h) (by rfl) rfl ((wanted_of rfl rfl (hsz 20 (by decide)) h13).trans rfl) rfl
      · intro tr act w' hm hout hsz hd hG hk hub
        have h13 := hd ⟨13, .guard⟩ (by simp) rfl _ rfl
        exact jg_skip (fun _ _ _ h => h) (by rfl) rfl ((wanted_of rfl rfl (hsz 20 (by decide)) h13).trans rfl) rfl
      · intro tr act w' hm hout hsz hd hG hk hub
        have h13 := hd ⟨13, .data⟩ (by simp) rfl _ rfl
        have h19 := hd ⟨19, .data⟩ (by simp) rfl _ rfl
        exact jg_run (by rfl) rfl (wanted_none rfl) (ex_pick rfl h13 h19 rfl) (Mod.refl _ _) rfl
      · intro tr act w' hm hout hsz hd hG hk hub
        have h20 := hd ⟨20, .data⟩ (by simp) rfl _ rfl
        exact jg_run (by rfl) rfl (wanted_none rfl) (ex_assign rfl h20) (Mod.refl _ _) rfl
      intro vs tr w2 hl htl hm hG hV
      obtain ⟨v0, vs0, rfl, hl0⟩ := list_cons hl
      obtain ⟨v1, vs1, rfl, hl1⟩ := list_cons hl0
      obtain ⟨v2, vs2, rfl, hl2⟩ := list_cons hl1
      obtain ⟨v3, vs3, rfl, hl3⟩ := list_cons hl2
      obtain ⟨v4, vs4, rfl, hl4⟩ := list_cons hl3
      obtain ⟨v5, vs5, rfl, hl5⟩ := list_cons hl4
      obtain ⟨v6, vs6, rfl, hl6⟩ := list_cons hl5
      obtain ⟨v7, vs7, rfl, hl7⟩ := list_cons hl6
      obtain ⟨v8, vs8, rfl, hl8⟩ := list_cons hl7
      obtain ⟨v9, vs9, rfl, hl9⟩ := list_cons hl8
      obtain ⟨v10, vs10, rfl, hl10⟩ := list_cons hl9
      obtain ⟨v11, vs11, rfl, hl11⟩ := list_cons hl10
      obtain ⟨v12, vs12, rfl, hl12⟩ := list_cons hl11
      obtain ⟨v13, vs13, rfl, hl13⟩ := list_cons hl12
      obtain ⟨v14, vs14, rfl, hl14⟩ := list_cons hl13
      obtain ⟨v15, vs15, rfl, hl15⟩ := list_cons hl14
      obtain ⟨v16, vs16, rfl, hl16⟩ := list_cons hl15
      obtain ⟨v17, vs17, rfl, hl17⟩ := list_cons hl16
      obtain ⟨v18, vs18, rfl, hl18⟩ := list_cons hl17
      obtain ⟨v19, vs19, rfl, hl19⟩ := list_cons hl18
      obtain ⟨v20, vs20, rfl, hl20⟩ := list_cons hl19
      obtain ⟨v21, vs21, rfl, hl21⟩ := list_cons hl20
      obtain rfl := list_nil hl21
      clear hl hl0 hl1 hl2 hl3 hl4 hl5 hl6 hl7 hl8 hl9 hl10 hl11 hl12 hl13 hl14 hl15 hl16 hl17 hl18 hl19 hl20 hl21
      obtain rfl : v21 = .bool false := hV 21 _ rfl
      have ha0 := HA0.out
      subst ha0
      clear HA0 hV hsz0 oe1 oe3 oe5
      simp only [putAll, Act.put, List.setIfInBounds_toArray, List.set_cons_zero, List.set_cons_succ]
      have KM2 := Lib.hid (KM.out.trans hm (fun _ _ h => h))
      clear hm hG
      go_wp2
      go_ret
      exact ⟨congrArg (fun z => Ending.returned (Value.bool z)) (show false = rightC L k c by unfold rightC; simp only [EV.out, ES.out, Bool.true_and] <;> rfl), KM2.out⟩
    | true =>
      have ES := Lib.hid hsy
      clear hsy
      generalize ha0 : Act.mk _ _ = a0
      have oe1 : a0.eval (.tmp 1) = .pointer (some ⟨g, 0, none⟩) := by rw [← ha0]; rfl
      have oe3 : a0.eval (.tmp 3) = .pointer (some ⟨w.heap.size, 0, none⟩) := by rw [← ha0]; rfl
      have oe5 : a0.eval (.tmp 5) = .pointer (some ⟨w.heap.size + 1, 0, none⟩) := by rw [← ha0]; rfl
      have hsz0 : a0.tmps.size = 28 := by rw [← ha0]; rfl
      have HA0 := Lib.hid ha0
      clear ha0
      refine wp_region_G 28 hsz0 (by kernel_rfl) (by kernel_rfl) [7, 8, 9, 10, 11, 12, 13, 14, 15, 16, 17, 18, 19, 20, 21, 22, 23, 24, 25, 26, 27, 6] (by kernel_rfl) (by decide) (fun _ => False) (fun _ _ => False) (fun _ _ h => h) Still (fun _ _ _ h => h) (fun _ _ _ hm h => hm.trans h (fun _ _ h => h.elim)) [gi (.agg #[.int .i64 f, .int .i64 k]), gi (c.val), gi (.bool true), gi (.bool true), gi (.pointer (some ⟨w.heap.size + 1, 35, none⟩)), gi (.pointer (some ⟨w.heap.size + 1, 35, none⟩)), gi (.int .i64 c.sb), gi (.pointer (some ⟨w.heap.size + 1, 0, none⟩)), gi (.pointer (some ⟨w.heap.size + 1, 0, none⟩)), gi (.int .i64 c.cl), gi (.int .i64 (1000 + c.cl)), gi (.bool true), gi (.bool true), gi (.bool true), gi (.pointer (some ⟨g, 0, none⟩)), gi (.pointer (some ⟨w.heap.size + 1, 35, none⟩)), gi (.agg #[.int .i64 c.sb, .int .i64 c.mr]), gi (c.val), (fun t v w => RdB w v (txT c) ∧ (txT c).length ≤ 500), gi (.bool (rightF L (c.sb, txT c) c.mr)), gi (.bool (rightF L (c.sb, txT c) c.mr)), gi (.bool (rightF L (c.sb, txT c) c.mr))] ⟨gi_stable, gi_stable, gi_stable, gi_stable, gi_stable, gi_stable, gi_stable, gi_stable, gi_stable, gi_stable, gi_stable, gi_stable, gi_stable, gi_stable, gi_stable, gi_stable, gi_stable, gi_stable, ⟨fun _ _ _ _ h hr => ⟨h.1.mod hr (fun _ _ _ h => h), h.2⟩, fun _ _ _ _ _ h hr => ⟨h.1.mod hr (fun _ _ _ h => h), h.2⟩⟩, gi_stable, gi_stable, gi_stable, trivial⟩ [] (by kernel_rfl) (by decide) (by kernel_rfl) (fun _ _ => True) (fun _ _ _ _ _ => trivial) trivial ⟨?_, ?_, ?_, ?_, ?_, ?_, ?_, ?_, ?_, ?_, ?_, ?_, ?_, ?_, ?_, ?_, ?_, ?_, ?_, ?_, ?_, ?_, trivial⟩ ?_
      · intro tr act w' hm hout hsz hd hG hk hub
        exact jg_run (by rfl) rfl (wanted_none rfl) (ex_loadA rfl Try.underlying24 rfl (off := 0) (cs := [.int .i64 f, .int .i64 k]) (by kernel_rfl) ((hout 3 (by decide)).trans oe3) (Cs.whole (KF.out.mod hm (fun h => h)))) (Mod.refl _ _) rfl
      · intro tr act w' hm hout hsz hd hG hk hub
        exact jg_run (by rfl) rfl (wanted_none rfl) (ex_loadA rfl Try.underlying32 rfl (off := 0) (cs := c.cells) (by rw [Cm.len HC.out.2.1]; exact size_commit) ((hout 5 (by decide)).trans oe5) (Cs.whole (KX.out.mod hm (fun h => h)))) (Mod.refl _ _) rfl
      · intro tr act w' hm hout hsz hd hG hk hub
        have h0 := hd ⟨0, .data⟩ (by simp) rfl _ rfl
        have h1 := hd ⟨1, .data⟩ (by simp) rfl _ rfl
        refine jg_call (args := #[.agg #[.int .i64 f, .int .i64 k], c.val]) (by rfl) rfl (wanted_none rfl) (by rw [ex_callF rfl Try.func15 (by kernel_rfl) (by kernel_rfl)]; exact congrArg (fun z => Result.ok (Next.enter _ z) _) (by simp only [List.map_toArray, List.map_cons, List.map_nil, show act.eval (.tmp 7) = _ from h0, show act.eval (.tmp 8) = _ from h1]; try rfl)) (Valid_any f k c HC.out _) ?_
        rintro e w2 ⟨rfl, hm2⟩
        exact ⟨_, rfl, hm2, congrArg Value.bool EV.out⟩
      · intro tr act w' hm hout hsz hd hG hk hub
        have h2 := hd ⟨2, .data⟩ (by simp) rfl _ rfl
        exact jg_run (by rfl) rfl (wanted_none rfl) (ex_move rfl h2) (Mod.refl _ _) rfl
      · intro tr act w' hm hout hsz hd hG hk hub
        have h3 := hd ⟨3, .guard⟩ (by simp) rfl _ rfl
        refine jg_run (by rfl) rfl ((wanted_of rfl rfl (hsz 10 (by decide)) h3).trans rfl) (ex_field rfl Try.underlying32 rfl (by kernel_rfl) ((hout 5 (by decide)).trans oe5)) (Mod.refl _ _) ?_
        rfl
      · intro tr act w' hm hout hsz hd hG hk hub
        have h3 := hd ⟨3, .guard⟩ (by simp) rfl _ rfl
        have h4 := hd ⟨4, .data⟩ (by simp) rfl _ rfl
        refine jg_run (by rfl) rfl ((wanted_of rfl rfl (hsz 10 (by decide)) h3).trans rfl) (ex_field rfl Try.underlying30 rfl (by kernel_rfl) h4) (Mod.refl _ _) ?_
        rfl
      · intro tr act w' hm hout hsz hd hG hk hub
        have h3 := hd ⟨3, .guard⟩ (by simp) rfl _ rfl
        have h5 := hd ⟨5, .data⟩ (by simp) rfl _ rfl
        exact jg_run (by rfl) rfl ((wanted_of rfl rfl (hsz 10 (by decide)) h3).trans rfl) (ex_load1 rfl Try.underlying3 rfl h5 ((KX.out.mod hm (fun h => h)).c35 HC.out.2.1)) (Mod.refl _ _) rfl
      · intro tr act w' hm hout hsz hd hG hk hub
        have h3 := hd ⟨3, .guard⟩ (by simp) rfl _ rfl
        refine jg_run (by rfl) rfl ((wanted_of rfl rfl (hsz 10 (by decide)) h3).trans rfl) (ex_field rfl Try.underlying32 rfl (by kernel_rfl) ((hout 5 (by decide)).trans oe5)) (Mod.refl _ _) ?_
        rfl
      · intro tr act w' hm hout hsz hd hG hk hub
        have h3 := hd ⟨3, .guard⟩ (by simp) rfl _ rfl
        have h7 := hd ⟨7, .data⟩ (by simp) rfl _ rfl
        refine jg_run (by rfl) rfl ((wanted_of rfl rfl (hsz 10 (by decide)) h3).trans rfl) (ex_field rfl Try.underlying26 rfl (by kernel_rfl) h7) (Mod.refl _ _) ?_
        rfl
      · intro tr act w' hm hout hsz hd hG hk hub
        have h3 := hd ⟨3, .guard⟩ (by simp) rfl _ rfl
        have h8 := hd ⟨8, .data⟩ (by simp) rfl _ rfl
        exact jg_run (by rfl) rfl ((wanted_of rfl rfl (hsz 10 (by decide)) h3).trans rfl) (ex_load1 rfl Try.underlying3 rfl h8 (KX.out.mod hm (fun h => h)).c0) (Mod.refl _ _) rfl
      · intro tr act w' hm hout hsz hd hG hk hub
        have h3 := hd ⟨3, .guard⟩ (by simp) rfl _ rfl
        have h9 := hd ⟨9, .data⟩ (by simp) rfl _ rfl
        refine jg_call (args := #[.int .i64 c.cl]) (by rfl) rfl ((wanted_of rfl rfl (hsz 10 (by decide)) h3).trans rfl) (by rw [ex_callF rfl Try.func54 (by kernel_rfl) (by kernel_rfl)]; exact congrArg (fun z => Result.ok (Next.enter _ z) _) (by simp only [List.map_toArray, List.map_cons, List.map_nil, show act.eval (.tmp 16) = _ from h9]; try rfl)) (signer_any c.cl _ HSI.out) ?_
        rintro e w2 ⟨rfl, hm2⟩
        exact ⟨_, rfl, hm2, rfl⟩
      · intro tr act w' hm hout hsz hd hG hk hub
        have h3 := hd ⟨3, .guard⟩ (by simp) rfl _ rfl
        have h6 := hd ⟨6, .data⟩ (by simp) rfl _ rfl
        have h10 := hd ⟨10, .data⟩ (by simp) rfl _ rfl
        refine jg_run (by rfl) rfl ((wanted_of rfl rfl (hsz 10 (by decide)) h3).trans rfl) (ex_bin rfl h6 h10 (guard_ints _ _ _ _ _ _) (run_eql_i _ _ _ Try.underlying3)) (Mod.refl _ _) ?_
        exact congrArg Value.bool ES.out
      · intro tr act w' hm hout hsz hd hG hk hub
        have h3 := hd ⟨3, .data⟩ (by simp) rfl _ rfl
        have h11 := hd ⟨11, .data⟩ (by simp) rfl _ rfl
        exact jg_run (by rfl) rfl (wanted_none rfl) (ex_pick rfl h3 h11 rfl) (Mod.refl _ _) rfl
      · intro tr act w' hm hout hsz hd hG hk hub
        have h12 := hd ⟨12, .data⟩ (by simp) rfl _ rfl
        exact jg_run (by rfl) rfl (wanted_none rfl) (ex_move rfl h12) (Mod.refl _ _) rfl
      · intro tr act w' hm hout hsz hd hG hk hub
        have h13 := hd ⟨13, .guard⟩ (by simp) rfl _ rfl
        exact jg_run (by rfl) rfl ((wanted_of rfl rfl (hsz 20 (by decide)) h13).trans rfl) (ex_move rfl ((hout 1 (by decide)).trans oe1)) (Mod.refl _ _) rfl
      · intro tr act w' hm hout hsz hd hG hk hub
        have h13 := hd ⟨13, .guard⟩ (by simp) rfl _ rfl
        refine jg_run (by rfl) rfl ((wanted_of rfl rfl (hsz 20 (by decide)) h13).trans rfl) (ex_field rfl Try.underlying32 rfl (by kernel_rfl) ((hout 5 (by decide)).trans oe5)) (Mod.refl _ _) ?_
        rfl
      · intro tr act w' hm hout hsz hd hG hk hub
        have h13 := hd ⟨13, .guard⟩ (by simp) rfl _ rfl
        have h15 := hd ⟨15, .data⟩ (by simp) rfl _ rfl
        exact jg_run (by rfl) rfl ((wanted_of rfl rfl (hsz 20 (by decide)) h13).trans rfl) (ex_loadA rfl Try.underlying30 rfl (off := 35) (cs := [.int .i64 c.sb, .int .i64 c.mr]) (by kernel_rfl) h15 (Cs.sig (KX.out.mod hm (fun h => h)) HC.out.2.1)) (Mod.refl _ _) rfl
      · intro tr act w' hm hout hsz hd hG hk hub
        have h13 := hd ⟨13, .guard⟩ (by simp) rfl _ rfl
        exact jg_run (by rfl) rfl ((wanted_of rfl rfl (hsz 20 (by decide)) h13).trans rfl) (ex_loadA rfl Try.underlying32 rfl (off := 0) (cs := c.cells) (by rw [Cm.len HC.out.2.1]; exact size_commit) ((hout 5 (by decide)).trans oe5) (Cs.whole (KX.out.mod hm (fun h => h)))) (Mod.refl _ _) rfl
      · intro tr act w' hm hout hsz hd hG hk hub
        have h13 := hd ⟨13, .guard⟩ (by simp) rfl _ rfl
        have h17 := hd ⟨17, .data⟩ (by simp) rfl _ rfl
        refine jg_call (args := #[c.val]) (by rfl) rfl ((wanted_of rfl rfl (hsz 20 (by decide)) h13).trans rfl) (by rw [ex_callF rfl Try.func30 (by kernel_rfl) (by kernel_rfl)]; exact congrArg (fun z => Result.ok (Next.enter _ z) _) (by simp only [List.map_toArray, List.map_cons, List.map_nil, show act.eval (.tmp 24) = _ from h17]; try rfl)) (Text_any c _ HC.out) ?_
        rintro e w2 ⟨u, rfl, ho, hm2⟩
        exact ⟨_, rfl, hm2, ho.rd.1, ho.2.2⟩
      · intro tr act w' hm hout hsz hd hG hk hub
        have h13 := hd ⟨13, .guard⟩ (by simp) rfl _ rfl
        have h14 := hd ⟨14, .data⟩ (by simp) rfl _ rfl
        have h16 := hd ⟨16, .data⟩ (by simp) rfl _ rfl
        have h18 := hd ⟨18, .data⟩ (by simp) rfl _ rfl
        obtain ⟨u, hu0⟩ : ∃ u, u = act.eval (.tmp 25) := ⟨_, rfl⟩
        have hu : RdB w' u (txT c) ∧ (txT c).length ≤ 500 := by rw [hu0]; exact h18
        refine jg_call (args := #[.pointer (some ⟨g, 0, none⟩), .agg #[.int .i64 c.sb, .int .i64 c.mr], u]) (by rfl) rfl ((wanted_of rfl rfl (hsz 20 (by decide)) h13).trans rfl) (by rw [ex_callF rfl Try.func56 (by kernel_rfl) (by kernel_rfl)]; exact congrArg (fun z => Result.ok (Next.enter _ z) _) (by simp only [List.map_toArray, List.map_cons, List.map_nil, show act.eval (.tmp 21) = _ from h14, show act.eval (.tmp 23) = _ from h16, show act.eval (.tmp 25) = _ from hu0.symm]; try rfl)) (Book_right (HBK.out.mod (KM.out.trans hm (fun _ _ h => h)) (fun h => h) (fun h => h)) c.sb c.mr hu.1 ⟨HC.out.1.2.2.2.1, hu.1.1, Nat.le_trans hu.2 (by decide)⟩) ?_
        rintro e w2 ⟨rfl, hm2⟩
        exact ⟨_, rfl, hm2, rfl⟩
      · intro tr act w' hm hout hsz hd hG hk hub
        have h13 := hd ⟨13, .data⟩ (by simp) rfl _ rfl
        have h19 := hd ⟨19, .data⟩ (by simp) rfl _ rfl
        exact jg_run (by rfl) rfl (wanted_none rfl) (ex_pick rfl h13 h19 rfl) (Mod.refl _ _) rfl
      · intro tr act w' hm hout hsz hd hG hk hub
        have h20 := hd ⟨20, .data⟩ (by simp) rfl _ rfl
        exact jg_run (by rfl) rfl (wanted_none rfl) (ex_assign rfl h20) (Mod.refl _ _) rfl
      intro vs tr w2 hl htl hm hG hV
      obtain ⟨v0, vs0, rfl, hl0⟩ := list_cons hl
      obtain ⟨v1, vs1, rfl, hl1⟩ := list_cons hl0
      obtain ⟨v2, vs2, rfl, hl2⟩ := list_cons hl1
      obtain ⟨v3, vs3, rfl, hl3⟩ := list_cons hl2
      obtain ⟨v4, vs4, rfl, hl4⟩ := list_cons hl3
      obtain ⟨v5, vs5, rfl, hl5⟩ := list_cons hl4
      obtain ⟨v6, vs6, rfl, hl6⟩ := list_cons hl5
      obtain ⟨v7, vs7, rfl, hl7⟩ := list_cons hl6
      obtain ⟨v8, vs8, rfl, hl8⟩ := list_cons hl7
      obtain ⟨v9, vs9, rfl, hl9⟩ := list_cons hl8
      obtain ⟨v10, vs10, rfl, hl10⟩ := list_cons hl9
      obtain ⟨v11, vs11, rfl, hl11⟩ := list_cons hl10
      obtain ⟨v12, vs12, rfl, hl12⟩ := list_cons hl11
      obtain ⟨v13, vs13, rfl, hl13⟩ := list_cons hl12
      obtain ⟨v14, vs14, rfl, hl14⟩ := list_cons hl13
      obtain ⟨v15, vs15, rfl, hl15⟩ := list_cons hl14
      obtain ⟨v16, vs16, rfl, hl16⟩ := list_cons hl15
      obtain ⟨v17, vs17, rfl, hl17⟩ := list_cons hl16
      obtain ⟨v18, vs18, rfl, hl18⟩ := list_cons hl17
      obtain ⟨v19, vs19, rfl, hl19⟩ := list_cons hl18
      obtain ⟨v20, vs20, rfl, hl20⟩ := list_cons hl19
      obtain ⟨v21, vs21, rfl, hl21⟩ := list_cons hl20
      obtain rfl := list_nil hl21
      clear hl hl0 hl1 hl2 hl3 hl4 hl5 hl6 hl7 hl8 hl9 hl10 hl11 hl12 hl13 hl14 hl15 hl16 hl17 hl18 hl19 hl20 hl21
      obtain rfl : v21 = .bool (rightF L (c.sb, txT c) c.mr) := hV 21 _ rfl
      have ha0 := HA0.out
      subst ha0
      clear HA0 hV hsz0 oe1 oe3 oe5
      simp only [putAll, Act.put, List.setIfInBounds_toArray, List.set_cons_zero, List.set_cons_succ]
      have KM2 := Lib.hid (KM.out.trans hm (fun _ _ h => h))
      clear hm hG
      go_wp2
      go_ret
      exact ⟨congrArg (fun z => Ending.returned (Value.bool z)) (show rightF L (c.sb, txT c) c.mr = rightC L k c by unfold rightC; simp only [EV.out, ES.out, Bool.true_and] <;> rfl), KM2.out⟩
end Go.Proofs.Ytgnmdnmmemdemaa

/- gavellaw04.wakes. -/
set_option maxRecDepth 100000
set_option linter.unusedVariables false
namespace Go.Proofs.Ytgnmdnmmemdemaa
open Go Go.RowKit Go.Gv

theorem signF_pos (L : List (Int × List Int)) (k : Int × List Int) : mkN (signF L k) k ≠ 0 := by
  unfold signF
  by_cases h : mkN L k = 0
  · rw [if_pos h]
    have := marks_put 0 L k (mkN_none h)
    unfold mkN
    rw [← this, mlook_put, if_pos rfl]
    simp
  · rw [if_neg h]; exact h
theorem right_made (L : List (Int × List Int)) (a b : Int) (h bs : List Int) (k : Int) (hv : validF k (cm0 a b h bs) = true) : rightC (mkBook L a b h bs) k (mkCm L a b h bs) = true := by
  unfold rightC
  rw [show validF k (mkCm L a b h bs) = true from hv, show ((mkCm L a b h bs).sb == 1000 + (mkCm L a b h bs).cl) = true by simp [mkCm, cm0]]
  unfold rightF
  have e : ((mkCm L a b h bs).sb, txT (mkCm L a b h bs)) = mkKey a b h bs := rfl
  rw [e, decide_eq_true (show mkN (mkBook L a b h bs) (mkKey a b h bs) ≠ 0 from signF_pos _ _)]
  simp [mkCm]
theorem mkCm_ok (L : List (Int × List Int)) (a b : Int) (h bs : List Int) (ha : I64 a) (hs : I64 (1000 + a)) (hb : I64 b) (hl : bs.length ≤ 1000000) (hL : L.length ≤ 1000000) : (mkCm L a b h bs).OK := by
  refine ⟨⟨ha, hb, ?_, hs, ?_⟩, shaF_len _, shaF_bytes _⟩
  · simp only [mkCm, cm0, I64]; omega
  · have : mkN (mkBook L a b h bs) (mkKey a b h bs) ≤ 1000001 := by
      unfold mkN
      cases hq : mlook (marksFrom 0 (mkBook L a b h bs)) (mkKey a b h bs) with
      | none => simp
      | some m =>
        have := (marks_pos 0 _ _ m hq).2
        have h2 : (mkBook L a b h bs).length ≤ L.length + 1 := by unfold mkBook signF; split <;> simp
        simp; omega
    simp only [mkCm, I64]; omega
theorem lit_rd {B K : Nat} {t : List Value} {v : Value} {w : World} {C : List Int} (h : litG B 5 K (C.map bv).toArray t v w) (hk : t.length ≤ K) (hC : Bytes C) (hl : C.length ≤ 1000) : RdB w v C := by
  obtain ⟨g, rfl, -, m, -, hb⟩ := h hk
  refine ⟨hC, ?_⟩
  have e : (C.map bv).toArray.size = C.length := by simp
  rw [e]
  refine Rd.mk (by omega) (by rw [maxLen_val]; omega) (by simp) (fun j u hu => ?_)
  rw [show (0 : Nat) + j = j by omega]
  simp only [World.cell?, hb]
  simpa using hu
def WkSt (g b : Nat) (L : List (Int × List Int)) : Nat → List Value → World → Prop := fun k _ w => match k with
  | 0 => BookIs w g b []
  | _ => BookIs w g b L
theorem BookIs.marked {B g b : Nat} {L : List (Int × List Int)} {w w' : World} (h : BookIs w g b L) (hm : Marked B 5 w w') : BookIs w' g b L := ⟨Cs_marked' h.cell hm (by decide), h.map.marked hm⟩
theorem WkSt_still {g b B K : Nat} {L : List (Int × List Int)} : ∀ t w w', ByLen (WkSt g b L) t w → StillM B 5 K t.length w w' → ByLen (WkSt g b L) t w' := by
  intro t w w' h hr
  unfold ByLen at h ⊢
  have key : ∀ L', BookIs w g b L' → BookIs w' g b L' := fun L' h => by
    rcases hr with hr | ⟨-, hr⟩
    · exact h.mod hr (fun h => h) (fun h => h)
    · exact h.marked hr
  revert h
  cases t.length with
  | zero => exact key _
  | succ k => exact key _
theorem WkSt_mod {S : Nat → Prop} {g b : Nat} {L : List (Int × List Int)} {t : List Value} {w w' : World} (h : ByLen (WkSt g b L) t w) (hm : Mod S w w') (h1 : ¬ S g) (h2 : ¬ S b) : ByLen (WkSt g b L) t w' := by
  unfold ByLen at h ⊢
  have key : ∀ L', BookIs w g b L' → BookIs w' g b L' := fun L' h => h.mod hm h1 h2
  revert h
  cases t.length with
  | zero => exact key _
  | succ k => exact key _
set_option maxHeartbeats 2000000 in
theorem wakes04 (w : World) : Calls Try.prog 16 #[] w fun e w' => e = .returned (.bool true) ∧ Mod (fun _ => False) w w' := by
  go_enter Try.func16, Try.ntmps16
  go_wp2_with fail
  refine (Book_new _).mono ?_
  rintro e w1 ⟨g, b, rfl, y1, y2, hb0, hm1⟩
  have HB0 := Lib.hid (show ByLen (WkSt g b (mkBook [] 0 1 (List.replicate 32 (0 : Int)) [97])) [] w1 from hb0)
  have KM := Lib.hid hm1
  have zg := hb0.cell.lt
  have zb := hb0.map.lt
  clear hb0 hm1
  go_upto_region 4 with (fail)
  generalize ha0 : Act.mk _ _ = a0
  have oe1 : a0.eval (.tmp 1) = .pointer (some ⟨g, 0, none⟩) := by rw [← ha0]; rfl
  have hsz0 : a0.tmps.size = 16 := by rw [← ha0]; rfl
  have HA0 := Lib.hid ha0
  clear ha0
  refine wp_region_A 16 hsz0 (by kernel_rfl) (by kernel_rfl) [6, 7, 8, 9, 10, 11, 2, 23] (by kernel_rfl) (by decide) (fun j => j = b ∨ w1.heap.size ≤ j) (fun _ j => j = b) (fun _ _ h => Or.inl h) (StillM w1.heap.size 5 0) stillM_still (stillM_T2 (fun _ h => Or.inr h)) [gi (.pointer (some ⟨g, 0, none⟩)), gi (.agg ([.int .i64 0, .int .i64 1] : List Value).toArray), gi (hv (List.replicate 32 (0 : Int))), litG w1.heap.size 5 0 ([97].map bv).toArray, litG w1.heap.size 5 0 ([97].map bv).toArray, gi ((mkCm [] 0 1 (List.replicate 32 (0 : Int)) [97]).val), ga, ga] ⟨gi_stable, gi_stable, gi_stable, litG_stable (fun k hk j h => by omega), litG_stable (fun k hk j h => by omega), gi_stable, ga_stable, ga_stable, trivial⟩ [5] (by kernel_rfl) (by decide) (by kernel_rfl) (ByLen (WkSt g b (mkBook [] 0 1 (List.replicate 32 (0 : Int)) [97]))) WkSt_still HB0.out [⟨6, 7, 32, [.int .i64 0, .int .i64 0, .int .u8 0, .int .u8 0, .int .u8 0, .int .u8 0, .int .u8 0, .int .u8 0, .int .u8 0, .int .u8 0, .int .u8 0, .int .u8 0, .int .u8 0, .int .u8 0, .int .u8 0, .int .u8 0, .int .u8 0, .int .u8 0, .int .u8 0, .int .u8 0, .int .u8 0, .int .u8 0, .int .u8 0, .int .u8 0, .int .u8 0, .int .u8 0, .int .u8 0, .int .u8 0, .int .u8 0, .int .u8 0, .int .u8 0, .int .u8 0, .int .u8 0, .int .u8 0, .int .i64 0, .int .i64 0, .int .i64 0], Cm.cells (mkCm [] 0 1 (List.replicate 32 (0 : Int)) [97])⟩] (by kernel_rfl) (by intro r hr; simp only [List.mem_cons, List.not_mem_nil, or_false] at hr; rcases hr with rfl <;> exact ⟨rfl, rfl⟩) (fun k j h => by omega) (fun j h => Or.inr h) (stillMA (by intro r hr; simp only [List.mem_cons, List.not_mem_nil, or_false] at hr; rcases hr with rfl; decide)) (fun t w w' _ h hm => WkSt_mod h hm (by omega) (by omega)) (AllEnd.get _ ⟨gi_end, gi_end, gi_end, litG_end (by decide), litG_end (by decide), gi_end, ga_end, ga_end, trivial⟩) (by intro r hr; simp only [List.mem_cons, List.not_mem_nil, or_false] at hr; rcases hr with rfl <;> exact ⟨of_decide_eq_true (by kernel_rfl), of_decide_eq_true (by kernel_rfl)⟩) (by intro r hr; simp only [List.mem_cons, List.not_mem_nil, or_false] at hr; rcases hr with rfl <;> exact fun _ _ _ => ⟨trivial, trivial⟩) ⟨?_, ?_, ?_, ?_, ?_, ?_, ?_, ?_, trivial⟩ ?_
  · refine ⟨fun r hr e => ?_, fun r hr e => ?_, fun hno => ?_⟩
    · simp only [List.mem_cons, List.not_mem_nil, or_false] at hr
      rcases hr with rfl
      · simp at e
    · simp only [List.mem_cons, List.not_mem_nil, or_false] at hr
      rcases hr with rfl
      · simp at e
    · intro tr act w' hm hout hsz hd hG hk hub
      exact jg_run (by rfl) rfl (wanted_none rfl) (ex_move rfl ((hout 1 (by decide)).trans oe1)) (Or.inl (Mod.refl _ _)) rfl
  · refine ⟨fun r hr e => ?_, fun r hr e => ?_, fun hno => ?_⟩
    · simp only [List.mem_cons, List.not_mem_nil, or_false] at hr
      rcases hr with rfl
      · simp at e
    · simp only [List.mem_cons, List.not_mem_nil, or_false] at hr
      rcases hr with rfl
      · simp at e
    · intro tr act w' hm hout hsz hd hG hk hub
      exact jg_run (by rfl) rfl (wanted_none rfl) (ex_build rfl (z := [.int .i64 0, .int .i64 0]) (places := [(0, 1), (1, 1)]) (by kernel_rfl) (parts := [(1, .int .i64 1)]) (by simp only [List.map_toArray, List.map_cons, List.map_nil]; try rfl) (r := [.int .i64 0, .int .i64 1]) (by rfl)) (Or.inl (Mod.refl _ _)) rfl
  · refine ⟨fun r hr e => ?_, fun r hr e => ?_, fun hno => ?_⟩
    · simp only [List.mem_cons, List.not_mem_nil, or_false] at hr
      rcases hr with rfl
      · simp at e
    · simp only [List.mem_cons, List.not_mem_nil, or_false] at hr
      rcases hr with rfl
      · simp at e
    · intro tr act w' hm hout hsz hd hG hk hub
      exact jg_run (by rfl) rfl (wanted_none rfl) (ex_build0 rfl (r := ((List.replicate 32 (0 : Int)).map bv).toArray) (by kernel_rfl)) (Or.inl (Mod.refl _ _)) rfl
  · refine ⟨fun r hr e => ?_, fun r hr e => ?_, fun hno => ?_⟩
    · simp only [List.mem_cons, List.not_mem_nil, or_false] at hr
      rcases hr with rfl
      · simp at e
    · simp only [List.mem_cons, List.not_mem_nil, or_false] at hr
      rcases hr with rfl
      · simp at e
    · intro tr act w' hm hout hsz hd hG hk hub
      refine jg_run (by rfl) rfl (wanted_none rfl) (ex_lit rfl Try.underlying36 (by kernel_rfl) (by decide) (C := ([97].map bv).toArray) (by simp only [List.map_toArray, List.map_cons, List.map_nil, Act.eval]; kernel_rfl)) (Or.inl ((Mod.refl _ _).alloc _)) ?_
      exact fun _ => ⟨_, rfl, hm.size, _, Or.inl rfl, heap_alloc_new _ _⟩
  · refine ⟨fun r hr e => ?_, fun r hr e => ?_, fun hno => ?_⟩
    · simp only [List.mem_cons, List.not_mem_nil, or_false] at hr
      rcases hr with rfl
      · simp at e
    · simp only [List.mem_cons, List.not_mem_nil, or_false] at hr
      rcases hr with rfl
      · simp at e
    · intro tr act w' hm hout hsz hd hG hk hub
      have h3 := hd ⟨3, .data⟩ (by simp) rfl _ rfl
      have hle := hub 0 5 rfl (by kernel_rfl)
      obtain ⟨g, e1, hB, m, h0', hb⟩ := h3 hle
      exact jg_mark (by rfl) rfl (wanted_none rfl) rfl Try.underlying36 Try.underlying5 h0' hB hb e1 (fun _ hmk => Or.inr ⟨hle, hmk⟩) (fun _ hb2 _ => ⟨g, rfl, hB, _, Or.inr rfl, hb2⟩)
  · refine ⟨fun r hr e => ?_, fun r hr e => ?_, fun hno => ?_⟩
    · simp only [List.mem_cons, List.not_mem_nil, or_false] at hr
      rcases hr with rfl
      · simp at e
    · simp only [List.mem_cons, List.not_mem_nil, or_false] at hr
      rcases hr with rfl
      · simp at e
    · intro tr act w' hm hout hsz hd hG hk hub
      have h0 := hd ⟨0, .data⟩ (by simp) rfl _ rfl
      have h1 := hd ⟨1, .data⟩ (by simp) rfl _ rfl
      have h2 := hd ⟨2, .data⟩ (by simp) rfl _ rfl
      have h4 := hd ⟨4, .data⟩ (by simp) rfl _ rfl
      have hl := hk 0 rfl
      have hs := hG.at hl
      obtain ⟨u, hu0⟩ : ∃ u, u = act.eval (.tmp 10) := ⟨_, rfl⟩
      have hu : RdB w' u [97] := by rw [hu0]; exact lit_rd (C := [97]) (h4 : litG _ _ _ _ _ _ _) (by omega) (by unfold Bytes; decide) (by decide)
      refine jc_call (args := #[.pointer (some ⟨g, 0, none⟩), .agg #[.int .i64 0, .int .i64 1], hv (List.replicate 32 (0 : Int)), u]) (by rfl) rfl (wanted_none rfl) (by rw [ex_callF rfl Try.func19 (by kernel_rfl) (by kernel_rfl)]; exact congrArg (fun z => Result.ok (Next.enter _ z) _) (by simp only [List.map_toArray, List.map_cons, List.map_nil, show act.eval (.tmp 6) = _ from h0, show act.eval (.tmp 7) = _ from h1, show act.eval (.tmp 8) = _ from h2, show act.eval (.tmp 10) = _ from hu0.symm]; try rfl)) (Make_any hs (by decide) 0 1 (List.replicate 32 (0 : Int)) [97] u (by unfold I64; decide) (by unfold I64; decide) (by unfold I64; decide) ⟨by simp, by intro x hx; rw [List.eq_of_mem_replicate hx]; decide⟩ hu (by decide)) ?_
      rintro e w2 ⟨rfl, hb2, hm2⟩
      exact ⟨_, rfl, hm2, rfl, ByLen.on hl hb2⟩
  · refine ⟨fun r hr e => ?_, fun r hr e => ?_, fun hno => ?_⟩
    · simp only [List.mem_cons, List.not_mem_nil, or_false] at hr
      rcases hr with rfl
      · exact ⟨rfl, rfl, by kernel_rfl, (by rw [Cm.len (shaF_len _)]; rfl), (Cm.one _), (by rw [Cm.len (shaF_len _)]; exact size_commit)⟩
    · simp only [List.mem_cons, List.not_mem_nil, or_false] at hr
      rcases hr with rfl
      · simp at e
    · exact absurd rfl (hno ⟨6, 7, 32, [.int .i64 0, .int .i64 0, .int .u8 0, .int .u8 0, .int .u8 0, .int .u8 0, .int .u8 0, .int .u8 0, .int .u8 0, .int .u8 0, .int .u8 0, .int .u8 0, .int .u8 0, .int .u8 0, .int .u8 0, .int .u8 0, .int .u8 0, .int .u8 0, .int .u8 0, .int .u8 0, .int .u8 0, .int .u8 0, .int .u8 0, .int .u8 0, .int .u8 0, .int .u8 0, .int .u8 0, .int .u8 0, .int .u8 0, .int .u8 0, .int .u8 0, .int .u8 0, .int .u8 0, .int .u8 0, .int .i64 0, .int .i64 0, .int .i64 0], Cm.cells (mkCm [] 0 1 (List.replicate 32 (0 : Int)) [97])⟩ (by simp)).1
  · refine ⟨fun r hr e => ?_, fun r hr e => ?_, fun hno => ?_⟩
    · simp only [List.mem_cons, List.not_mem_nil, or_false] at hr
      rcases hr with rfl
      · simp at e
    · simp only [List.mem_cons, List.not_mem_nil, or_false] at hr
      rcases hr with rfl
      · refine ⟨rfl, _, (.tmp 11), rfl, by decide, rfl, by kernel_rfl, by kernel_rfl, fun tr act w' hm hout hd hG => ?_⟩
        have h5 := hd ⟨5, .data⟩ (by simp) rfl _ rfl
        rw [show act.eval ((.tmp 11)) = _ from h5]
        rfl
    · exact absurd rfl (hno ⟨6, 7, 32, [.int .i64 0, .int .i64 0, .int .u8 0, .int .u8 0, .int .u8 0, .int .u8 0, .int .u8 0, .int .u8 0, .int .u8 0, .int .u8 0, .int .u8 0, .int .u8 0, .int .u8 0, .int .u8 0, .int .u8 0, .int .u8 0, .int .u8 0, .int .u8 0, .int .u8 0, .int .u8 0, .int .u8 0, .int .u8 0, .int .u8 0, .int .u8 0, .int .u8 0, .int .u8 0, .int .u8 0, .int .u8 0, .int .u8 0, .int .u8 0, .int .u8 0, .int .u8 0, .int .u8 0, .int .u8 0, .int .i64 0, .int .i64 0, .int .i64 0], Cm.cells (mkCm [] 0 1 (List.replicate 32 (0 : Int)) [97])⟩ (by simp)).2
  intro vs tr w2 hl htl hm hG hV hAL hNE
  obtain ⟨v0, vs0, rfl, hl0⟩ := list_cons hl
  obtain ⟨v1, vs1, rfl, hl1⟩ := list_cons hl0
  obtain ⟨v2, vs2, rfl, hl2⟩ := list_cons hl1
  obtain ⟨v3, vs3, rfl, hl3⟩ := list_cons hl2
  obtain ⟨v4, vs4, rfl, hl4⟩ := list_cons hl3
  obtain ⟨v5, vs5, rfl, hl5⟩ := list_cons hl4
  obtain ⟨v6, vs6, rfl, hl6⟩ := list_cons hl5
  obtain ⟨v7, vs7, rfl, hl7⟩ := list_cons hl6
  obtain rfl := list_nil hl7
  obtain ⟨q0, fq0, hqB0, hqC0⟩ := hAL _ (by simp only [List.mem_cons, List.not_mem_nil, or_false]; trivial)
  obtain rfl : v6 = _ := Option.some.inj fq0
  clear hl hl0 hl1 hl2 hl3 hl4 hl5 hl6 hl7
  have ha0 := HA0.out
  subst ha0
  clear HA0 hV hsz0 oe1
  simp only [putAll, Act.put, List.setIfInBounds_toArray, List.set_cons_zero, List.set_cons_succ, List.set_nil]
  have HB2 := Lib.hid (show BookIs w2 g b (mkBook [] 0 1 (List.replicate 32 (0 : Int)) [97]) from hG.at htl)
  have KQ := Lib.hid (show Cs w2 q0 (Cm.cells (mkCm [] 0 1 (List.replicate 32 (0 : Int)) [97])).toArray 32 from hqC0)
  have KM2 := Lib.hid (KM.out.trans hm (fun k h1 h2 => by omega))
  have HOK := Lib.hid (mkCm_ok [] 0 1 (List.replicate 32 (0 : Int)) [97] (by unfold I64; decide) (by unfold I64; decide) (by unfold I64; decide) (by decide) (by decide))
  clear hG hm htl hAL hNE hqC0 fq0 KM HB0
  go_upto_region 5 with (fail)
  generalize ha0 : Act.mk _ _ = a0
  have oe1 : a0.eval (.tmp 1) = .pointer (some ⟨g, 0, none⟩) := by rw [← ha0]; rfl
  have oe2 : a0.eval (.tmp 2) = .pointer (some ⟨q0, 0, none⟩) := by rw [← ha0]; rfl
  have hsz0 : a0.tmps.size = 16 := by rw [← ha0]; rfl
  have HA0 := Lib.hid ha0
  clear ha0
  refine wp_region_G 16 hsz0 (by kernel_rfl) (by kernel_rfl) [12, 13, 14, 15, 0] (by kernel_rfl) (by decide) (fun _ => False) (fun _ _ => False) (fun _ _ h => h) Still (fun _ _ _ h => h) (fun _ _ _ hm h => hm.trans h (fun _ _ h => h.elim)) [gi (.agg ([.int .i64 1, .int .i64 1] : List Value).toArray), gi (.pointer (some ⟨g, 0, none⟩)), gi ((mkCm [] 0 1 (List.replicate 32 (0 : Int)) [97]).val), gi (.bool true), gi (.bool true)] ⟨gi_stable, gi_stable, gi_stable, gi_stable, gi_stable, trivial⟩ [] (by kernel_rfl) (by decide) (by kernel_rfl) (fun _ _ => True) (fun _ _ _ _ _ => trivial) trivial ⟨?_, ?_, ?_, ?_, ?_, trivial⟩ ?_
  · intro tr act w' hm hout hsz hd hG hk hub
    exact jg_run (by rfl) rfl (wanted_none rfl) (ex_build rfl (z := [.int .i64 0, .int .i64 0]) (places := [(0, 1), (1, 1)]) (by kernel_rfl) (parts := [(0, .int .i64 1), (1, .int .i64 1)]) (by simp only [List.map_toArray, List.map_cons, List.map_nil]; try rfl) (r := [.int .i64 1, .int .i64 1]) (by rfl)) (Mod.refl _ _) rfl
  · intro tr act w' hm hout hsz hd hG hk hub
    exact jg_run (by rfl) rfl (wanted_none rfl) (ex_move rfl ((hout 1 (by decide)).trans oe1)) (Mod.refl _ _) rfl
  · intro tr act w' hm hout hsz hd hG hk hub
    exact jg_run (by rfl) rfl (wanted_none rfl) (ex_loadA rfl Try.underlying32 rfl (off := 0) (cs := Cm.cells (mkCm [] 0 1 (List.replicate 32 (0 : Int)) [97])) (by rw [Cm.len (shaF_len _)]; exact size_commit) ((hout 2 (by decide)).trans oe2) (Cs.whole (KQ.out.mod hm (fun h => h)))) (Mod.refl _ _) rfl
  · intro tr act w' hm hout hsz hd hG hk hub
    have h0 := hd ⟨0, .data⟩ (by simp) rfl _ rfl
    have h1 := hd ⟨1, .data⟩ (by simp) rfl _ rfl
    have h2 := hd ⟨2, .data⟩ (by simp) rfl _ rfl
    refine jg_call (args := #[.agg #[.int .i64 1, .int .i64 1], .pointer (some ⟨g, 0, none⟩), (mkCm [] 0 1 (List.replicate 32 (0 : Int)) [97]).val]) (by rfl) rfl (wanted_none rfl) (by rw [ex_callF rfl Try.func21 (by kernel_rfl) (by kernel_rfl)]; exact congrArg (fun z => Result.ok (Next.enter _ z) _) (by simp only [List.map_toArray, List.map_cons, List.map_nil, show act.eval (.tmp 12) = _ from h0, show act.eval (.tmp 13) = _ from h1, show act.eval (.tmp 14) = _ from h2]; try rfl)) (Right_any (HB2.out.mod hm (fun h => h) (fun h => h)) 1 1 (mkCm [] 0 1 (List.replicate 32 (0 : Int)) [97]) HOK.out (by show I64 (1000 + 0); unfold I64; decide)) ?_
    rintro e w2 ⟨rfl, hm2⟩
    exact ⟨_, rfl, hm2, congrArg Value.bool (right_made [] 0 1 (List.replicate 32 (0 : Int)) [97] 1 (by rfl))⟩
  · intro tr act w' hm hout hsz hd hG hk hub
    have h3 := hd ⟨3, .data⟩ (by simp) rfl _ rfl
    exact jg_run (by rfl) rfl (wanted_none rfl) (ex_assign rfl h3) (Mod.refl _ _) rfl
  intro vs tr w3 hl htl hm hG hV
  obtain ⟨v0, vs0, rfl, hl0⟩ := list_cons hl
  obtain ⟨v1, vs1, rfl, hl1⟩ := list_cons hl0
  obtain ⟨v2, vs2, rfl, hl2⟩ := list_cons hl1
  obtain ⟨v3, vs3, rfl, hl3⟩ := list_cons hl2
  obtain ⟨v4, vs4, rfl, hl4⟩ := list_cons hl3
  obtain rfl := list_nil hl4
  clear hl hl0 hl1 hl2 hl3 hl4
  obtain rfl : v4 = .bool true := hV 4 _ rfl
  have ha0 := HA0.out
  subst ha0
  clear HA0 hV hsz0 oe1 oe2
  simp only [putAll, Act.put, List.setIfInBounds_toArray, List.set_cons_zero, List.set_cons_succ]
  have KM3 := Lib.hid (KM2.out.trans hm (fun _ _ h => h))
  clear hm hG
  go_wp2
  go_ret
  exact ⟨rfl, KM3.out⟩
end Go.Proofs.Ytgnmdnmmemdemaa

/- Equality of commitments, names and signatures. -/
set_option maxRecDepth 100000
namespace Go.Proofs.Ytgnmdnmmemdemaa
open Go Go.RowKit Go.Gv
theorem size_run {P : Program} {T : TypeId} {n : Nat} (h : (P.info? T).map (·.size) = some n) (w : World) : (sizeOf T).run P w = .ok n w := by
  cases hq : P.info? T with
  | none => rw [hq] at h; cases h
  | some i => rw [hq] at h; simp [sizeOf, typeInfo, hq]; exact Option.some.inj h
theorem part_agg {P : Program} {T : TypeId} {n : Nat} {d : TypeDesc} (hu : P.underlying T = some d) (hd : aggDesc d = true) (h : (P.info? T).map (·.size) = some n) (cs : Array Value) (off : Nat) (w : World) : (part T cs off).run P w = .ok (.agg (cs.extract off (off + n))) w := by
  have hagg : (isAgg T).run P w = .ok true w := by
    unfold isAgg
    rw [Sem.run_bind, run_underlying hu w]
    cases d <;> simp_all [aggDesc]
  simp [part, hagg, size_run h]
theorem part_one {P : Program} {T : TypeId} {d : TypeDesc} (hu : P.underlying T = some d) (hd : aggDesc d = false) {cs : Array Value} {off : Nat} {v : Value} (hv : cs[off]? = some v) (w : World) : (part T cs off).run P w = .ok v w := by
  have hagg : (isAgg T).run P w = .ok false w := by
    unfold isAgg
    rw [Sem.run_bind, run_underlying hu w]
    cases d <;> simp_all [aggDesc]
  simp [part, hagg, hv]
end Go.Proofs.Ytgnmdnmmemdemaa

/- A hash that comes in as an argument. -/
set_option maxRecDepth 100000
set_option linter.unusedVariables false
namespace Go.Proofs.Ytgnmdnmmemdemaa
open Go Go.RowKit Go.Gv Go.ChangeShapes Go.WideShapes Go.ChangeAt Go.Deep

theorem hash_of_trod {H : Type} {enc : TypeId × Value → H} {W : World} {base : Nat} {v : Value} {d : DataW H} {p : List MemPlace} (hv' : Value.okWide Try.prog W .any base 28 v)
    (h : DataW.Trod enc Try.prog W 0 (fun _ => true) true 28 v d p) : ∃ a : List Int, v = hv a ∧ a.length = 32 ∧ Bytes a := by
  obtain ⟨fuel, hf⟩ := h
  obtain ⟨hs, e, b, l⟩ := trod_arr Try.underlying28 Try.underlying5 (by kernel_rfl) (by kernel_rfl) hf
  simp only [Value.okWide, Try.underlying28] at hv'
  obtain ⟨cs, rfl, _, _⟩ := hv'
  refine ⟨hs, ?_, l, b⟩
  unfold hv
  congr 1
  apply Array.ext'
  simpa [Value.cells] using e
end Go.Proofs.Ytgnmdnmmemdemaa

/- Made again; names as arguments. -/
set_option maxRecDepth 100000
set_option linter.unusedVariables false
namespace Go.Proofs.Ytgnmdnmmemdemaa
open Go Go.RowKit Go.Gv Go.ChangeShapes Go.WideShapes Go.ChangeAt Go.Deep

theorem agg_guard (op : BinOp) (T : TypeId) (x y : Operand) (a b : Array Value) (h : Try.prog.eqGuardType Try.prog.depth T = false) (w : World) : (eqGuard op T x y (.agg a) (.agg b)).run Try.prog w = .ok () w := run_eqGuard_agg (P := Try.prog) w op T x y a b h
theorem name_of_trod {H : Type} {enc : TypeId × Value → H} {W : World} {base : Nat} {v : Value} {d : DataW H} {p : List MemPlace} (hv' : Value.okWide Try.prog W .any base 26 v)
    (h : DataW.Trod enc Try.prog W 0 (fun _ => true) true 26 v d p) : ∃ a b : Int, v = .agg #[.int .i64 a, .int .i64 b] ∧ I64 a ∧ I64 b := by
  obtain ⟨fuel, hf⟩ := h
  simp only [Value.okWide, Try.underlying26] at hv'
  obtain ⟨cs, rfl, -, -⟩ := hv'
  obtain ⟨xs, n, _, -, hl, hn, hf⟩ := DataW.trod_struct Try.underlying26 hf
  rw [show Try.prog.cellsOf 26 = 2 from by kernel_rfl] at hl
  have f0 : DataW.trod enc Try.prog W 0 (fun _ => true) true n 3 (((Value.agg cs).cells.toList.drop 0).take (Try.prog.cellsOf 3)) = xs[0]? := hf 0 _ rfl
  have f1 : DataW.trod enc Try.prog W 0 (fun _ => true) true n 3 (((Value.agg cs).cells.toList.drop 1).take (Try.prog.cellsOf 3)) = xs[1]? := hf 1 _ rfl
  have hxs : xs.length = 2 := hn
  rw [List.getElem?_eq_getElem (by omega), show Try.prog.cellsOf 3 = 1 from by kernel_rfl] at f0 f1
  obtain ⟨l⟩ := cs
  simp only [Value.cells] at hl f0 f1
  match l, hl with
  | [c0, c1], _ =>
    simp only [List.drop_zero, List.drop_succ_cons, List.take_succ_cons, List.take_zero] at f0 f1
    obtain ⟨q0, e0, _, w0⟩ := DataW.trod_int Try.underlying3 f0
    obtain ⟨q1, e1, _, w1⟩ := DataW.trod_int Try.underlying3 f1
    simp at e0 e1
    subst e0 e1
    exact ⟨q0, q1, rfl, bounds_i64 w0, bounds_i64 w1⟩
end Go.Proofs.Ytgnmdnmmemdemaa
