/- Certificates and promises that are cut. -/
import Derived.Test.YtknpapcfhnhheaaCut1
set_option maxRecDepth 100000
set_option linter.unusedVariables false
namespace Go.Proofs.Ytknpapcfhnhheaa
open Go Go.RowKit Go.Gv


/-- what the laws leave of a certificate, a promise -/
def cutCe (x : Ce) : Ce := { x with l := x.l.take 5 }
def cutPm (x : Pm) : Pm := { x with l := (x.l.take 3).map cutCe }
/-- a function that gives a thing anew, cut -/
def CutR {α : Type} (A : Rep α) (F : FuncId) (f : α → α) : Prop := ∀ (R2 : Nat → Prop) (x : α) (cs : List Value) (w : World), A.rd R2 w cs x → (∀ k, R2 k → k < w.heap.size) →
  Calls Try.prog F #[.agg cs.toArray] w fun e w' => ∃ cs', e = .returned (.agg cs'.toArray) ∧ A.rd (fun k => R2 k ∨ New w w' k) w' cs' (f x) ∧ Mod (fun _ => False) w w'
theorem size_ce : (Try.prog.info? 52).map (·.size) = some (37 + 1) := by kernel_rfl
theorem one_ce (c : Cm) (v : Value) (h : v.oneCell' = true) : ∀ u ∈ c.cells ++ [v], u.oneCell' = true := by
  intro u hu
  rw [List.mem_append] at hu
  rcases hu with hu | hu
  · exact Cm_one _ _ hu
  · simp at hu; subst hu; exact h
theorem take_two {α : Type} {l : List α} {k n : Nat} (hk : k ≤ n) (h : k = n ∨ l.length ≤ k) : l.take k = l.take n := by
  rcases h with rfl | h
  · rfl
  · rw [List.take_of_length_le h, List.take_of_length_le (by omega)]
theorem lay_l (c : Cm) (u v : Value) (hl : c.h.length = 32) : lay (c.cells ++ [u]).toArray 37 [v] = (c.cells ++ [v]).toArray := by
  have h37 := Cm.len hl
  simp [lay, h37]
set_option maxHeartbeats 4000000 in
theorem LCert_c : CutR CeR 21 cutCe := by
  intro R2 x cs w hx hB2
  obtain ⟨v_l, rfl, hok, hs0⟩ := hx
  obtain ⟨ao, cap, rfl⟩ := hs0.shape
  have HS := Lib.hid hs0
  have HBT := Lib.hid hB2
  have HOK := Lib.hid hok
  clear hs0 hB2 hok
  go_enter Try.func21, Try.ntmps21
  go_upto_region 1 with (fail)
  obtain ⟨w1, hw1⟩ : ∃ zz, zz = ((w.alloc (.cells (x.cells (.slice ao x.l.length cap) : List Value).toArray 52)).alloc (.cells #[.int .i64 0, .int .i64 0, .int .u8 0, .int .u8 0, .int .u8 0, .int .u8 0, .int .u8 0, .int .u8 0, .int .u8 0, .int .u8 0, .int .u8 0, .int .u8 0, .int .u8 0, .int .u8 0, .int .u8 0, .int .u8 0, .int .u8 0, .int .u8 0, .int .u8 0, .int .u8 0, .int .u8 0, .int .u8 0, .int .u8 0, .int .u8 0, .int .u8 0, .int .u8 0, .int .u8 0, .int .u8 0, .int .u8 0, .int .u8 0, .int .u8 0, .int .u8 0, .int .u8 0, .int .u8 0, .int .i64 0, .int .i64 0, .int .i64 0, .slice none 0 0] 52)) := ⟨_, rfl⟩
  change Code.wp _ _ _ _ ((w.alloc (.cells (x.cells (.slice ao x.l.length cap) : List Value).toArray 52)).alloc (.cells #[.int .i64 0, .int .i64 0, .int .u8 0, .int .u8 0, .int .u8 0, .int .u8 0, .int .u8 0, .int .u8 0, .int .u8 0, .int .u8 0, .int .u8 0, .int .u8 0, .int .u8 0, .int .u8 0, .int .u8 0, .int .u8 0, .int .u8 0, .int .u8 0, .int .u8 0, .int .u8 0, .int .u8 0, .int .u8 0, .int .u8 0, .int .u8 0, .int .u8 0, .int .u8 0, .int .u8 0, .int .u8 0, .int .u8 0, .int .u8 0, .int .u8 0, .int .u8 0, .int .u8 0, .int .u8 0, .int .i64 0, .int .i64 0, .int .i64 0, .slice none 0 0] 52))
  rw [← hw1]
  have HB1 := Lib.hid (show Cs w1 (w.heap.size) (x.cells (.slice ao x.l.length cap) : List Value).toArray 52 by rw [hw1]; exact (Cs.new _ _ _).alloc _)
  have HB2 := Lib.hid (show Cs w1 (w.heap.size + 1) #[.int .i64 0, .int .i64 0, .int .u8 0, .int .u8 0, .int .u8 0, .int .u8 0, .int .u8 0, .int .u8 0, .int .u8 0, .int .u8 0, .int .u8 0, .int .u8 0, .int .u8 0, .int .u8 0, .int .u8 0, .int .u8 0, .int .u8 0, .int .u8 0, .int .u8 0, .int .u8 0, .int .u8 0, .int .u8 0, .int .u8 0, .int .u8 0, .int .u8 0, .int .u8 0, .int .u8 0, .int .u8 0, .int .u8 0, .int .u8 0, .int .u8 0, .int .u8 0, .int .u8 0, .int .u8 0, .int .i64 0, .int .i64 0, .int .i64 0, .slice none 0 0] 52 by rw [hw1]; exact Cs_newN _ _ _ (by simp))
  have hm : Mod (fun _ => False) w w1 := by rw [hw1]; exact ((Mod.refl _ _).alloc _).alloc _
  have HM0 := Lib.hid (show Mod (fun _ => False) w w1 from hm.mono (fun _ _ h => h.elim))
  have hs1 : w1.heap.size = w.heap.size + 2 := by rw [hw1]; simp
  have Hx1 := Lib.hid (HS.out.mod hm (fun _ _ h => h))
  clear HS
  clear hw1 hm
  go_upto_region 1 with (fail)
  generalize ha0 : Act.mk _ _ = a0
  have oe1 : a0.eval (.tmp 1) = .pointer (some ⟨w.heap.size, 0, none⟩) := by rw [← ha0]; rfl
  have hsz0 : a0.tmps.size = 8 := by rw [← ha0]; rfl
  have HA0 := Lib.hid ha0
  clear ha0
  refine wp_region_Q 8 hsz0 (by kernel_rfl) (by kernel_rfl) [3, 4, 5, 6, 12] (by kernel_rfl) (by decide) (fun k => (k = w.heap.size)) (fun k j => (k = 1 ∧ ((j = w.heap.size)))) (by intro k j h; (try dsimp only at h ⊢); omega) [qi (.pointer (some ⟨w.heap.size, 37, none⟩)), qi (.slice ao x.l.length cap), qv 0, qi (.pointer (some ⟨w.heap.size, 37, none⟩)), qv 1] ⟨qi_stable, qi_stable, qv_stable, qi_stable, qv_stable, trivial⟩ [2, 4] (by kernel_rfl) (by decide) (by kernel_rfl) [] (by kernel_rfl) (by intro r hr; cases hr) (by intro r hr; cases hr) (by intro r hr; cases hr) ⟨?_, ?_, ?_, ?_, ?_, trivial⟩ ?_
  · refine stepq_env rfl rfl rfl fun Z tr act w' hZ hm hm0 hout hsz hd hub hpre => ?_
    refine qe_run rfl (wanted_none rfl) (ex_field rfl Try.underlying52 rfl (by kernel_rfl) ((hout 1 (by decide)).trans oe1)) QE.refl ?_
    rfl
  · refine stepq_env rfl rfl rfl fun Z tr act w' hZ hm hm0 hout hsz hd hub hpre => ?_
    have h0 := hd ⟨0, .data⟩ (by simp) rfl _ rfl
    refine qe_run rfl (wanted_none rfl) (ex_load1 rfl Try.underlying50 rfl h0 (Cs.post1 (pre := []) (mid := x.c.cells) (post := [.slice ao x.l.length cap]) (m := 37) (k := 0) (HB1.out.mod hm0 (by intro h2; have hu := hub 1 4 rfl (by kernel_rfl); (try dsimp only at h2); rcases h2 with ⟨h0, kk, hk, h2⟩ | h2 <;> omega)) (Cm.len HOK.out.2.1) rfl rfl)) QE.refl ?_
    rfl
  · exact stepq_chain rfl
  · refine stepq_env rfl rfl rfl fun Z tr act w' hZ hm hm0 hout hsz hd hub hpre => ?_
    refine qe_run rfl (wanted_none rfl) (ex_field rfl Try.underlying52 rfl (by kernel_rfl) ((hout 1 (by decide)).trans oe1)) QE.refl ?_
    rfl
  · exact stepq_chain rfl
  intro u1_0 hr
  have zu1_0 := hr.size
  have Hx2 := Lib.hid (Hx1.out.mod hr (by intro k h1 h2; (try dsimp only at h1 h2); (try simp only [false_or] at h1 h2); (first | omega | (have hb := HBT.out k h1; omega) | (have hb := HBT.out k h2; omega))))
  have Hx3 := Lib.hid (HB1.out.mod hr (by intro h2; (try dsimp only at h2); (try simp only [false_or] at h2); omega))
  have Hx4 := Lib.hid (HB2.out.mod hr (by intro h2; (try dsimp only at h2); (try simp only [false_or] at h2); omega))
  have Hx5 := Lib.hid (HM0.out.trans hr (by intro k h1 h2; (try dsimp only at h2 ⊢); (try simp only [false_or] at h2 ⊢); omega))
  clear Hx1 HB1 HB2 HM0
  clear hr
  refine QChain.cons rfl fun Z act hYZ hZ hout hsz hd hpre => ?_
  have h1 := hd ⟨1, .data⟩ (by simp) rfl _ rfl
  have ea4 : act.eval (.tmp 4) = .slice ao x.l.length cap := h1
  refine qc_call (args := #[.slice ao x.l.length cap, .int .i64 5]) rfl (wanted_none rfl) (by rw [ex_callF rfl Try.func72 (by kernel_rfl) (by kernel_rfl)]; exact congrArg (fun z => Result.ok (Next.enter _ z) _) (by simp only [List.map_toArray, List.map_cons, List.map_nil, ea4]; try rfl)) (Cut_St _ _ x.l 5 _ Hx2.out (by intro k h1; (try dsimp only at h1); (first | omega | (have hb := HBT.out k h1; omega))) (by omega)) ?_
  rintro e u1_1a ⟨v', rfl, qout, hm⟩
  obtain ⟨ao', cap', rfl⟩ := qout.shape
  have zu1_1a := hm.size
  refine ⟨_, rfl, hm.mono (fun _ _ h => h.elim), (fun _ => rfl), ?_⟩
  intro u1_1 hr
  have zu1_1 := hr.size
  have Hx6 := Lib.hid ((qout.widen (R' := (fun k => (u1_0.heap.size ≤ k ∧ k < u1_1a.heap.size))) (E' := (fun k => (R2 k))) (by intro k h1; (try unfold New at h1); (try dsimp only at h1 ⊢); (try simp only [false_or] at h1 ⊢); omega) (fun _ h => h)).mod hr (by intro k h1 h2; (try dsimp only at h1 h2); (try simp only [false_or] at h1 h2); omega) (by intro k h1 h2; (try dsimp only at h1 h2); (try simp only [false_or] at h1 h2); (first | omega | (have hb := HBT.out k h1; omega) | (have hb := HBT.out k h2; omega))))
  have hmr := Mod.after hm hr
  have Hx7 := Lib.hid (Hx2.out.mod hmr (by intro k h1 h2; (try dsimp only at h1 h2); (try simp only [false_or] at h1 h2); (first | omega | (have hb := HBT.out k h1; omega) | (have hb := HBT.out k h2; omega))))
  have Hx8 := Lib.hid (Hx3.out.mod hmr (by intro h2; (try dsimp only at h2); (try simp only [false_or] at h2); omega))
  have Hx9 := Lib.hid (Hx4.out.mod hmr (by intro h2; (try dsimp only at h2); (try simp only [false_or] at h2); omega))
  have Hx10 := Lib.hid (Hx5.out.trans hmr (by intro k h1 h2; (try dsimp only at h2 ⊢); (try simp only [false_or] at h2 ⊢); omega))
  clear Hx2 Hx3 Hx4 Hx5
  clear hmr
  clear hm hr hYZ hZ hout hsz hd hpre qout ea4 h1
  refine QChain.cons rfl fun Z act hYZ hZ hout hsz hd hpre => ?_
  have h2 := hd ⟨2, .data⟩ (by simp) rfl _ rfl
  have h3 := hd ⟨3, .data⟩ (by simp) rfl _ rfl
  refine qc_store rfl (wanted_none rfl) rfl Hx8.out (off := 37) (vs := [Value.slice ao' (x.l.take 5).length cap']) (by kernel_rfl) (by intro u hu; simp at hu; subst hu; rfl) (by simp [Ce.cells, Cm.len HOK.out.2.1]) h3 (by rw [show act.eval ((.tmp 5)) = _ from (Option.some.inj (show some (.slice ao' (x.l.take 5).length cap' : Value) = some (act.eval (.tmp 5)) from h2)).symm]; rfl) ?_
  intro u1_2a qc0 hm
  have qB1 : Cs u1_2a (w.heap.size) ((x.c.cells ++ [Value.slice ao' (x.l.take 5).length cap']) : List Value).toArray 52 := by rw [show lay _ 37 _ = ((x.c.cells ++ [Value.slice ao' (x.l.take 5).length cap']) : List Value).toArray from lay_l x.c _ _ HOK.out.2.1] at qc0; exact qc0
  clear qc0
  have zu1_2a := hm.size
  refine ⟨hm.mono (by intro k hk h; (try dsimp only at h ⊢); (try simp only [false_or, or_false, true_and] at h ⊢); omega), (fun _ => rfl), ?_⟩
  intro u1_2 hr
  have zu1_2 := hr.size
  have Hx11 := Lib.hid (qB1.mod hr (by intro h2; (try dsimp only at h2); (try simp only [false_or] at h2); omega))
  have hmr := hm.two hr
  have Hx12 := Lib.hid (Hx7.out.mod hmr (by intro k h1 h2; (try dsimp only at h1 h2); (try simp only [false_or] at h1 h2); rcases h2 with h2 | h2 <;> (first | omega | (have hb := HBT.out k h1; omega) | (have hb := HBT.out k h2; omega))))
  have Hx13 := Lib.hid (Hx9.out.mod hmr (by intro h2; (try dsimp only at h2); (try simp only [false_or] at h2); omega))
  have Hx14 := Lib.hid (Hx10.out.trans hmr (by intro k h1 h2; (try dsimp only at h2 ⊢); (try simp only [false_or] at h2 ⊢); omega))
  have Hx15 := Lib.hid (Hx6.out.mod hmr (by intro k h1 h2; (try dsimp only at h1 h2); (try simp only [false_or] at h1 h2); omega) (by intro k h1 h2; (try dsimp only at h1 h2); (try simp only [false_or] at h1 h2); rcases h2 with h2 | h2 <;> (first | omega | (have hb := HBT.out k h1; omega) | (have hb := HBT.out k h2; omega))))
  clear Hx7 Hx9 Hx10 Hx6
  clear hmr
  clear hm hr hYZ hZ hout hsz hd hpre qB1 Hx8 h2 h3
  refine QChain.nil fun vs hl hzz hrows hne => ?_
  obtain ⟨Z, hYZ, hZb, hV⟩ := hzz
  obtain ⟨v0, vs0, rfl, hl0⟩ := list_cons hl
  obtain ⟨v1, vs1, rfl, hl1⟩ := list_cons hl0
  obtain ⟨v2, vs2, rfl, hl2⟩ := list_cons hl1
  obtain ⟨v3, vs3, rfl, hl3⟩ := list_cons hl2
  obtain ⟨v4, vs4, rfl, hl4⟩ := list_cons hl3
  obtain rfl := list_nil hl4
  clear hl hl0 hl1 hl2 hl3 hl4
  have e2 := Option.some.inj (show some (.slice ao' (x.l.take 5).length cap') = some v2 from hV 2 _ rfl)
  subst e2
  have ha0 := HA0.out
  subst ha0
  clear HA0 hV hYZ hZb hsz0 hrows hne oe1
  simp only [putAll, Act.put, List.setIfInBounds_toArray, List.set_cons_zero, List.set_cons_succ, List.set_nil]
  go_upto_region 2 with (fail)
  generalize ha0 : Act.mk _ _ = a0
  have oe1 : a0.eval (.tmp 1) = .pointer (some ⟨w.heap.size, 0, none⟩) := by rw [← ha0]; rfl
  have oe2 : a0.eval (.tmp 2) = .pointer (some ⟨w.heap.size + 1, 0, none⟩) := by rw [← ha0]; rfl
  have hsz0 : a0.tmps.size = 8 := by rw [← ha0]; rfl
  have HA0 := Lib.hid ha0
  clear ha0
  refine wp_region_Q 8 hsz0 (by kernel_rfl) (by kernel_rfl) [7, 9] (by kernel_rfl) (by decide) (fun k => (k = w.heap.size + 1)) (fun k j => (k = 0 ∧ ((j = w.heap.size + 1)))) (by intro k j h; (try dsimp only at h ⊢); omega) [qi (.agg (x.c.cells ++ [Value.slice ao' (x.l.take 5).length cap']).toArray), qv 0] ⟨qi_stable, qv_stable, trivial⟩ [1] (by kernel_rfl) (by decide) (by kernel_rfl) [] (by kernel_rfl) (by intro r hr; cases hr) (by intro r hr; cases hr) (by intro r hr; cases hr) ⟨?_, ?_, trivial⟩ ?_
  · refine stepq_env rfl rfl rfl fun Z tr act w' hZ hm hm0 hout hsz hd hub hpre => ?_
    refine qe_run rfl (wanted_none rfl) (ex_loadA rfl Try.underlying52 rfl (off := 0) (cs := x.c.cells ++ [Value.slice ao' (x.l.take 5).length cap']) (by rw [List.length_append, Cm.len HOK.out.2.1]; exact size_ce) ((hout 1 (by decide)).trans oe1) (Cs.whole (Hx11.out.mod hm (by intro h2; (try dsimp only at h2); (try simp only [false_or] at h2); omega)))) QE.refl ?_
    rfl
  · exact stepq_chain rfl
  intro u2_0 hr
  have zu2_0 := hr.size
  have Hx16 := Lib.hid (Hx12.out.mod hr (by intro k h1 h2; (try dsimp only at h1 h2); (try simp only [false_or] at h1 h2); (first | omega | (have hb := HBT.out k h1; omega) | (have hb := HBT.out k h2; omega))))
  have Hx17 := Lib.hid (Hx11.out.mod hr (by intro h2; (try dsimp only at h2); (try simp only [false_or] at h2); omega))
  have Hx18 := Lib.hid (Hx13.out.mod hr (by intro h2; (try dsimp only at h2); (try simp only [false_or] at h2); omega))
  have Hx19 := Lib.hid (Hx14.out.trans hr (by intro k h1 h2; (try dsimp only at h2 ⊢); (try simp only [false_or] at h2 ⊢); omega))
  have Hx20 := Lib.hid (Hx15.out.mod hr (by intro k h1 h2; (try dsimp only at h1 h2); (try simp only [false_or] at h1 h2); omega) (by intro k h1 h2; (try dsimp only at h1 h2); (try simp only [false_or] at h1 h2); (first | omega | (have hb := HBT.out k h1; omega) | (have hb := HBT.out k h2; omega))))
  clear Hx12 Hx11 Hx13 Hx14 Hx15
  clear hr
  refine QChain.cons rfl fun Z act hYZ hZ hout hsz hd hpre => ?_
  have h0 := hd ⟨0, .data⟩ (by simp) rfl _ rfl
  refine qc_store rfl (wanted_none rfl) rfl Hx18.out (off := 0) (vs := (x.c.cells ++ [Value.slice ao' (x.l.take 5).length cap'])) (by rw [List.length_append, Cm.len HOK.out.2.1]; exact size_ce) (one_ce _ _ rfl) (by simp [Cm.len HOK.out.2.1]) ((hout 2 (by decide)).trans oe2) (by rw [show act.eval ((.tmp 7)) = _ from h0]; rfl) ?_
  intro u2_1a qc0 hm
  have qB2 : Cs u2_1a (w.heap.size + 1) ((x.c.cells ++ [Value.slice ao' (x.l.take 5).length cap']) : List Value).toArray 52 := by rw [show lay _ 0 _ = ((x.c.cells ++ [Value.slice ao' (x.l.take 5).length cap']) : List Value).toArray from lay_whole _ _ (by simp [Cm.len HOK.out.2.1])] at qc0; exact qc0
  clear qc0
  have zu2_1a := hm.size
  refine ⟨hm.mono (by intro k hk h; (try dsimp only at h ⊢); (try simp only [false_or, or_false, true_and] at h ⊢); omega), (fun _ => rfl), ?_⟩
  intro u2_1 hr
  have zu2_1 := hr.size
  have Hx21 := Lib.hid (qB2.mod hr (by intro h2; (try dsimp only at h2); (try simp only [false_or] at h2); omega))
  have hmr := hm.two hr
  have Hx22 := Lib.hid (Hx16.out.mod hmr (by intro k h1 h2; (try dsimp only at h1 h2); (try simp only [false_or] at h1 h2); rcases h2 with h2 | h2 <;> (first | omega | (have hb := HBT.out k h1; omega) | (have hb := HBT.out k h2; omega))))
  have Hx23 := Lib.hid (Hx17.out.mod hmr (by intro h2; (try dsimp only at h2); (try simp only [false_or] at h2); omega))
  have Hx24 := Lib.hid (Hx19.out.trans hmr (by intro k h1 h2; (try dsimp only at h2 ⊢); (try simp only [false_or] at h2 ⊢); omega))
  have Hx25 := Lib.hid (Hx20.out.mod hmr (by intro k h1 h2; (try dsimp only at h1 h2); (try simp only [false_or] at h1 h2); omega) (by intro k h1 h2; (try dsimp only at h1 h2); (try simp only [false_or] at h1 h2); rcases h2 with h2 | h2 <;> (first | omega | (have hb := HBT.out k h1; omega) | (have hb := HBT.out k h2; omega))))
  clear Hx16 Hx17 Hx19 Hx20
  clear hmr
  clear hm hr hYZ hZ hout hsz hd hpre qB2 Hx18 h0
  refine QChain.nil fun vs hl hzz hrows hne => ?_
  obtain ⟨Z, hYZ, hZb, hV⟩ := hzz
  obtain ⟨v0, vs0, rfl, hl0⟩ := list_cons hl
  obtain ⟨v1, vs1, rfl, hl1⟩ := list_cons hl0
  obtain rfl := list_nil hl1
  clear hl hl0 hl1
  have ha0 := HA0.out
  subst ha0
  clear HA0 hV hYZ hZb hsz0 hrows hne oe1 oe2
  simp only [putAll, Act.put, List.setIfInBounds_toArray, List.set_cons_zero, List.set_cons_succ, List.set_nil]
  go_wp2
  have hq := Hx25.out
  refine bodyPost_ret (results_cellA rfl _ _ (w.heap.size + 1) (x.c.cells ++ [Value.slice ao' (x.l.take 5).length cap']) rfl (fun k u hu => by rw [Hx21.out.cell]; simpa using hu) Try.underlying52 rfl (by rw [List.length_append, Cm.len HOK.out.2.1]; exact size_ce)) rfl ⟨_, rfl, ⟨_, rfl, HOK.out, hq.rd.widen ?_⟩, Hx24.out⟩
  intro k h
  (try dsimp only at h ⊢)
  rcases h with h | h
  · right; unfold New; omega
  · exact Or.inl h
set_option maxHeartbeats 4000000 in
theorem LPromise_c : CutR PmR 23 cutPm := by
  intro R2 x cs w hx hB2
  obtain ⟨v_l, rfl, hok, hs0⟩ := hx
  obtain ⟨ao, cap, rfl⟩ := hs0.shape
  have HS := Lib.hid hs0
  have HBT := Lib.hid hB2
  have HOK := Lib.hid hok
  clear hs0 hB2 hok
  go_enter Try.func23, Try.ntmps23
  go_upto_region 1 with (fail)
  obtain ⟨w1, hw1⟩ : ∃ zz, zz = ((w.alloc (.cells (x.cells (.slice ao x.l.length cap) : List Value).toArray 55)).alloc (.cells #[.int .i64 0, .int .i64 0, .int .u64 0, .slice none 0 0, .int .i64 0, .int .i64 0] 55)) := ⟨_, rfl⟩
  change Code.wp _ _ _ _ ((w.alloc (.cells (x.cells (.slice ao x.l.length cap) : List Value).toArray 55)).alloc (.cells #[.int .i64 0, .int .i64 0, .int .u64 0, .slice none 0 0, .int .i64 0, .int .i64 0] 55))
  rw [← hw1]
  have HB1 := Lib.hid (show Cs w1 (w.heap.size) (x.cells (.slice ao x.l.length cap) : List Value).toArray 55 by rw [hw1]; exact (Cs.new _ _ _).alloc _)
  have HB2 := Lib.hid (show Cs w1 (w.heap.size + 1) #[.int .i64 0, .int .i64 0, .int .u64 0, .slice none 0 0, .int .i64 0, .int .i64 0] 55 by rw [hw1]; exact Cs_newN _ _ _ (by simp))
  have hm : Mod (fun _ => False) w w1 := by rw [hw1]; exact ((Mod.refl _ _).alloc _).alloc _
  have HM0 := Lib.hid (show Mod (fun _ => False) w w1 from hm.mono (fun _ _ h => h.elim))
  have hs1 : w1.heap.size = w.heap.size + 2 := by rw [hw1]; simp
  have Hx1 := Lib.hid (HS.out.mod hm (fun _ _ h => h))
  clear HS
  clear hw1 hm
  go_wp2
  go_loopw [3, 4] (fun ta ti wr => ∃ k : Nat, ti = .int .i64 (k : Int) ∧ k ≤ x.l.length ∧ k ≤ 3 ∧ w1.heap.size ≤ wr.heap.size ∧ OwS CeR 52 (fun b => w1.heap.size ≤ b ∧ b < wr.heap.size) (fun b => R2 b ∨ (w1.heap.size ≤ b ∧ b < wr.heap.size)) wr ta ((x.l.take k).map cutCe) ∧ RdS CeR R2 wr (.slice ao x.l.length cap) x.l ∧ Cs wr (w.heap.size) (x.cells (.slice ao x.l.length cap) : List Value).toArray 55 ∧ Cs wr (w.heap.size + 1) #[.int .i64 0, .int .i64 0, .int .u64 0, .slice none 0 0, .int .i64 0, .int .i64 0] 55 ∧ Mod (fun _ => False) w wr) (fun _ ti _ => x.l.length - (intOf ti).toNat)
  case atStart => exact ⟨0, rfl, Nat.zero_le _, Nat.zero_le _, Nat.le_refl _, OwS.nil _ _ _ _ _, Hx1.out, HB1.out, HB2.out, HM0.out⟩
  case round =>
    obtain ⟨k1, rfl, hk, hkN, hz, ha, hk_0, hk_1, hk_2, hm⟩ := hrel
    obtain ⟨wl1, rfl⟩ : ∃ x, x = wr := ⟨_, rfl⟩
    obtain ⟨aol1, capl1, rfl⟩ := ha.shape
    have HAL1 := Lib.hid ha
    have HKL1_0 := Lib.hid hk_0
    have HKL1_1 := Lib.hid hk_1
    have HKL1_2 := Lib.hid hk_2
    have HML1 := Lib.hid hm
    clear ha hm hk_0 hk_1 hk_2 Hx1 HB1 HB2 HM0
    by_cases hlt1 : k1 < x.l.length ∧ k1 < 3
    · obtain ⟨hlt1, hlN1⟩ := hlt1
      go_upto_region 3 with (fail)
      generalize ha0 : Act.mk _ _ = a0
      have oe1 : a0.eval (.tmp 1) = .pointer (some ⟨w.heap.size, 0, none⟩) := by rw [← ha0]; rfl
      have oe4 : a0.eval (.tmp 4) = .int .i64 ((k1 : Nat) : Int) := by rw [← ha0]; rfl
      have hsz0 : a0.tmps.size = 28 := by rw [← ha0]; rfl
      have HA0 := Lib.hid ha0
      clear ha0
      refine wp_region_Q 28 hsz0 (by kernel_rfl) (by kernel_rfl) [5, 6, 7, 8, 9, 10, 11, 12, 13] (by kernel_rfl) (by decide) (fun _ => False) (fun _ _ => False) (fun _ _ h => h) [qi (.int .i64 ((k1 : Nat) : Int)), qi (.pointer (some ⟨w.heap.size, 3, none⟩)), qi (.slice ao x.l.length cap), qi (.int .i64 x.l.length), qi (.bool true), qi (.bool true), qi (.int .i64 ((k1 : Nat) : Int)), qi (.bool true), qi (.bool true)] ⟨qi_stable, qi_stable, qi_stable, qi_stable, qi_stable, qi_stable, qi_stable, qi_stable, qi_stable, trivial⟩ [] (by kernel_rfl) (by decide) (by kernel_rfl) [] (by kernel_rfl) (by intro r hr; cases hr) (by intro r hr; cases hr) (by intro r hr; cases hr) ⟨?_, ?_, ?_, ?_, ?_, ?_, ?_, ?_, ?_, trivial⟩ ?_
      · refine stepq_env rfl rfl rfl fun Z tr act w' hZ hm hm0 hout hsz hd hub hpre => ?_
        refine qe_run rfl (wanted_none rfl) (ex_move rfl ((hout 4 (by decide)).trans oe4)) QE.refl ?_
        rfl
      · refine stepq_env rfl rfl rfl fun Z tr act w' hZ hm hm0 hout hsz hd hub hpre => ?_
        refine qe_run rfl (wanted_none rfl) (ex_field rfl Try.underlying55 rfl (by kernel_rfl) ((hout 1 (by decide)).trans oe1)) QE.refl ?_
        rfl
      · refine stepq_env rfl rfl rfl fun Z tr act w' hZ hm hm0 hout hsz hd hub hpre => ?_
        have h1 := hd ⟨1, .data⟩ (by simp) rfl _ rfl
        refine qe_run rfl (wanted_none rfl) (ex_load1 rfl Try.underlying53 rfl h1 (Cs.lit1 (HKL1_1.out.mod (Mod.mono (S' := fun k => wl1.heap.size ≤ k) hm (fun _ _ h => h.elim (fun h => h.2.elim) (fun h => h))) (by intro h2; (try dsimp only at h2); (try simp only [false_or] at h2); omega)) rfl)) QE.refl ?_
        rfl
      · refine stepq_env rfl rfl rfl fun Z tr act w' hZ hm hm0 hout hsz hd hub hpre => ?_
        have h2 := hd ⟨2, .data⟩ (by simp) rfl _ rfl
        refine qe_run rfl (wanted_none rfl) (ex_lenS rfl h2 Try.underlying53) QE.refl ?_
        rfl
      · refine stepq_env rfl rfl rfl fun Z tr act w' hZ hm hm0 hout hsz hd hub hpre => ?_
        have h0 := hd ⟨0, .data⟩ (by simp) rfl _ rfl
        have h3 := hd ⟨3, .data⟩ (by simp) rfl _ rfl
        refine qe_run rfl (wanted_none rfl) (ex_binE rfl h0 h3 (guard_ints _ _ _ _ _ _) (run_lss_i _ _ _ Try.underlying3) (congrArg Value.bool (decide_eq_true (by omega)))) QE.refl ?_
        rfl
      · refine stepq_env rfl rfl rfl fun Z tr act w' hZ hm hm0 hout hsz hd hub hpre => ?_
        have h4 := hd ⟨4, .data⟩ (by simp) rfl _ rfl
        refine qe_run rfl (wanted_none rfl) (ex_move rfl h4) QE.refl ?_
        rfl
      · refine stepq_env rfl rfl rfl fun Z tr act w' hZ hm hm0 hout hsz hd hub hpre => ?_
        have h5 := hd ⟨5, .guard⟩ (by simp) rfl _ rfl
        refine qe_run rfl ((wanted_of rfl rfl (hsz 10 (by decide)) h5).trans rfl) (ex_move rfl ((hout 4 (by decide)).trans oe4)) QE.refl ?_
        rfl
      · refine stepq_env rfl rfl rfl fun Z tr act w' hZ hm hm0 hout hsz hd hub hpre => ?_
        have h5 := hd ⟨5, .guard⟩ (by simp) rfl _ rfl
        have h6 := hd ⟨6, .data⟩ (by simp) rfl _ rfl
        refine qe_run rfl ((wanted_of rfl rfl (hsz 10 (by decide)) h5).trans rfl) (ex_binE rfl h6 rfl (guard_ints _ _ _ _ _ _) (run_lss_i _ _ _ Try.underlying3) (congrArg Value.bool (decide_eq_true (by omega)))) QE.refl ?_
        rfl
      · refine stepq_env rfl rfl rfl fun Z tr act w' hZ hm hm0 hout hsz hd hub hpre => ?_
        have h5 := hd ⟨5, .data⟩ (by simp) rfl _ rfl
        have h7 := hd ⟨7, .data⟩ (by simp) rfl _ rfl
        refine qe_run rfl (wanted_none rfl) (ex_pick rfl h5 h7 rfl) QE.refl ?_
        rfl
      intro u3_0 hr
      have zu3_0 := hr.size
      have Hx2 := Lib.hid (HKL1_0.out.mod hr (by intro k h1 h2; (try dsimp only at h1 h2); (try simp only [false_or] at h1 h2); (first | omega | (have hb := HBT.out k h1; omega) | (have hb := HBT.out k h2; omega))))
      have Hx3 := Lib.hid (HKL1_1.out.mod hr (by intro h2; (try dsimp only at h2); (try simp only [false_or] at h2); omega))
      have Hx4 := Lib.hid (HKL1_2.out.mod hr (by intro h2; (try dsimp only at h2); (try simp only [false_or] at h2); omega))
      have Hx5 := Lib.hid (HML1.out.trans hr (by intro k h1 h2; (try dsimp only at h2 ⊢); (try simp only [false_or] at h2 ⊢); omega))
      have Hx6 := Lib.hid (HAL1.out.mod hr (by intro k h1 h2; (try dsimp only at h1 h2); (try simp only [false_or] at h1 h2); omega) (by intro k h1 h2; (try dsimp only at h1 h2); (try simp only [false_or] at h1 h2); rcases h1 with h1 | h1 <;> (first | omega | (have hb := HBT.out k h1; omega) | (have hb := HBT.out k h2; omega))))
      clear HKL1_0 HKL1_1 HKL1_2 HML1 HAL1
      clear hr
      refine QChain.nil fun vs hl hzz hrows hne => ?_
      obtain ⟨Z, hYZ, hZb, hV⟩ := hzz
      obtain ⟨v0, vs0, rfl, hl0⟩ := list_cons hl
      obtain ⟨v1, vs1, rfl, hl1⟩ := list_cons hl0
      obtain ⟨v2, vs2, rfl, hl2⟩ := list_cons hl1
      obtain ⟨v3, vs3, rfl, hl3⟩ := list_cons hl2
      obtain ⟨v4, vs4, rfl, hl4⟩ := list_cons hl3
      obtain ⟨v5, vs5, rfl, hl5⟩ := list_cons hl4
      obtain ⟨v6, vs6, rfl, hl6⟩ := list_cons hl5
      obtain ⟨v7, vs7, rfl, hl7⟩ := list_cons hl6
      obtain ⟨v8, vs8, rfl, hl8⟩ := list_cons hl7
      obtain rfl := list_nil hl8
      clear hl hl0 hl1 hl2 hl3 hl4 hl5 hl6 hl7 hl8
      obtain rfl : v0 = .int .i64 ((k1 : Nat) : Int) := hV 0 _ rfl
      obtain rfl : v3 = .int .i64 x.l.length := hV 3 _ rfl
      obtain rfl : v5 = .bool true := hV 5 _ rfl
      obtain rfl : v6 = .int .i64 ((k1 : Nat) : Int) := hV 6 _ rfl
      obtain rfl : v8 = .bool true := hV 8 _ rfl
      have ha0 := HA0.out
      subst ha0
      clear HA0 hV hYZ hZb hsz0 hrows hne oe1 oe4
      simp only [putAll, Act.put, List.setIfInBounds_toArray, List.set_cons_zero, List.set_cons_succ]
      have hat := Hx2.out.at hlt1
      obtain ⟨g1, o1, cs1, eao, hrg, hrd, hcs⟩ := hat
      subst eao
      have hcl : cs1.length = 38 := CeR.len hrd
      have HCL1 := Lib.hid hcl
      have HAT1 := Lib.hid (show CellsAt R2 u3_0 g1 (o1 + k1 * 38) cs1 from ⟨hrg, hcs⟩)
      have HRD1 := Lib.hid hrd
      have HOC1 := Lib.hid (CeR.one hrd)
      clear hcl hcs hrd hrg
      have HE1 : Hid (((x.l.take k1).map cutCe) ++ [cutCe x.l[k1]] = (x.l.take (k1 + 1)).map cutCe) := Lib.hid (by rw [List.take_succ_eq_append_getElem hlt1, List.map_append]; rfl)
      have HLN1 : Hid (((x.l.take k1).map cutCe).length = k1) := Lib.hid (by rw [List.length_map, List.length_take]; omega)
      go_upto_region 5 with (fail)
      generalize ha0 : Act.mk _ _ = a0
      have oe1 : a0.eval (.tmp 1) = .pointer (some ⟨w.heap.size, 0, none⟩) := by rw [← ha0]; rfl
      have oe3 : a0.eval (.tmp 3) = .slice aol1 ((x.l.take k1).map cutCe).length capl1 := by rw [← ha0]; rfl
      have oe4 : a0.eval (.tmp 4) = .int .i64 ((k1 : Nat) : Int) := by rw [← ha0]; rfl
      have hsz0 : a0.tmps.size = 28 := by rw [← ha0]; rfl
      have HA0 := Lib.hid ha0
      clear ha0
      refine wp_region_Q 28 hsz0 (by kernel_rfl) (by kernel_rfl) [16, 17, 18, 19, 20, 21, 22, 23, 24, 3] (by kernel_rfl) (by decide) (fun k => (w1.heap.size ≤ k ∧ k < wl1.heap.size)) (fun k j => (k = 2 ∧ ((w1.heap.size ≤ j ∧ j < wl1.heap.size)))) (by intro k j h; (try dsimp only at h ⊢); omega) [qi (.slice aol1 ((x.l.take k1).map cutCe).length capl1), qi (.pointer (some ⟨w.heap.size, 3, none⟩)), qi (.slice (some ⟨g1, o1, none⟩) x.l.length cap), qi (.int .i64 ((k1 : Nat) : Int)), qi (.pointer (some ⟨g1, o1 + k1 * 38, none⟩)), qi (.agg cs1.toArray), qv 0, qv 1, qv 2, qv 2] ⟨qi_stable, qi_stable, qi_stable, qi_stable, qi_stable, qi_stable, qv_stable, qv_stable, qv_stable, qv_stable, trivial⟩ [6, 7, 8] (by kernel_rfl) (by decide) (by kernel_rfl) [] (by kernel_rfl) (by intro r hr; cases hr) (by intro r hr; cases hr) (by intro r hr; cases hr) ⟨?_, ?_, ?_, ?_, ?_, ?_, ?_, ?_, ?_, ?_, trivial⟩ ?_
      · refine stepq_env rfl rfl rfl fun Z tr act w' hZ hm hm0 hout hsz hd hub hpre => ?_
        refine qe_run rfl (wanted_none rfl) (ex_move rfl ((hpre 9 3 rfl (by kernel_rfl)).trans oe3)) QE.refl ?_
        rfl
      · refine stepq_env rfl rfl rfl fun Z tr act w' hZ hm hm0 hout hsz hd hub hpre => ?_
        refine qe_run rfl (wanted_none rfl) (ex_field rfl Try.underlying55 rfl (by kernel_rfl) ((hout 1 (by decide)).trans oe1)) QE.refl ?_
        rfl
      · refine stepq_env rfl rfl rfl fun Z tr act w' hZ hm hm0 hout hsz hd hub hpre => ?_
        have h1 := hd ⟨1, .data⟩ (by simp) rfl _ rfl
        refine qe_run rfl (wanted_none rfl) (ex_load1 rfl Try.underlying53 rfl h1 (Cs.lit1 (Hx3.out.mod hm (by intro h2; (try dsimp only at h2); (try simp only [false_or] at h2); omega)) rfl)) QE.refl ?_
        rfl
      · refine stepq_env rfl rfl rfl fun Z tr act w' hZ hm hm0 hout hsz hd hub hpre => ?_
        refine qe_run rfl (wanted_none rfl) (ex_move rfl ((hout 4 (by decide)).trans oe4)) QE.refl ?_
        rfl
      · refine stepq_env rfl rfl rfl fun Z tr act w' hZ hm hm0 hout hsz hd hub hpre => ?_
        have h2 := hd ⟨2, .data⟩ (by simp) rfl _ rfl
        have h3 := hd ⟨3, .data⟩ (by simp) rfl _ rfl
        refine qe_run rfl (wanted_none rfl) (ex_idxS (i := k1) (s := 38) rfl Try.underlying53 (by kernel_rfl) h2 h3 hlt1) QE.refl ?_
        rfl
      · refine stepq_env rfl rfl rfl fun Z tr act w' hZ hm hm0 hout hsz hd hub hpre => ?_
        have h4 := hd ⟨4, .data⟩ (by simp) rfl _ rfl
        refine qe_run rfl (wanted_none rfl) (ex_loadA rfl Try.underlying52 rfl (off := o1 + k1 * 38) (cs := cs1) (by rw [HCL1.out]; kernel_rfl) h4 (fun j u hu => ((HAT1.out.mod hm (by intro k h1 h2; (try dsimp only at h1 h2); (try simp only [false_or] at h1 h2); rcases h2 with ⟨h0, h2⟩ | h2 <;> (first | omega | (have hb := HBT.out k h1; omega) | (have hb := HBT.out k h2; omega))))).2 j u hu)) QE.refl ?_
        rfl
      · exact stepq_chain rfl
      · exact stepq_chain rfl
      · exact stepq_chain rfl
      · refine stepq_env rfl rfl rfl fun Z tr act w' hZ hm hm0 hout hsz hd hub hpre => ?_
        have h8 := hd ⟨8, .data⟩ (by simp) rfl _ rfl
        exact qe_run rfl (wanted_none rfl) (ex_assign rfl rfl) QE.refl h8
      intro u5_0 hr
      have zu5_0 := hr.size
      have Hx7 := Lib.hid (Hx2.out.mod hr (by intro k h1 h2; (try dsimp only at h1 h2); (try simp only [false_or] at h1 h2); (first | omega | (have hb := HBT.out k h1; omega) | (have hb := HBT.out k h2; omega))))
      have Hx8 := Lib.hid (Hx3.out.mod hr (by intro h2; (try dsimp only at h2); (try simp only [false_or] at h2); omega))
      have Hx9 := Lib.hid (Hx4.out.mod hr (by intro h2; (try dsimp only at h2); (try simp only [false_or] at h2); omega))
      have Hx10 := Lib.hid (Hx5.out.trans hr (by intro k h1 h2; (try dsimp only at h2 ⊢); (try simp only [false_or] at h2 ⊢); omega))
      have Hx11 := Lib.hid (Hx6.out.mod hr (by intro k h1 h2; (try dsimp only at h1 h2); (try simp only [false_or] at h1 h2); omega) (by intro k h1 h2; (try dsimp only at h1 h2); (try simp only [false_or] at h1 h2); rcases h1 with h1 | h1 <;> (first | omega | (have hb := HBT.out k h1; omega) | (have hb := HBT.out k h2; omega))))
      have Hx12 := Lib.hid (HAT1.out.mod hr (by intro k h1 h2; (try dsimp only at h1 h2); (try simp only [false_or] at h1 h2); (first | omega | (have hb := HBT.out k h1; omega) | (have hb := HBT.out k h2; omega))))
      have Hx13 := Lib.hid (HRD1.out.mod hr (by intro k h1 h2; (try dsimp only at h1 h2); (try simp only [false_or] at h1 h2); (first | omega | (have hb := HBT.out k h1; omega) | (have hb := HBT.out k h2; omega))))
      clear Hx2 Hx3 Hx4 Hx5 Hx6 HAT1 HRD1
      clear hr
      refine QChain.cons rfl fun Z act hYZ hZ hout hsz hd hpre => ?_
      have h5 := hd ⟨5, .data⟩ (by simp) rfl _ rfl
      have ea21 : act.eval (.tmp 21) = .agg cs1.toArray := h5
      refine qc_call (args := #[.agg cs1.toArray]) rfl (wanted_none rfl) (by rw [ex_callF rfl Try.func21 (by kernel_rfl) (by kernel_rfl)]; exact congrArg (fun z => Result.ok (Next.enter _ z) _) (by simp only [List.map_toArray, List.map_cons, List.map_nil, ea21]; try rfl)) (LCert_c _ _ _ _ Hx13.out (by intro k h1; (try dsimp only at h1); (first | omega | (have hb := HBT.out k h1; omega)))) ?_
      rintro e u5_1a ⟨cs', rfl, qel, hm⟩
      have zu5_1a := hm.size
      refine ⟨_, rfl, hm.mono (fun _ _ h => h.elim), (fun _ => rfl), ?_⟩
      intro u5_1 hr
      have zu5_1 := hr.size
      have Hx14 := Lib.hid ((qel.widen (R' := (fun k => (R2 k) ∨ (u5_0.heap.size ≤ k ∧ k < u5_1a.heap.size))) (by intro k h1; (try unfold New at h1); (try dsimp only at h1 ⊢); (try simp only [false_or] at h1 ⊢); first | exact h1 | (simp only [or_assoc] at h1 ⊢; first | exact h1 | (rcases h1 with h1 | h1 <;> first | (left; exact h1) | (right; omega) | omega)))).mod hr (by intro k h1 h2; (try dsimp only at h1 h2); (try simp only [false_or] at h1 h2); rcases h1 with h1 | h1 <;> (first | omega | (have hb := HBT.out k h1; omega) | (have hb := HBT.out k h2; omega))))
      have hmr := Mod.after hm hr
      have Hx15 := Lib.hid (Hx7.out.mod hmr (by intro k h1 h2; (try dsimp only at h1 h2); (try simp only [false_or] at h1 h2); (first | omega | (have hb := HBT.out k h1; omega) | (have hb := HBT.out k h2; omega))))
      have Hx16 := Lib.hid (Hx8.out.mod hmr (by intro h2; (try dsimp only at h2); (try simp only [false_or] at h2); omega))
      have Hx17 := Lib.hid (Hx9.out.mod hmr (by intro h2; (try dsimp only at h2); (try simp only [false_or] at h2); omega))
      have Hx18 := Lib.hid (Hx10.out.trans hmr (by intro k h1 h2; (try dsimp only at h2 ⊢); (try simp only [false_or] at h2 ⊢); omega))
      have Hx19 := Lib.hid (Hx11.out.mod hmr (by intro k h1 h2; (try dsimp only at h1 h2); (try simp only [false_or] at h1 h2); omega) (by intro k h1 h2; (try dsimp only at h1 h2); (try simp only [false_or] at h1 h2); rcases h1 with h1 | h1 <;> (first | omega | (have hb := HBT.out k h1; omega) | (have hb := HBT.out k h2; omega))))
      have Hx20 := Lib.hid (Hx12.out.mod hmr (by intro k h1 h2; (try dsimp only at h1 h2); (try simp only [false_or] at h1 h2); (first | omega | (have hb := HBT.out k h1; omega) | (have hb := HBT.out k h2; omega))))
      clear Hx7 Hx8 Hx9 Hx10 Hx11 Hx12
      clear hmr
      clear hm hr hYZ hZ hout hsz hd hpre qel Hx13 ea21 h5
      refine QChain.cons rfl fun Z act hYZ hZ hout hsz hd hpre => ?_
      have h6 := hd ⟨6, .data⟩ (by simp) rfl _ rfl
      refine qc_buildS (e := 52) (cs := cs') (zc := [.int .i64 0, .int .i64 0, .int .u8 0, .int .u8 0, .int .u8 0, .int .u8 0, .int .u8 0, .int .u8 0, .int .u8 0, .int .u8 0, .int .u8 0, .int .u8 0, .int .u8 0, .int .u8 0, .int .u8 0, .int .u8 0, .int .u8 0, .int .u8 0, .int .u8 0, .int .u8 0, .int .u8 0, .int .u8 0, .int .u8 0, .int .u8 0, .int .u8 0, .int .u8 0, .int .u8 0, .int .u8 0, .int .u8 0, .int .u8 0, .int .u8 0, .int .u8 0, .int .u8 0, .int .u8 0, .int .i64 0, .int .i64 0, .int .i64 0, .slice none 0 0]) (sz := 38) rfl (wanted_none rfl) rfl Try.underlying53 (by kernel_rfl) rfl (by decide) (by decide) (Option.some.inj (show some (.agg cs'.toArray : Value) = some (act.eval (.tmp 22)) from h6)).symm (CeR.len Hx14.out) ?_
      intro u5_2a qrow hm
      have zl5_7 := qrow.lt
      have zu5_2a := hm.size
      refine ⟨hm.mono (fun _ _ h => h.elim), (fun _ => rfl), ?_⟩
      intro u5_2 hr
      have zu5_2 := hr.size
      have Hx21 := Lib.hid (qrow.mod hr (by intro h2; (try dsimp only at h2); (try simp only [false_or] at h2); omega))
      have hmr := Mod.after hm hr
      have Hx22 := Lib.hid (Hx15.out.mod hmr (by intro k h1 h2; (try dsimp only at h1 h2); (try simp only [false_or] at h1 h2); (first | omega | (have hb := HBT.out k h1; omega) | (have hb := HBT.out k h2; omega))))
      have Hx23 := Lib.hid (Hx16.out.mod hmr (by intro h2; (try dsimp only at h2); (try simp only [false_or] at h2); omega))
      have Hx24 := Lib.hid (Hx17.out.mod hmr (by intro h2; (try dsimp only at h2); (try simp only [false_or] at h2); omega))
      have Hx25 := Lib.hid (Hx18.out.trans hmr (by intro k h1 h2; (try dsimp only at h2 ⊢); (try simp only [false_or] at h2 ⊢); omega))
      have Hx26 := Lib.hid (Hx19.out.mod hmr (by intro k h1 h2; (try dsimp only at h1 h2); (try simp only [false_or] at h1 h2); omega) (by intro k h1 h2; (try dsimp only at h1 h2); (try simp only [false_or] at h1 h2); rcases h1 with h1 | h1 <;> (first | omega | (have hb := HBT.out k h1; omega) | (have hb := HBT.out k h2; omega))))
      have Hx27 := Lib.hid (Hx20.out.mod hmr (by intro k h1 h2; (try dsimp only at h1 h2); (try simp only [false_or] at h1 h2); (first | omega | (have hb := HBT.out k h1; omega) | (have hb := HBT.out k h2; omega))))
      have Hx28 := Lib.hid (Hx14.out.mod hmr (by intro k h1 h2; (try dsimp only at h1 h2); (try simp only [false_or] at h1 h2); rcases h1 with h1 | h1 <;> (first | omega | (have hb := HBT.out k h1; omega) | (have hb := HBT.out k h2; omega))))
      clear Hx15 Hx16 Hx17 Hx18 Hx19 Hx20 Hx14
      clear hmr
      clear hm hr hYZ hZ hout hsz hd hpre qrow h6
      refine QChain.cons rfl fun Z act hYZ hZ hout hsz hd hpre => ?_
      have h0 := hd ⟨0, .data⟩ (by simp) rfl _ rfl
      have h7 := hd ⟨7, .data⟩ (by simp) rfl _ rfl
      refine qc_appS (A := CeR) (e := 52) rfl (wanted_none rfl) rfl (.agg #[.int .i64 0, .int .i64 0, .int .u8 0, .int .u8 0, .int .u8 0, .int .u8 0, .int .u8 0, .int .u8 0, .int .u8 0, .int .u8 0, .int .u8 0, .int .u8 0, .int .u8 0, .int .u8 0, .int .u8 0, .int .u8 0, .int .u8 0, .int .u8 0, .int .u8 0, .int .u8 0, .int .u8 0, .int .u8 0, .int .u8 0, .int .u8 0, .int .u8 0, .int .u8 0, .int .u8 0, .int .u8 0, .int .u8 0, .int .u8 0, .int .u8 0, .int .u8 0, .int .u8 0, .int .u8 0, .int .i64 0, .int .i64 0, .int .i64 0, .slice none 0 0]) 96 Try.underlying53 info_Ce (by rfl) (of_decide_eq_true (by kernel_rfl)) h0 (Option.some.inj (show some (.slice (some ⟨u5_1.heap.size, 0, none⟩) 1 1 : Value) = some (act.eval (.tmp 23)) from h7)).symm (Hx26.out) (RdS.single (R := (fun k => (R2 k) ∨ (u5_0.heap.size ≤ k ∧ k < u5_1a.heap.size) ∨ (k = u5_1.heap.size))) Hx21.out (Hx28.out.widen (by intro k h1; (try dsimp only at h1 ⊢); rcases h1 with h1 | h1 <;> first | omega | exact h1.elim | exact Or.inl h1 | exact Or.inr (Or.inl h1) | exact Or.inr (Or.inr (h1)))) (by first | exact Or.inr rfl | exact Or.inr (Or.inr rfl) | (right; omega))) (by intro k h1 h2; (try dsimp only at h1 h2); (try simp only [false_or] at h1 h2); rcases h1 with h1 | h1 | h1 <;> (first | omega | (have hb := HBT.out k h1; omega) | (have hb := HBT.out k h2; omega))) (by rw [HLN1.out]; simp only [List.length_cons, List.length_nil]; omega) (by rw [HLN1.out, maxLen_val]; simp only [List.length_cons, List.length_nil]; omega) ?_
      intro ao8 cap8 u5_3a qacc hm
      have zu5_3a := hm.size
      refine ⟨hm.mono (by intro k hk h; (try dsimp only at h ⊢); (try simp only [false_or, or_false, true_and] at h ⊢); omega), (fun _ => rfl), ?_⟩
      intro u5_3 hr
      have zu5_3 := hr.size
      have Hx29 := Lib.hid ((qacc.widen (R' := (fun k => (w1.heap.size ≤ k ∧ k < wl1.heap.size) ∨ (u5_2.heap.size ≤ k ∧ k < u5_3a.heap.size))) (E' := (fun k => (R2 k) ∨ (w1.heap.size ≤ k ∧ k < wl1.heap.size) ∨ (u5_0.heap.size ≤ k ∧ k < u5_1a.heap.size) ∨ (k = u5_1.heap.size))) (by intro k h1; (try unfold New at h1); (try dsimp only at h1 ⊢); (try simp only [false_or] at h1 ⊢); omega) (by intro k h1; (try dsimp only at h1 ⊢); rcases h1 with (h1 | h1) | (h1 | h1 | h1) <;> first | omega | exact h1.elim | exact Or.inl h1 | exact Or.inr (Or.inl h1) | exact Or.inr (Or.inr (Or.inl h1)) | exact Or.inr (Or.inr (Or.inr (h1))))).mod hr (by intro k h1 h2; (try dsimp only at h1 h2); (try simp only [false_or] at h1 h2); omega) (by intro k h1 h2; (try dsimp only at h1 h2); (try simp only [false_or] at h1 h2); rcases h1 with h1 | h1 | h1 | h1 <;> (first | omega | (have hb := HBT.out k h1; omega) | (have hb := HBT.out k h2; omega))))
      have hmr := hm.two hr
      have Hx30 := Lib.hid (Hx22.out.mod hmr (by intro k h1 h2; (try dsimp only at h1 h2); (try simp only [false_or] at h1 h2); rcases h2 with h2 | h2 <;> (first | omega | (have hb := HBT.out k h1; omega) | (have hb := HBT.out k h2; omega))))
      have Hx31 := Lib.hid (Hx23.out.mod hmr (by intro h2; (try dsimp only at h2); (try simp only [false_or] at h2); omega))
      have Hx32 := Lib.hid (Hx24.out.mod hmr (by intro h2; (try dsimp only at h2); (try simp only [false_or] at h2); omega))
      have Hx33 := Lib.hid (Hx25.out.trans hmr (by intro k h1 h2; (try dsimp only at h2 ⊢); (try simp only [false_or] at h2 ⊢); omega))
      have Hx34 := Lib.hid (Hx27.out.mod hmr (by intro k h1 h2; (try dsimp only at h1 h2); (try simp only [false_or] at h1 h2); rcases h2 with h2 | h2 <;> (first | omega | (have hb := HBT.out k h1; omega) | (have hb := HBT.out k h2; omega))))
      have Hx35 := Lib.hid (Hx28.out.mod hmr (by intro k h1 h2; (try dsimp only at h1 h2); (try simp only [false_or] at h1 h2); rcases h1 with h1 | h1 <;> rcases h2 with h2 | h2 <;> (first | omega | (have hb := HBT.out k h1; omega) | (have hb := HBT.out k h2; omega))))
      have Hx36 := Lib.hid (Hx21.out.mod hmr (by intro h2; (try dsimp only at h2); (try simp only [false_or] at h2); omega))
      clear Hx22 Hx23 Hx24 Hx25 Hx27 Hx28 Hx21
      clear hmr
      clear hm hr hYZ hZ hout hsz hd hpre qacc Hx26 h0 h7
      refine QChain.nil fun vs hl hzz hrows hne => ?_
      obtain ⟨Z, hYZ, hZb, hV⟩ := hzz
      obtain ⟨v0, vs0, rfl, hl0⟩ := list_cons hl
      obtain ⟨v1, vs1, rfl, hl1⟩ := list_cons hl0
      obtain ⟨v2, vs2, rfl, hl2⟩ := list_cons hl1
      obtain ⟨v3, vs3, rfl, hl3⟩ := list_cons hl2
      obtain ⟨v4, vs4, rfl, hl4⟩ := list_cons hl3
      obtain ⟨v5, vs5, rfl, hl5⟩ := list_cons hl4
      obtain ⟨v6, vs6, rfl, hl6⟩ := list_cons hl5
      obtain ⟨v7, vs7, rfl, hl7⟩ := list_cons hl6
      obtain ⟨v8, vs8, rfl, hl8⟩ := list_cons hl7
      obtain ⟨v9, vs9, rfl, hl9⟩ := list_cons hl8
      obtain rfl := list_nil hl9
      clear hl hl0 hl1 hl2 hl3 hl4 hl5 hl6 hl7 hl8 hl9
      obtain rfl : v0 = .slice aol1 ((x.l.take k1).map cutCe).length capl1 := hV 0 _ rfl
      obtain rfl : v3 = .int .i64 ((k1 : Nat) : Int) := hV 3 _ rfl
      have e6 := Option.some.inj (show some (.agg cs'.toArray) = some v6 from hV 6 _ rfl)
      subst e6
      have e7 := Option.some.inj (show some (.slice (some ⟨u5_1.heap.size, 0, none⟩) 1 1) = some v7 from hV 7 _ rfl)
      subst e7
      have e8 := Option.some.inj (show some (.slice ao8 (((x.l.take k1).map cutCe).length + 1) cap8) = some v8 from hV 8 _ rfl)
      subst e8
      have e9 := Option.some.inj (show some (.slice ao8 (((x.l.take k1).map cutCe).length + 1) cap8) = some v9 from hV 9 _ rfl)
      subst e9
      have ha0 := HA0.out
      subst ha0
      clear HA0 hV hYZ hZb hsz0 hrows hne oe1 oe3 oe4
      simp only [putAll, Act.put, List.setIfInBounds_toArray, List.set_cons_zero, List.set_cons_succ]
      have hq := Hx29.out
      rw [HE1.out] at hq
      have HQ1 := Lib.hid hq
      clear hq
      go_wp2
      go_roundw
      case rel => exact ⟨k1 + 1, by go_num, by omega, by omega, by omega, (HQ1.out.widen (by intro b h1; (try dsimp only at h1 ⊢); omega) (by intro k h1; (try dsimp only at h1 ⊢); rcases h1 with h1 | h1 | h1 | h1 <;> first | omega | exact h1.elim | exact Or.inl h1 | exact Or.inr (h1))), Hx30.out, Hx31.out, Hx32.out, Hx33.out⟩
      case measure => simp [intOf]; omega
    · skip
      obtain ⟨bA1, hbA1⟩ : ∃ b : Bool, b = decide (((k1 : Nat) : Int) < (x.l.length : Int)) := ⟨_, rfl⟩
      obtain ⟨bB1, hbB1⟩ : ∃ b : Bool, b = decide (((k1 : Nat) : Int) < 3) := ⟨_, rfl⟩
      go_upto_region 3 with (fail)
      generalize ha0 : Act.mk _ _ = a0
      have oe1 : a0.eval (.tmp 1) = .pointer (some ⟨w.heap.size, 0, none⟩) := by rw [← ha0]; rfl
      have oe4 : a0.eval (.tmp 4) = .int .i64 ((k1 : Nat) : Int) := by rw [← ha0]; rfl
      have hsz0 : a0.tmps.size = 28 := by rw [← ha0]; rfl
      have HA0 := Lib.hid ha0
      clear ha0
      refine wp_region_Q 28 hsz0 (by kernel_rfl) (by kernel_rfl) [5, 6, 7, 8, 9, 10, 11, 12, 13] (by kernel_rfl) (by decide) (fun _ => False) (fun _ _ => False) (fun _ _ h => h) [qi (.int .i64 ((k1 : Nat) : Int)), qi (.pointer (some ⟨w.heap.size, 3, none⟩)), qi (.slice ao x.l.length cap), qi (.int .i64 x.l.length), qi (.bool bA1), qi (.bool bA1), qc bA1 (qi (.int .i64 ((k1 : Nat) : Int))), qc bA1 (qi (.bool bB1)), qi (.bool (bA1 && bB1))] ⟨qi_stable, qi_stable, qi_stable, qi_stable, qi_stable, qi_stable, (qc_stable qi_stable), (qc_stable qi_stable), qi_stable, trivial⟩ [] (by kernel_rfl) (by decide) (by kernel_rfl) [] (by kernel_rfl) (by intro r hr; cases hr) (by intro r hr; cases hr) (by intro r hr; cases hr) ⟨?_, ?_, ?_, ?_, ?_, ?_, ?_, ?_, ?_, trivial⟩ ?_
      · refine stepq_env rfl rfl rfl fun Z tr act w' hZ hm hm0 hout hsz hd hub hpre => ?_
        refine qe_run rfl (wanted_none rfl) (ex_move rfl ((hout 4 (by decide)).trans oe4)) QE.refl ?_
        rfl
      · refine stepq_env rfl rfl rfl fun Z tr act w' hZ hm hm0 hout hsz hd hub hpre => ?_
        refine qe_run rfl (wanted_none rfl) (ex_field rfl Try.underlying55 rfl (by kernel_rfl) ((hout 1 (by decide)).trans oe1)) QE.refl ?_
        rfl
      · refine stepq_env rfl rfl rfl fun Z tr act w' hZ hm hm0 hout hsz hd hub hpre => ?_
        have h1 := hd ⟨1, .data⟩ (by simp) rfl _ rfl
        refine qe_run rfl (wanted_none rfl) (ex_load1 rfl Try.underlying53 rfl h1 (Cs.lit1 (HKL1_1.out.mod (Mod.mono (S' := fun k => wl1.heap.size ≤ k) hm (fun _ _ h => h.elim (fun h => h.2.elim) (fun h => h))) (by intro h2; (try dsimp only at h2); (try simp only [false_or] at h2); omega)) rfl)) QE.refl ?_
        rfl
      · refine stepq_env rfl rfl rfl fun Z tr act w' hZ hm hm0 hout hsz hd hub hpre => ?_
        have h2 := hd ⟨2, .data⟩ (by simp) rfl _ rfl
        refine qe_run rfl (wanted_none rfl) (ex_lenS rfl h2 Try.underlying53) QE.refl ?_
        rfl
      · refine stepq_env rfl rfl rfl fun Z tr act w' hZ hm hm0 hout hsz hd hub hpre => ?_
        have h0 := hd ⟨0, .data⟩ (by simp) rfl _ rfl
        have h3 := hd ⟨3, .data⟩ (by simp) rfl _ rfl
        refine qe_run rfl (wanted_none rfl) (ex_binE rfl h0 h3 (guard_ints _ _ _ _ _ _) (run_lss_i _ _ _ Try.underlying3) (congrArg Value.bool hbA1.symm)) QE.refl ?_
        rfl
      · refine stepq_env rfl rfl rfl fun Z tr act w' hZ hm hm0 hout hsz hd hub hpre => ?_
        have h4 := hd ⟨4, .data⟩ (by simp) rfl _ rfl
        refine qe_run rfl (wanted_none rfl) (ex_move rfl h4) QE.refl ?_
        rfl
      · refine stepq_env rfl rfl rfl fun Z tr act w' hZ hm hm0 hout hsz hd hub hpre => ?_
        have h5 := hd ⟨5, .guard⟩ (by simp) rfl _ rfl
        refine qe_guard rfl (b := bA1) ((wanted_of rfl rfl (hsz 10 (by decide)) h5).trans (by simp)) rfl (fun hb l' hl' => ?_)
        refine qe_run rfl ((wanted_of rfl rfl (hsz 10 (by decide)) h5).trans (by first | exact hb | simpa using hb)) (ex_move rfl ((hout 4 (by decide)).trans oe4)) QE.refl ?_
        rw [hl']; rfl
      · refine stepq_env rfl rfl rfl fun Z tr act w' hZ hm hm0 hout hsz hd hub hpre => ?_
        have h5 := hd ⟨5, .guard⟩ (by simp) rfl _ rfl
        have h6 := hd ⟨6, .data⟩ (by simp) rfl _ rfl
        refine qe_guard rfl (b := bA1) ((wanted_of rfl rfl (hsz 10 (by decide)) h5).trans (by simp)) rfl (fun hb l' hl' => ?_)
        refine qe_run rfl ((wanted_of rfl rfl (hsz 10 (by decide)) h5).trans (by first | exact hb | simpa using hb)) (ex_binE rfl (h6.1 hb) rfl (guard_ints _ _ _ _ _ _) (run_lss_i _ _ _ Try.underlying3) (congrArg Value.bool hbB1.symm)) QE.refl ?_
        rw [hl']; rfl
      · refine stepq_env rfl rfl rfl fun Z tr act w' hZ hm hm0 hout hsz hd hub hpre => ?_
        have h5 := hd ⟨5, .data⟩ (by simp) rfl _ rfl
        have h7 := hd ⟨7, .data⟩ (by simp) rfl _ rfl
        refine qe_run rfl (wanted_none rfl) (ex_pickE rfl h5 rfl rfl (and_val fun hb => h7.1 hb)) QE.refl ?_
        rfl
      intro u3_0 hr
      have zu3_0 := hr.size
      have Hx37 := Lib.hid (HKL1_0.out.mod hr (by intro k h1 h2; (try dsimp only at h1 h2); (try simp only [false_or] at h1 h2); (first | omega | (have hb := HBT.out k h1; omega) | (have hb := HBT.out k h2; omega))))
      have Hx38 := Lib.hid (HKL1_1.out.mod hr (by intro h2; (try dsimp only at h2); (try simp only [false_or] at h2); omega))
      have Hx39 := Lib.hid (HKL1_2.out.mod hr (by intro h2; (try dsimp only at h2); (try simp only [false_or] at h2); omega))
      have Hx40 := Lib.hid (HML1.out.trans hr (by intro k h1 h2; (try dsimp only at h2 ⊢); (try simp only [false_or] at h2 ⊢); omega))
      have Hx41 := Lib.hid (HAL1.out.mod hr (by intro k h1 h2; (try dsimp only at h1 h2); (try simp only [false_or] at h1 h2); omega) (by intro k h1 h2; (try dsimp only at h1 h2); (try simp only [false_or] at h1 h2); rcases h1 with h1 | h1 <;> (first | omega | (have hb := HBT.out k h1; omega) | (have hb := HBT.out k h2; omega))))
      clear HKL1_0 HKL1_1 HKL1_2 HML1 HAL1
      clear hr
      refine QChain.nil fun vs hl hzz hrows hne => ?_
      obtain ⟨Z, hYZ, hZb, hV⟩ := hzz
      obtain ⟨v0, vs0, rfl, hl0⟩ := list_cons hl
      obtain ⟨v1, vs1, rfl, hl1⟩ := list_cons hl0
      obtain ⟨v2, vs2, rfl, hl2⟩ := list_cons hl1
      obtain ⟨v3, vs3, rfl, hl3⟩ := list_cons hl2
      obtain ⟨v4, vs4, rfl, hl4⟩ := list_cons hl3
      obtain ⟨v5, vs5, rfl, hl5⟩ := list_cons hl4
      obtain ⟨v6, vs6, rfl, hl6⟩ := list_cons hl5
      obtain ⟨v7, vs7, rfl, hl7⟩ := list_cons hl6
      obtain ⟨v8, vs8, rfl, hl8⟩ := list_cons hl7
      obtain rfl := list_nil hl8
      clear hl hl0 hl1 hl2 hl3 hl4 hl5 hl6 hl7 hl8
      obtain rfl : v0 = .int .i64 ((k1 : Nat) : Int) := hV 0 _ rfl
      obtain rfl : v3 = .int .i64 x.l.length := hV 3 _ rfl
      obtain rfl : v5 = .bool bA1 := hV 5 _ rfl
      obtain rfl : v8 = .bool (bA1 && bB1) := hV 8 _ rfl
      have ha0 := HA0.out
      subst ha0
      clear HA0 hV hYZ hZb hsz0 hrows hne oe1 oe4
      simp only [putAll, Act.put, List.setIfInBounds_toArray, List.set_cons_zero, List.set_cons_succ]
      rw [show (bA1 && bB1) = false by rw [hbA1, hbB1, Bool.and_eq_false_iff, decide_eq_false_iff_not, decide_eq_false_iff_not]; omega]
      have HTK1 := Lib.hid (show x.l.take k1 = x.l.take 3 from take_two (by omega) (by omega))
      go_upto_region 6 with (fail)
      generalize ha0 : Act.mk _ _ = a0
      have oe1 : a0.eval (.tmp 1) = .pointer (some ⟨w.heap.size, 0, none⟩) := by rw [← ha0]; rfl
      have oe3 : a0.eval (.tmp 3) = .slice aol1 ((x.l.take k1).map cutCe).length capl1 := by rw [← ha0]; rfl
      have hsz0 : a0.tmps.size = 28 := by rw [← ha0]; rfl
      have HA0 := Lib.hid ha0
      clear ha0
      refine wp_region_Q 28 hsz0 (by kernel_rfl) (by kernel_rfl) [25, 26, 30] (by kernel_rfl) (by decide) (fun k => (k = w.heap.size)) (fun k j => (k = 0 ∧ ((j = w.heap.size)))) (by intro k j h; (try dsimp only at h ⊢); omega) [qi (.slice aol1 ((x.l.take k1).map cutCe).length capl1), qi (.pointer (some ⟨w.heap.size, 3, none⟩)), qv 0] ⟨qi_stable, qi_stable, qv_stable, trivial⟩ [2] (by kernel_rfl) (by decide) (by kernel_rfl) [] (by kernel_rfl) (by intro r hr; cases hr) (by intro r hr; cases hr) (by intro r hr; cases hr) ⟨?_, ?_, ?_, trivial⟩ ?_
      · refine stepq_env rfl rfl rfl fun Z tr act w' hZ hm hm0 hout hsz hd hub hpre => ?_
        refine qe_run rfl (wanted_none rfl) (ex_move rfl ((hout 3 (by decide)).trans oe3)) QE.refl ?_
        rfl
      · refine stepq_env rfl rfl rfl fun Z tr act w' hZ hm hm0 hout hsz hd hub hpre => ?_
        refine qe_run rfl (wanted_none rfl) (ex_field rfl Try.underlying55 rfl (by kernel_rfl) ((hout 1 (by decide)).trans oe1)) QE.refl ?_
        rfl
      · exact stepq_chain rfl
      intro u6_0 hr
      have zu6_0 := hr.size
      have Hx42 := Lib.hid (Hx37.out.mod hr (by intro k h1 h2; (try dsimp only at h1 h2); (try simp only [false_or] at h1 h2); (first | omega | (have hb := HBT.out k h1; omega) | (have hb := HBT.out k h2; omega))))
      have Hx43 := Lib.hid (Hx38.out.mod hr (by intro h2; (try dsimp only at h2); (try simp only [false_or] at h2); omega))
      have Hx44 := Lib.hid (Hx39.out.mod hr (by intro h2; (try dsimp only at h2); (try simp only [false_or] at h2); omega))
      have Hx45 := Lib.hid (Hx40.out.trans hr (by intro k h1 h2; (try dsimp only at h2 ⊢); (try simp only [false_or] at h2 ⊢); omega))
      have Hx46 := Lib.hid (Hx41.out.mod hr (by intro k h1 h2; (try dsimp only at h1 h2); (try simp only [false_or] at h1 h2); omega) (by intro k h1 h2; (try dsimp only at h1 h2); (try simp only [false_or] at h1 h2); rcases h1 with h1 | h1 <;> (first | omega | (have hb := HBT.out k h1; omega) | (have hb := HBT.out k h2; omega))))
      clear Hx37 Hx38 Hx39 Hx40 Hx41
      clear hr
      refine QChain.cons rfl fun Z act hYZ hZ hout hsz hd hpre => ?_
      have h0 := hd ⟨0, .data⟩ (by simp) rfl _ rfl
      have h1 := hd ⟨1, .data⟩ (by simp) rfl _ rfl
      refine qc_store rfl (wanted_none rfl) rfl Hx43.out (off := 3) (vs := [Value.slice aol1 ((x.l.take k1).map cutCe).length capl1]) (by kernel_rfl) (by intro u hu; simp at hu; subst hu; rfl) (by simp) h1 (by rw [show act.eval ((.tmp 25)) = _ from h0]; rfl) ?_
      intro u6_1a qc0 hm
      have qB1 : Cs u6_1a (w.heap.size) #[.int .i64 x.rp, .int .i64 x.ep, .int .u64 (x.fl : Nat), Value.slice aol1 ((x.l.take k1).map cutCe).length capl1, .int .i64 x.sb, .int .i64 x.mr] 55 := by rw [show lay _ 3 _ = #[.int .i64 x.rp, .int .i64 x.ep, .int .u64 (x.fl : Nat), Value.slice aol1 ((x.l.take k1).map cutCe).length capl1, .int .i64 x.sb, .int .i64 x.mr] from rfl] at qc0; exact qc0
      clear qc0
      have zu6_1a := hm.size
      refine ⟨hm.mono (by intro k hk h; (try dsimp only at h ⊢); (try simp only [false_or, or_false, true_and] at h ⊢); omega), (fun _ => rfl), ?_⟩
      intro u6_1 hr
      have zu6_1 := hr.size
      have Hx47 := Lib.hid (qB1.mod hr (by intro h2; (try dsimp only at h2); (try simp only [false_or] at h2); omega))
      have hmr := hm.two hr
      have Hx48 := Lib.hid (Hx42.out.mod hmr (by intro k h1 h2; (try dsimp only at h1 h2); (try simp only [false_or] at h1 h2); rcases h2 with h2 | h2 <;> (first | omega | (have hb := HBT.out k h1; omega) | (have hb := HBT.out k h2; omega))))
      have Hx49 := Lib.hid (Hx44.out.mod hmr (by intro h2; (try dsimp only at h2); (try simp only [false_or] at h2); omega))
      have Hx50 := Lib.hid (Hx45.out.trans hmr (by intro k h1 h2; (try dsimp only at h2 ⊢); (try simp only [false_or] at h2 ⊢); omega))
      have Hx51 := Lib.hid (Hx46.out.mod hmr (by intro k h1 h2; (try dsimp only at h1 h2); (try simp only [false_or] at h1 h2); omega) (by intro k h1 h2; (try dsimp only at h1 h2); (try simp only [false_or] at h1 h2); rcases h1 with h1 | h1 <;> rcases h2 with h2 | h2 <;> (first | omega | (have hb := HBT.out k h1; omega) | (have hb := HBT.out k h2; omega))))
      clear Hx42 Hx44 Hx45 Hx46
      clear hmr
      clear hm hr hYZ hZ hout hsz hd hpre qB1 Hx43 h0 h1
      refine QChain.nil fun vs hl hzz hrows hne => ?_
      obtain ⟨Z, hYZ, hZb, hV⟩ := hzz
      obtain ⟨v0, vs0, rfl, hl0⟩ := list_cons hl
      obtain ⟨v1, vs1, rfl, hl1⟩ := list_cons hl0
      obtain ⟨v2, vs2, rfl, hl2⟩ := list_cons hl1
      obtain rfl := list_nil hl2
      clear hl hl0 hl1 hl2
      obtain rfl : v0 = .slice aol1 ((x.l.take k1).map cutCe).length capl1 := hV 0 _ rfl
      have ha0 := HA0.out
      subst ha0
      clear HA0 hV hYZ hZb hsz0 hrows hne oe1 oe3
      simp only [putAll, Act.put, List.setIfInBounds_toArray, List.set_cons_zero, List.set_cons_succ, List.set_nil]
      go_upto_region 7 with (fail)
      generalize ha0 : Act.mk _ _ = a0
      have oe1 : a0.eval (.tmp 1) = .pointer (some ⟨w.heap.size, 0, none⟩) := by rw [← ha0]; rfl
      have oe2 : a0.eval (.tmp 2) = .pointer (some ⟨w.heap.size + 1, 0, none⟩) := by rw [← ha0]; rfl
      have hsz0 : a0.tmps.size = 28 := by rw [← ha0]; rfl
      have HA0 := Lib.hid ha0
      clear ha0
      refine wp_region_Q 28 hsz0 (by kernel_rfl) (by kernel_rfl) [27, 29] (by kernel_rfl) (by decide) (fun k => (k = w.heap.size + 1)) (fun k j => (k = 0 ∧ ((j = w.heap.size + 1)))) (by intro k j h; (try dsimp only at h ⊢); omega) [qi (.agg #[.int .i64 x.rp, .int .i64 x.ep, .int .u64 (x.fl : Nat), Value.slice aol1 ((x.l.take k1).map cutCe).length capl1, .int .i64 x.sb, .int .i64 x.mr]), qv 0] ⟨qi_stable, qv_stable, trivial⟩ [1] (by kernel_rfl) (by decide) (by kernel_rfl) [] (by kernel_rfl) (by intro r hr; cases hr) (by intro r hr; cases hr) (by intro r hr; cases hr) ⟨?_, ?_, trivial⟩ ?_
      · refine stepq_env rfl rfl rfl fun Z tr act w' hZ hm hm0 hout hsz hd hub hpre => ?_
        refine qe_run rfl (wanted_none rfl) (ex_loadA rfl Try.underlying55 rfl (off := 0) (cs := [.int .i64 x.rp, .int .i64 x.ep, .int .u64 (x.fl : Nat), Value.slice aol1 ((x.l.take k1).map cutCe).length capl1, .int .i64 x.sb, .int .i64 x.mr]) (by kernel_rfl) ((hout 1 (by decide)).trans oe1) (Cs.whole (Hx47.out.mod hm (by intro h2; (try dsimp only at h2); (try simp only [false_or] at h2); omega)))) QE.refl ?_
        rfl
      · exact stepq_chain rfl
      intro u7_0 hr
      have zu7_0 := hr.size
      have Hx52 := Lib.hid (Hx48.out.mod hr (by intro k h1 h2; (try dsimp only at h1 h2); (try simp only [false_or] at h1 h2); (first | omega | (have hb := HBT.out k h1; omega) | (have hb := HBT.out k h2; omega))))
      have Hx53 := Lib.hid (Hx47.out.mod hr (by intro h2; (try dsimp only at h2); (try simp only [false_or] at h2); omega))
      have Hx54 := Lib.hid (Hx49.out.mod hr (by intro h2; (try dsimp only at h2); (try simp only [false_or] at h2); omega))
      have Hx55 := Lib.hid (Hx50.out.trans hr (by intro k h1 h2; (try dsimp only at h2 ⊢); (try simp only [false_or] at h2 ⊢); omega))
      have Hx56 := Lib.hid (Hx51.out.mod hr (by intro k h1 h2; (try dsimp only at h1 h2); (try simp only [false_or] at h1 h2); omega) (by intro k h1 h2; (try dsimp only at h1 h2); (try simp only [false_or] at h1 h2); rcases h1 with h1 | h1 <;> (first | omega | (have hb := HBT.out k h1; omega) | (have hb := HBT.out k h2; omega))))
      clear Hx48 Hx47 Hx49 Hx50 Hx51
      clear hr
      refine QChain.cons rfl fun Z act hYZ hZ hout hsz hd hpre => ?_
      have h0 := hd ⟨0, .data⟩ (by simp) rfl _ rfl
      refine qc_store rfl (wanted_none rfl) rfl Hx54.out (off := 0) (vs := [.int .i64 x.rp, .int .i64 x.ep, .int .u64 (x.fl : Nat), Value.slice aol1 ((x.l.take k1).map cutCe).length capl1, .int .i64 x.sb, .int .i64 x.mr]) (by kernel_rfl) (by intro u hu; simp at hu; rcases hu with rfl | rfl | rfl | rfl | rfl | rfl <;> rfl) (by simp) ((hout 2 (by decide)).trans oe2) (by rw [show act.eval ((.tmp 27)) = _ from h0]; rfl) ?_
      intro u7_1a qc0 hm
      have qB2 : Cs u7_1a (w.heap.size + 1) #[.int .i64 x.rp, .int .i64 x.ep, .int .u64 (x.fl : Nat), Value.slice aol1 ((x.l.take k1).map cutCe).length capl1, .int .i64 x.sb, .int .i64 x.mr] 55 := by rw [show lay _ 0 _ = #[.int .i64 x.rp, .int .i64 x.ep, .int .u64 (x.fl : Nat), Value.slice aol1 ((x.l.take k1).map cutCe).length capl1, .int .i64 x.sb, .int .i64 x.mr] from rfl] at qc0; exact qc0
      clear qc0
      have zu7_1a := hm.size
      refine ⟨hm.mono (by intro k hk h; (try dsimp only at h ⊢); (try simp only [false_or, or_false, true_and] at h ⊢); omega), (fun _ => rfl), ?_⟩
      intro u7_1 hr
      have zu7_1 := hr.size
      have Hx57 := Lib.hid (qB2.mod hr (by intro h2; (try dsimp only at h2); (try simp only [false_or] at h2); omega))
      have hmr := hm.two hr
      have Hx58 := Lib.hid (Hx52.out.mod hmr (by intro k h1 h2; (try dsimp only at h1 h2); (try simp only [false_or] at h1 h2); rcases h2 with h2 | h2 <;> (first | omega | (have hb := HBT.out k h1; omega) | (have hb := HBT.out k h2; omega))))
      have Hx59 := Lib.hid (Hx53.out.mod hmr (by intro h2; (try dsimp only at h2); (try simp only [false_or] at h2); omega))
      have Hx60 := Lib.hid (Hx55.out.trans hmr (by intro k h1 h2; (try dsimp only at h2 ⊢); (try simp only [false_or] at h2 ⊢); omega))
      have Hx61 := Lib.hid (Hx56.out.mod hmr (by intro k h1 h2; (try dsimp only at h1 h2); (try simp only [false_or] at h1 h2); omega) (by intro k h1 h2; (try dsimp only at h1 h2); (try simp only [false_or] at h1 h2); rcases h1 with h1 | h1 <;> rcases h2 with h2 | h2 <;> (first | omega | (have hb := HBT.out k h1; omega) | (have hb := HBT.out k h2; omega))))
      clear Hx52 Hx53 Hx55 Hx56
      clear hmr
      clear hm hr hYZ hZ hout hsz hd hpre qB2 Hx54 h0
      refine QChain.nil fun vs hl hzz hrows hne => ?_
      obtain ⟨Z, hYZ, hZb, hV⟩ := hzz
      obtain ⟨v0, vs0, rfl, hl0⟩ := list_cons hl
      obtain ⟨v1, vs1, rfl, hl1⟩ := list_cons hl0
      obtain rfl := list_nil hl1
      clear hl hl0 hl1
      have ha0 := HA0.out
      subst ha0
      clear HA0 hV hYZ hZb hsz0 hrows hne oe1 oe2
      simp only [putAll, Act.put, List.setIfInBounds_toArray, List.set_cons_zero, List.set_cons_succ, List.set_nil]
      go_wp2
      have hq := Hx61.out
      refine bodyPost_ret (results_cellA rfl _ _ (w.heap.size + 1) ([.int .i64 x.rp, .int .i64 x.ep, .int .u64 (x.fl : Nat), Value.slice aol1 ((x.l.take k1).map cutCe).length capl1, .int .i64 x.sb, .int .i64 x.mr]) rfl (fun k u hu => by rw [Hx57.out.cell]; simpa using hu) Try.underlying55 rfl (by kernel_rfl)) rfl ⟨_, rfl, ⟨_, rfl, HOK.out, ?_⟩, Hx60.out⟩
      rw [show (cutPm x).l = (x.l.take k1).map cutCe from congrArg (List.map cutCe) HTK1.out.symm]
      refine hq.rd.widen ?_
      intro k h
      (try dsimp only at h ⊢)
      rcases h with h | h | h
      · right; unfold New; omega
      · exact Or.inl h
      · right; unfold New; omega
end Go.Proofs.Ytknpapcfhnhheaa
