/- Texts that are built one behind the other: XGr1. No condition. -/
import Derived.Test.YtknpapcfhnhheaaHg4
/- The reference's readers of small parts, certificates. -/
set_option maxRecDepth 100000
set_option linter.unusedVariables false
namespace Go.Proofs.Ytknpapcfhnhheaa
open Go Go.RowKit Go.Gv


/-- how far a list's reading has come: what is still to come gives the same; or it failed -/
def Ru {α : Type} (g : RSt → α × RSt) (n : Nat) (s1 : RSt) (k : Nat) (acc : List α) (st : RSt) : Prop := (st ≠ none → gItems g (n - k) acc st = gItems g n [] s1) ∧ (st = none → (gItems g n [] s1).2 = none)
theorem Ru.start {α : Type} {g : RSt → α × RSt} (hg : Suf g) (n : Nat) (s1 : RSt) : Ru g n s1 0 [] s1 := ⟨fun _ => rfl, fun h => by subst h; exact (gItems_suf hg n []).no⟩
theorem Ru.step {α : Type} {g : RSt → α × RSt} {n : Nat} {s1 : RSt} {k : Nat} {acc : List α} {st st2 : RSt} {x : α} (h : Ru g n s1 k acc st) (hk : k < n) (hst : st ≠ none) (hs : (g st).2 = st2) (hx : st2 ≠ none → x = (g st).1) : Ru g n s1 (k + 1) (acc ++ [x]) st2 := by
  have h1 := h.1 hst
  rw [show n - k = (n - (k + 1)) + 1 by omega] at h1
  simp only [gItems] at h1
  subst hs
  refine ⟨fun h2 => ?_, fun h2 => ?_⟩
  · rw [if_neg h2] at h1
    rw [hx h2]
    exact h1
  · rw [if_pos h2] at h1
    rw [← h1]
theorem Ru.fin {α : Type} {g : RSt → α × RSt} {n : Nat} {s1 : RSt} {k : Nat} {acc : List α} {st : RSt} (h : Ru g n s1 k acc st) (hk : ¬ (k < n ∧ st ≠ none)) (hk2 : k ≤ n) : (gItems g n [] s1).2 = st ∧ (st ≠ none → acc = (gItems g n [] s1).1) := by
  by_cases hs : st = none
  · exact ⟨(h.2 hs).trans hs.symm, fun h => absurd hs h⟩
  · have hkn : k = n := by
      by_cases e : k < n
      · exact absurd ⟨e, hs⟩ hk
      · omega
    have h1 := h.1 hs
    subst hkn
    rw [Nat.sub_self] at h1
    rw [← h1]
    exact ⟨rfl, fun _ => rfl⟩
theorem RrR.bad {T : TypeId} {R : Nat → Prop} {w : World} {r : Nat} {s : RSt} (h : RrR T R w r s) : w.cell? ⟨r, 1, none⟩ = some (.bool s.isNone) := by
  obtain ⟨v, h1, -⟩ := h
  exact (h1.1.cell 1).trans rfl
theorem go_false {k n : Nat} {st : RSt} {a : Bool} (h : ¬ (k < n ∧ st ≠ none)) (ha : a = decide (((k : Nat) : Int) < ((n : Nat) : Int))) : (a && (!st.isNone)) = false := by
  subst ha
  cases st with
  | none => simp
  | some l =>
    have : ¬ k < n := fun e => h ⟨e, by simp⟩
    simp
    omega
theorem GetsU.to {α : Type} {A : Rep α} {T : TypeId} {F : FuncId} {g : RSt → α × RSt} (h : GetsU A T F g) {s s' : RSt} (hs : (g s).2 = s') {R : Nat → Prop} {r : Nat} {w : World} (h1 : RrR T R w r s) (h2 : ∀ k, R k → k < w.heap.size) (h3 : (s.getD []).length ≤ 900000) :
    Calls Try.prog F #[.pointer (some ⟨r, 0, none⟩)] w fun e w' => ∃ cs y, e = .returned (.agg cs.toArray) ∧ A.rd (New w w') w' cs y ∧ RrR T R w' r s' ∧ (s' ≠ none → y = (g s).1) ∧ Mod R w w' := by
  subst hs
  exact h R r s w h1 h2 h3
theorem Gets.toU {α : Type} {A : Rep α} {T : TypeId} {F : FuncId} {g : RSt → α × RSt} (h : Gets A T F g) : GetsU A T F g := by
  intro R r s w h1 h2 h3
  exact (h R r s w h1 h2 h3).mono fun e w' ⟨cs, he, h4, h5, h6⟩ => ⟨cs, _, he, h4, h5, fun _ => rfl, h6⟩
set_option maxHeartbeats 2000000 in
theorem dSig_Q : GetsF 74 120 (fun x : Int × Int => [.int .i64 x.1, .int .i64 x.2]) gSig := by
  intro R r s w hR hB
  have HRD := Lib.hid hR
  have HBR := Lib.hid hB
  have HBY := hid hR.bytes
  clear hR hB
  go_enter Try.func120, Try.ntmps120
  go_upto_region 1 with (fail)
  obtain ⟨w1, hw1⟩ : ∃ zz, zz = (w.alloc (.cells #[.int .i64 0, .int .i64 0] 28)) := ⟨_, rfl⟩
  change Code.wp _ _ _ _ (w.alloc (.cells #[.int .i64 0, .int .i64 0] 28))
  rw [← hw1]
  have HB2 := hid (show Cs w1 (w.heap.size) #[.int .i64 0, .int .i64 0] 28 by rw [hw1]; exact Cs.new _ _ _)
  have hm : Mod (fun _ => False) w w1 := by rw [hw1]; exact (Mod.refl _ _).alloc _
  have HM0 := hid (show Mod (fun k => (R k)) w w1 from hm.mono (fun _ _ h => h.elim))
  have hs1 : w1.heap.size = w.heap.size + 1 := by rw [hw1]; simp
  have Hx1 := hid (HRD.out.mod hm (fun _ _ h => h))
  clear HRD
  clear hw1 hm
  go_upto_region 1 with (fail)
  generalize ha0 : Act.mk _ _ = a0
  have oe0 : a0.eval (.tmp 0) = .pointer (some ⟨r, 0, none⟩) := by rw [← ha0]; rfl
  have oe2 : a0.eval (.tmp 2) = .pointer (some ⟨w.heap.size, 0, none⟩) := by rw [← ha0]; rfl
  have hsz0 : a0.tmps.size = 8 := by rw [← ha0]; rfl
  have HA0 := hid ha0
  clear ha0
  refine wp_region_S 8 hsz0 [3, 4, 5, 6, 7, 13] [0, 1, 2, 3, 4, 5] ?_
  refine QSeq.pure rfl (.pointer (some ⟨r, 0, none⟩)) (fun E => ex_move rfl (E.v oe0)) ?_
  refine QSeq.go fun act E => ?_
  refine qc_callF (args := #[.pointer (some ⟨r, 0, none⟩), .int .i64 1099511627776]) rfl (wanted_none rfl) rfl Try.func113 (args2 (E.d 0 0) rfl) (dI_Q Hx1.out) ?_
  rintro e u1_1 ⟨rfl, qrd, hm⟩
  refine ⟨_, rfl, ?_⟩
  have Hx2 := hid qrd
  have zu1_1 := hm.size
  have Cx3 := hid (show Mod (fun k => (R k)) w1 u1_1 from hm)
  clear hm
  clear act E qrd Hx1
  refine QSeq.pure rfl (.pointer (some ⟨r, 0, none⟩)) (fun E => ex_move rfl (E.v oe0)) ?_
  refine QSeq.go fun act E => ?_
  refine qc_callF (args := #[.pointer (some ⟨r, 0, none⟩), .int .i64 1099511627776]) rfl (wanted_none rfl) rfl Try.func113 (args2 (E.d 2 0) rfl) (dI_Q Hx2.out) ?_
  rintro e u1_3 ⟨rfl, qrd, hm⟩
  refine ⟨_, rfl, ?_⟩
  have Hx4 := hid qrd
  have zu1_3 := hm.size
  have HMu1_3 := hid hm
  have Cx5 := hid (Mod.goS (S' := (fun k => (R k))) Cx3.out hm (fun _ h => h) (by intro k h0 h2; exact h2))
  clear hm Cx3
  clear act E qrd Hx2
  refine QSeq.go fun act E => ?_
  refine qc_run rfl (wanted_none rfl) (v := .agg #[.int .i64 (gSig s).1.1, .int .i64 (gSig s).1.2]) (ex_build rfl (z := [.int .i64 0, .int .i64 0]) (places := [(0, 1), (1, 1)]) (by kernel_rfl) (parts := [(0, .int .i64 (gI s).1), (1, .int .i64 (gI (gI s).2).1)]) (by simp only [List.map_toArray, List.map_cons, List.map_nil, show act.eval (.tmp 4) = .int .i64 (gI s).1 from (E.d 1 2), show act.eval (.tmp 6) = .int .i64 (gI (gI s).2).1 from (E.d 3 0)]; try rfl) (r := [.int .i64 (gSig s).1.1, .int .i64 (gSig s).1.2]) (by exact laid_segs (ns := [1, 1]) rfl [(0, .int .i64 (gI s).1), (1, .int .i64 (gI (gI s).2).1)] [[.int .i64 0], [.int .i64 0]] rfl ⟨rfl, rfl, trivial⟩)) ?_
  clear act E
  refine QSeq.go fun act E => ?_
  refine qc_store rfl (wanted_none rfl) rfl (HB2.out.mod Cx5.out (by intro h2; first | omega | (have hb := HBR.out _ h2; omega))) (off := 0) (vs := ([.int .i64 (gSig s).1.1, .int .i64 (gSig s).1.2])) (by kernel_rfl) (by intro u hu; simp at hu; rcases hu with rfl | rfl <;> rfl) (by simp) (E.v oe2) (by rw [show act.eval ((.tmp 7)) = _ from (E.d 4 0)]; rfl) ?_
  intro u1_5 qc0 hm
  have qB2 : Cs u1_5 (w.heap.size) (([.int .i64 (gSig s).1.1, .int .i64 (gSig s).1.2]) : List Value).toArray 28 := by rw [show lay _ 0 _ = (([.int .i64 (gSig s).1.1, .int .i64 (gSig s).1.2]) : List Value).toArray from lay_whole #[.int .i64 0, .int .i64 0] _ rfl] at qc0; exact qc0
  clear qc0
  have Hx6 := hid qB2
  have zu1_5 := hm.size
  have HMu1_5 := hid hm
  have Cx7 := hid (Mod.goS (S' := (fun k => (R k) ∨ (k = w.heap.size))) Cx5.out hm (fun _ h => Or.inl h) (by intro k h0 h2; exact Or.inr (h2)))
  clear hm Cx5
  clear act E qB2 HB2
  have Hx8 := hid (Hx4.out.mod HMu1_5.out (by intro k h1 h2; have hb := HBR.out k h1; omega))
  clear Hx4 HMu1_3 HMu1_5
  refine QSeq.nil (t' := [_, _, _, _, _, _]) rfl ?_
  have ha0 := HA0.out
  subst ha0
  clear HA0 hsz0 oe0 oe2
  simp only [putAll, Act.put, List.setIfInBounds_toArray, List.set_cons_zero, List.set_cons_succ, List.set_nil]
  go_wp2
  exact bodyPost_ret (results_cellA rfl _ _ w.heap.size ([.int .i64 (gSig s).1.1, .int .i64 (gSig s).1.2]) rfl (fun k u hu => by rw [Hx6.out.cell]; simpa using hu) Try.underlying28 rfl (by kernel_rfl)) rfl ⟨rfl, Hx8.out, (HM0.out.trans Cx7.out (by intro k h1 h2; rcases h2 with h2 | h2 <;> first | exact h2 | omega | (have hb := HBR.out k h2; omega)))⟩
set_option maxHeartbeats 2000000 in
theorem dName_Q : GetsF 74 145 (fun x : Int × Int => [.int .i64 x.1, .int .i64 x.2]) gSig := by
  intro R r s w hR hB
  have HRD := Lib.hid hR
  have HBR := Lib.hid hB
  have HBY := hid hR.bytes
  clear hR hB
  go_enter Try.func145, Try.ntmps145
  go_upto_region 1 with (fail)
  obtain ⟨w1, hw1⟩ : ∃ zz, zz = (w.alloc (.cells #[.int .i64 0, .int .i64 0] 23)) := ⟨_, rfl⟩
  change Code.wp _ _ _ _ (w.alloc (.cells #[.int .i64 0, .int .i64 0] 23))
  rw [← hw1]
  have HB2 := hid (show Cs w1 (w.heap.size) #[.int .i64 0, .int .i64 0] 23 by rw [hw1]; exact Cs.new _ _ _)
  have hm : Mod (fun _ => False) w w1 := by rw [hw1]; exact (Mod.refl _ _).alloc _
  have HM0 := hid (show Mod (fun k => (R k)) w w1 from hm.mono (fun _ _ h => h.elim))
  have hs1 : w1.heap.size = w.heap.size + 1 := by rw [hw1]; simp
  have Hx1 := hid (HRD.out.mod hm (fun _ _ h => h))
  clear HRD
  clear hw1 hm
  go_upto_region 1 with (fail)
  generalize ha0 : Act.mk _ _ = a0
  have oe0 : a0.eval (.tmp 0) = .pointer (some ⟨r, 0, none⟩) := by rw [← ha0]; rfl
  have oe2 : a0.eval (.tmp 2) = .pointer (some ⟨w.heap.size, 0, none⟩) := by rw [← ha0]; rfl
  have hsz0 : a0.tmps.size = 8 := by rw [← ha0]; rfl
  have HA0 := hid ha0
  clear ha0
  refine wp_region_S 8 hsz0 [3, 4, 5, 6, 7, 13] [0, 1, 2, 3, 4, 5] ?_
  refine QSeq.pure rfl (.pointer (some ⟨r, 0, none⟩)) (fun E => ex_move rfl (E.v oe0)) ?_
  refine QSeq.go fun act E => ?_
  refine qc_callF (args := #[.pointer (some ⟨r, 0, none⟩), .int .i64 1099511627776]) rfl (wanted_none rfl) rfl Try.func113 (args2 (E.d 0 0) rfl) (dI_Q Hx1.out) ?_
  rintro e u1_1 ⟨rfl, qrd, hm⟩
  refine ⟨_, rfl, ?_⟩
  have Hx2 := hid qrd
  have zu1_1 := hm.size
  have Cx3 := hid (show Mod (fun k => (R k)) w1 u1_1 from hm)
  clear hm
  clear act E qrd Hx1
  refine QSeq.pure rfl (.pointer (some ⟨r, 0, none⟩)) (fun E => ex_move rfl (E.v oe0)) ?_
  refine QSeq.go fun act E => ?_
  refine qc_callF (args := #[.pointer (some ⟨r, 0, none⟩), .int .i64 1099511627776]) rfl (wanted_none rfl) rfl Try.func113 (args2 (E.d 2 0) rfl) (dI_Q Hx2.out) ?_
  rintro e u1_3 ⟨rfl, qrd, hm⟩
  refine ⟨_, rfl, ?_⟩
  have Hx4 := hid qrd
  have zu1_3 := hm.size
  have HMu1_3 := hid hm
  have Cx5 := hid (Mod.goS (S' := (fun k => (R k))) Cx3.out hm (fun _ h => h) (by intro k h0 h2; exact h2))
  clear hm Cx3
  clear act E qrd Hx2
  refine QSeq.go fun act E => ?_
  refine qc_run rfl (wanted_none rfl) (v := .agg #[.int .i64 (gSig s).1.1, .int .i64 (gSig s).1.2]) (ex_build rfl (z := [.int .i64 0, .int .i64 0]) (places := [(0, 1), (1, 1)]) (by kernel_rfl) (parts := [(0, .int .i64 (gI s).1), (1, .int .i64 (gI (gI s).2).1)]) (by simp only [List.map_toArray, List.map_cons, List.map_nil, show act.eval (.tmp 4) = .int .i64 (gI s).1 from (E.d 1 2), show act.eval (.tmp 6) = .int .i64 (gI (gI s).2).1 from (E.d 3 0)]; try rfl) (r := [.int .i64 (gSig s).1.1, .int .i64 (gSig s).1.2]) (by exact laid_segs (ns := [1, 1]) rfl [(0, .int .i64 (gI s).1), (1, .int .i64 (gI (gI s).2).1)] [[.int .i64 0], [.int .i64 0]] rfl ⟨rfl, rfl, trivial⟩)) ?_
  clear act E
  refine QSeq.go fun act E => ?_
  refine qc_store rfl (wanted_none rfl) rfl (HB2.out.mod Cx5.out (by intro h2; first | omega | (have hb := HBR.out _ h2; omega))) (off := 0) (vs := ([.int .i64 (gSig s).1.1, .int .i64 (gSig s).1.2])) (by kernel_rfl) (by intro u hu; simp at hu; rcases hu with rfl | rfl <;> rfl) (by simp) (E.v oe2) (by rw [show act.eval ((.tmp 7)) = _ from (E.d 4 0)]; rfl) ?_
  intro u1_5 qc0 hm
  have qB2 : Cs u1_5 (w.heap.size) (([.int .i64 (gSig s).1.1, .int .i64 (gSig s).1.2]) : List Value).toArray 23 := by rw [show lay _ 0 _ = (([.int .i64 (gSig s).1.1, .int .i64 (gSig s).1.2]) : List Value).toArray from lay_whole #[.int .i64 0, .int .i64 0] _ rfl] at qc0; exact qc0
  clear qc0
  have Hx6 := hid qB2
  have zu1_5 := hm.size
  have HMu1_5 := hid hm
  have Cx7 := hid (Mod.goS (S' := (fun k => (R k) ∨ (k = w.heap.size))) Cx5.out hm (fun _ h => Or.inl h) (by intro k h0 h2; exact Or.inr (h2)))
  clear hm Cx5
  clear act E qB2 HB2
  have Hx8 := hid (Hx4.out.mod HMu1_5.out (by intro k h1 h2; have hb := HBR.out k h1; omega))
  clear Hx4 HMu1_3 HMu1_5
  refine QSeq.nil (t' := [_, _, _, _, _, _]) rfl ?_
  have ha0 := HA0.out
  subst ha0
  clear HA0 hsz0 oe0 oe2
  simp only [putAll, Act.put, List.setIfInBounds_toArray, List.set_cons_zero, List.set_cons_succ, List.set_nil]
  go_wp2
  exact bodyPost_ret (results_cellA rfl _ _ w.heap.size ([.int .i64 (gSig s).1.1, .int .i64 (gSig s).1.2]) rfl (fun k u hu => by rw [Hx6.out.cell]; simpa using hu) Try.underlying23 rfl (by kernel_rfl)) rfl ⟨rfl, Hx8.out, (HM0.out.trans Cx7.out (by intro k h1 h2; rcases h2 with h2 | h2 <;> first | exact h2 | omega | (have hb := HBR.out k h2; omega)))⟩
set_option maxHeartbeats 4000000 in
theorem dCm_Q : GetsF 74 112 Cm.cells gCm := by
  intro R r s w hR hB
  have HRD := Lib.hid hR
  have HBR := Lib.hid hB
  have HBY := hid hR.bytes
  clear hR hB
  go_enter Try.func112, Try.ntmps112
  go_upto_region 1 with (fail)
  obtain ⟨w1, hw1⟩ : ∃ zz, zz = (w.alloc (.cells #[.int .i64 0, .int .i64 0, .int .u8 0, .int .u8 0, .int .u8 0, .int .u8 0, .int .u8 0, .int .u8 0, .int .u8 0, .int .u8 0, .int .u8 0, .int .u8 0, .int .u8 0, .int .u8 0, .int .u8 0, .int .u8 0, .int .u8 0, .int .u8 0, .int .u8 0, .int .u8 0, .int .u8 0, .int .u8 0, .int .u8 0, .int .u8 0, .int .u8 0, .int .u8 0, .int .u8 0, .int .u8 0, .int .u8 0, .int .u8 0, .int .u8 0, .int .u8 0, .int .u8 0, .int .u8 0, .int .i64 0, .int .i64 0, .int .i64 0] 49)) := ⟨_, rfl⟩
  change Code.wp _ _ _ _ (w.alloc (.cells #[.int .i64 0, .int .i64 0, .int .u8 0, .int .u8 0, .int .u8 0, .int .u8 0, .int .u8 0, .int .u8 0, .int .u8 0, .int .u8 0, .int .u8 0, .int .u8 0, .int .u8 0, .int .u8 0, .int .u8 0, .int .u8 0, .int .u8 0, .int .u8 0, .int .u8 0, .int .u8 0, .int .u8 0, .int .u8 0, .int .u8 0, .int .u8 0, .int .u8 0, .int .u8 0, .int .u8 0, .int .u8 0, .int .u8 0, .int .u8 0, .int .u8 0, .int .u8 0, .int .u8 0, .int .u8 0, .int .i64 0, .int .i64 0, .int .i64 0] 49))
  rw [← hw1]
  have HB2 := hid (show Cs w1 (w.heap.size) #[.int .i64 0, .int .i64 0, .int .u8 0, .int .u8 0, .int .u8 0, .int .u8 0, .int .u8 0, .int .u8 0, .int .u8 0, .int .u8 0, .int .u8 0, .int .u8 0, .int .u8 0, .int .u8 0, .int .u8 0, .int .u8 0, .int .u8 0, .int .u8 0, .int .u8 0, .int .u8 0, .int .u8 0, .int .u8 0, .int .u8 0, .int .u8 0, .int .u8 0, .int .u8 0, .int .u8 0, .int .u8 0, .int .u8 0, .int .u8 0, .int .u8 0, .int .u8 0, .int .u8 0, .int .u8 0, .int .i64 0, .int .i64 0, .int .i64 0] 49 by rw [hw1]; exact Cs.new _ _ _)
  have hm : Mod (fun _ => False) w w1 := by rw [hw1]; exact (Mod.refl _ _).alloc _
  have HM0 := hid (show Mod (fun k => (R k)) w w1 from hm.mono (fun _ _ h => h.elim))
  have hs1 : w1.heap.size = w.heap.size + 1 := by rw [hw1]; simp
  have Hx1 := hid (HRD.out.mod hm (fun _ _ h => h))
  clear HRD
  clear hw1 hm
  go_upto_region 1 with (fail)
  generalize ha0 : Act.mk _ _ = a0
  have oe0 : a0.eval (.tmp 0) = .pointer (some ⟨r, 0, none⟩) := by rw [← ha0]; rfl
  have oe2 : a0.eval (.tmp 2) = .pointer (some ⟨w.heap.size, 0, none⟩) := by rw [← ha0]; rfl
  have hsz0 : a0.tmps.size = 12 := by rw [← ha0]; rfl
  have HA0 := hid ha0
  clear ha0
  refine wp_region_S 12 hsz0 [3, 4, 5, 6, 7, 8, 9, 10, 11, 21] [0, 1, 2, 3, 4, 5, 6, 7, 8, 9] ?_
  refine QSeq.pure rfl (.pointer (some ⟨r, 0, none⟩)) (fun E => ex_move rfl (E.v oe0)) ?_
  refine QSeq.go fun act E => ?_
  refine qc_callF (args := #[.pointer (some ⟨r, 0, none⟩)]) rfl (wanted_none rfl) rfl Try.func145 (args1 (E.d 0 0)) (dName_Q _ _ _ _ Hx1.out (by intro k h1; have hb := HBR.out k h1; omega)) ?_
  rintro e u1_1 ⟨rfl, qrd, hm⟩
  refine ⟨_, rfl, ?_⟩
  have Hx2 := hid qrd
  have zu1_1 := hm.size
  have Cx3 := hid (show Mod (fun k => (R k)) w1 u1_1 from hm)
  clear hm
  clear act E qrd Hx1
  refine QSeq.pure rfl (.pointer (some ⟨r, 0, none⟩)) (fun E => ex_move rfl (E.v oe0)) ?_
  refine QSeq.go fun act E => ?_
  refine qc_callF (args := #[.pointer (some ⟨r, 0, none⟩)]) rfl (wanted_none rfl) rfl Try.func146 (args1 (E.d 2 0)) (RefRHash_R Hx2.out) ?_
  rintro e u1_3 ⟨rfl, qrd, hm⟩
  refine ⟨_, rfl, ?_⟩
  have Hx4 := hid qrd
  have zu1_3 := hm.size
  have HMu1_3 := hid hm
  have Cx5 := hid (Mod.goS (S' := (fun k => (R k))) Cx3.out hm (fun _ h => h) (by intro k h0 h2; exact h2))
  clear hm Cx3
  clear act E qrd Hx2
  refine QSeq.pure rfl (.pointer (some ⟨r, 0, none⟩)) (fun E => ex_move rfl (E.v oe0)) ?_
  refine QSeq.go fun act E => ?_
  refine qc_callF (args := #[.pointer (some ⟨r, 0, none⟩), .int .i64 1099511627776]) rfl (wanted_none rfl) rfl Try.func113 (args2 (E.d 4 0) rfl) (dI_Q Hx4.out) ?_
  rintro e u1_5 ⟨rfl, qrd, hm⟩
  refine ⟨_, rfl, ?_⟩
  have Hx6 := hid qrd
  have zu1_5 := hm.size
  have HMu1_5 := hid hm
  have Cx7 := hid (Mod.goS (S' := (fun k => (R k))) Cx5.out hm (fun _ h => h) (by intro k h0 h2; exact h2))
  clear hm Cx5
  clear act E qrd Hx4
  refine QSeq.pure rfl (.pointer (some ⟨r, 0, none⟩)) (fun E => ex_move rfl (E.v oe0)) ?_
  refine QSeq.go fun act E => ?_
  refine qc_callF (args := #[.pointer (some ⟨r, 0, none⟩)]) rfl (wanted_none rfl) rfl Try.func120 (args1 (E.d 6 0)) (dSig_Q _ _ _ _ Hx6.out (by intro k h1; have hb := HBR.out k h1; omega)) ?_
  rintro e u1_7 ⟨rfl, qrd, hm⟩
  refine ⟨_, rfl, ?_⟩
  have Hx8 := hid qrd
  have zu1_7 := hm.size
  have HMu1_7 := hid hm
  have Cx9 := hid (Mod.goS (S' := (fun k => (R k))) Cx7.out hm (fun _ h => h) (by intro k h0 h2; exact h2))
  clear hm Cx7
  clear act E qrd Hx6
  refine QSeq.go fun act E => ?_
  refine qc_run rfl (wanted_none rfl) (v := .agg ((gCm s).1.cells : List Value).toArray) (ex_build rfl (z := [.int .i64 0, .int .i64 0, .int .u8 0, .int .u8 0, .int .u8 0, .int .u8 0, .int .u8 0, .int .u8 0, .int .u8 0, .int .u8 0, .int .u8 0, .int .u8 0, .int .u8 0, .int .u8 0, .int .u8 0, .int .u8 0, .int .u8 0, .int .u8 0, .int .u8 0, .int .u8 0, .int .u8 0, .int .u8 0, .int .u8 0, .int .u8 0, .int .u8 0, .int .u8 0, .int .u8 0, .int .u8 0, .int .u8 0, .int .u8 0, .int .u8 0, .int .u8 0, .int .u8 0, .int .u8 0, .int .i64 0, .int .i64 0, .int .i64 0]) (places := [(0, 2), (2, 32), (34, 1), (35, 2)]) (by kernel_rfl) (parts := [(0, .agg #[.int .i64 (gSig s).1.1, .int .i64 (gSig s).1.2]), (1, hv (rHash (gSig s).2).1), (2, .int .i64 (gI (rHash (gSig s).2).2).1), (3, .agg #[.int .i64 (gSig (gI (rHash (gSig s).2).2).2).1.1, .int .i64 (gSig (gI (rHash (gSig s).2).2).2).1.2])]) (by simp only [List.map_toArray, List.map_cons, List.map_nil, show act.eval (.tmp 4) = .agg #[.int .i64 (gSig s).1.1, .int .i64 (gSig s).1.2] from (E.d 1 6), show act.eval (.tmp 6) = hv (rHash (gSig s).2).1 from (E.d 3 4), show act.eval (.tmp 8) = .int .i64 (gI (rHash (gSig s).2).2).1 from (E.d 5 2), show act.eval (.tmp 10) = .agg #[.int .i64 (gSig (gI (rHash (gSig s).2).2).2).1.1, .int .i64 (gSig (gI (rHash (gSig s).2).2).2).1.2] from (E.d 7 0)]; try rfl) (r := (gCm s).1.cells) (by exact laid_segs (ns := [2, 32, 1, 2]) rfl [(0, .agg #[.int .i64 (gSig s).1.1, .int .i64 (gSig s).1.2]), (1, hv (rHash (gSig s).2).1), (2, .int .i64 (gI (rHash (gSig s).2).2).1), (3, .agg #[.int .i64 (gSig (gI (rHash (gSig s).2).2).2).1.1, .int .i64 (gSig (gI (rHash (gSig s).2).2).2).1.2])] [[.int .i64 0, .int .i64 0], [.int .u8 0, .int .u8 0, .int .u8 0, .int .u8 0, .int .u8 0, .int .u8 0, .int .u8 0, .int .u8 0, .int .u8 0, .int .u8 0, .int .u8 0, .int .u8 0, .int .u8 0, .int .u8 0, .int .u8 0, .int .u8 0, .int .u8 0, .int .u8 0, .int .u8 0, .int .u8 0, .int .u8 0, .int .u8 0, .int .u8 0, .int .u8 0, .int .u8 0, .int .u8 0, .int .u8 0, .int .u8 0, .int .u8 0, .int .u8 0, .int .u8 0, .int .u8 0], [.int .i64 0], [.int .i64 0, .int .i64 0]] rfl ⟨rfl, (szv (by rw [List.length_map]; exact rHash_l _)), rfl, rfl, trivial⟩)) ?_
  clear act E
  refine QSeq.go fun act E => ?_
  refine qc_store rfl (wanted_none rfl) rfl (HB2.out.mod Cx9.out (by intro h2; first | omega | (have hb := HBR.out _ h2; omega))) (off := 0) (vs := ((gCm s).1.cells)) (by rw [show ((gCm s).1.cells).length = _ from (Cm.len (rHash_HK (gSig_suf.bytes HBY.out)).1)]; kernel_rfl) (Cm_one _) (by rw [show ((gCm s).1.cells).length = _ from (Cm.len (rHash_HK (gSig_suf.bytes HBY.out)).1)]; decide) (E.v oe2) (by rw [show act.eval ((.tmp 11)) = _ from (E.d 8 0)]; rfl) ?_
  intro u1_9 qc0 hm
  have qB2 : Cs u1_9 (w.heap.size) (((gCm s).1.cells) : List Value).toArray 49 := by rw [show lay _ 0 _ = (((gCm s).1.cells) : List Value).toArray from lay_whole _ _ (by rw [show ((gCm s).1.cells).length = _ from (Cm.len (rHash_HK (gSig_suf.bytes HBY.out)).1)]; rfl)] at qc0; exact qc0
  clear qc0
  have Hx10 := hid qB2
  have zu1_9 := hm.size
  have HMu1_9 := hid hm
  have Cx11 := hid (Mod.goS (S' := (fun k => (R k) ∨ (k = w.heap.size))) Cx9.out hm (fun _ h => Or.inl h) (by intro k h0 h2; exact Or.inr (h2)))
  clear hm Cx9
  clear act E qB2 HB2
  have Hx12 := hid (Hx8.out.mod HMu1_9.out (by intro k h1 h2; have hb := HBR.out k h1; omega))
  clear Hx8 HMu1_3 HMu1_5 HMu1_7 HMu1_9
  refine QSeq.nil (t' := [_, _, _, _, _, _, _, _, _, _]) rfl ?_
  have ha0 := HA0.out
  subst ha0
  clear HA0 hsz0 oe0 oe2
  simp only [putAll, Act.put, List.setIfInBounds_toArray, List.set_cons_zero, List.set_cons_succ, List.set_nil]
  go_wp2
  exact bodyPost_ret (results_cellA rfl _ _ w.heap.size ((gCm s).1.cells) rfl (fun k u hu => by rw [Hx10.out.cell]; simpa using hu) Try.underlying49 rfl (by rw [show ((gCm s).1.cells).length = _ from (Cm.len (rHash_HK (gSig_suf.bytes HBY.out)).1)]; kernel_rfl)) rfl ⟨rfl, Hx12.out, (HM0.out.trans Cx11.out (by intro k h1 h2; rcases h2 with h2 | h2 <;> first | exact h2 | omega | (have hb := HBR.out k h2; omega)))⟩
set_option maxHeartbeats 4000000 in
theorem dSt_Q : GetsF 74 114 St.cells gSt := by
  intro R r s w hR hB
  have HRD := Lib.hid hR
  have HBR := Lib.hid hB
  have HBY := hid hR.bytes
  clear hR hB
  go_enter Try.func114, Try.ntmps114
  go_upto_region 1 with (fail)
  obtain ⟨w1, hw1⟩ : ∃ zz, zz = (w.alloc (.cells #[.int .i64 0, .int .i64 0, .int .i64 0, .int .u8 0, .int .u8 0, .int .u8 0, .int .u8 0, .int .u8 0, .int .u8 0, .int .u8 0, .int .u8 0, .int .u8 0, .int .u8 0, .int .u8 0, .int .u8 0, .int .u8 0, .int .u8 0, .int .u8 0, .int .u8 0, .int .u8 0, .int .u8 0, .int .u8 0, .int .u8 0, .int .u8 0, .int .u8 0, .int .u8 0, .int .u8 0, .int .u8 0, .int .u8 0, .int .u8 0, .int .u8 0, .int .u8 0, .int .u8 0, .int .u8 0, .int .u8 0, .int .u64 0, .int .i64 0, .int .i64 0] 30)) := ⟨_, rfl⟩
  change Code.wp _ _ _ _ (w.alloc (.cells #[.int .i64 0, .int .i64 0, .int .i64 0, .int .u8 0, .int .u8 0, .int .u8 0, .int .u8 0, .int .u8 0, .int .u8 0, .int .u8 0, .int .u8 0, .int .u8 0, .int .u8 0, .int .u8 0, .int .u8 0, .int .u8 0, .int .u8 0, .int .u8 0, .int .u8 0, .int .u8 0, .int .u8 0, .int .u8 0, .int .u8 0, .int .u8 0, .int .u8 0, .int .u8 0, .int .u8 0, .int .u8 0, .int .u8 0, .int .u8 0, .int .u8 0, .int .u8 0, .int .u8 0, .int .u8 0, .int .u8 0, .int .u64 0, .int .i64 0, .int .i64 0] 30))
  rw [← hw1]
  have HB2 := hid (show Cs w1 (w.heap.size) #[.int .i64 0, .int .i64 0, .int .i64 0, .int .u8 0, .int .u8 0, .int .u8 0, .int .u8 0, .int .u8 0, .int .u8 0, .int .u8 0, .int .u8 0, .int .u8 0, .int .u8 0, .int .u8 0, .int .u8 0, .int .u8 0, .int .u8 0, .int .u8 0, .int .u8 0, .int .u8 0, .int .u8 0, .int .u8 0, .int .u8 0, .int .u8 0, .int .u8 0, .int .u8 0, .int .u8 0, .int .u8 0, .int .u8 0, .int .u8 0, .int .u8 0, .int .u8 0, .int .u8 0, .int .u8 0, .int .u8 0, .int .u64 0, .int .i64 0, .int .i64 0] 30 by rw [hw1]; exact Cs.new _ _ _)
  have hm : Mod (fun _ => False) w w1 := by rw [hw1]; exact (Mod.refl _ _).alloc _
  have HM0 := hid (show Mod (fun k => (R k)) w w1 from hm.mono (fun _ _ h => h.elim))
  have hs1 : w1.heap.size = w.heap.size + 1 := by rw [hw1]; simp
  have Hx1 := hid (HRD.out.mod hm (fun _ _ h => h))
  clear HRD
  clear hw1 hm
  go_upto_region 1 with (fail)
  generalize ha0 : Act.mk _ _ = a0
  have oe0 : a0.eval (.tmp 0) = .pointer (some ⟨r, 0, none⟩) := by rw [← ha0]; rfl
  have oe2 : a0.eval (.tmp 2) = .pointer (some ⟨w.heap.size, 0, none⟩) := by rw [← ha0]; rfl
  have hsz0 : a0.tmps.size = 14 := by rw [← ha0]; rfl
  have HA0 := hid ha0
  clear ha0
  refine wp_region_S 14 hsz0 [3, 4, 5, 6, 7, 8, 9, 10, 11, 12, 13, 25] [0, 1, 2, 3, 4, 5, 6, 7, 8, 9, 10, 11] ?_
  refine QSeq.pure rfl (.pointer (some ⟨r, 0, none⟩)) (fun E => ex_move rfl (E.v oe0)) ?_
  refine QSeq.go fun act E => ?_
  refine qc_callF (args := #[.pointer (some ⟨r, 0, none⟩), .int .i64 1099511627776]) rfl (wanted_none rfl) rfl Try.func113 (args2 (E.d 0 0) rfl) (dI_Q Hx1.out) ?_
  rintro e u1_1 ⟨rfl, qrd, hm⟩
  refine ⟨_, rfl, ?_⟩
  have Hx2 := hid qrd
  have zu1_1 := hm.size
  have Cx3 := hid (show Mod (fun k => (R k)) w1 u1_1 from hm)
  clear hm
  clear act E qrd Hx1
  refine QSeq.pure rfl (.pointer (some ⟨r, 0, none⟩)) (fun E => ex_move rfl (E.v oe0)) ?_
  refine QSeq.go fun act E => ?_
  refine qc_callF (args := #[.pointer (some ⟨r, 0, none⟩)]) rfl (wanted_none rfl) rfl Try.func145 (args1 (E.d 2 0)) (dName_Q _ _ _ _ Hx2.out (by intro k h1; have hb := HBR.out k h1; omega)) ?_
  rintro e u1_3 ⟨rfl, qrd, hm⟩
  refine ⟨_, rfl, ?_⟩
  have Hx4 := hid qrd
  have zu1_3 := hm.size
  have HMu1_3 := hid hm
  have Cx5 := hid (Mod.goS (S' := (fun k => (R k))) Cx3.out hm (fun _ h => h) (by intro k h0 h2; exact h2))
  clear hm Cx3
  clear act E qrd Hx2
  refine QSeq.pure rfl (.pointer (some ⟨r, 0, none⟩)) (fun E => ex_move rfl (E.v oe0)) ?_
  refine QSeq.go fun act E => ?_
  refine qc_callF (args := #[.pointer (some ⟨r, 0, none⟩)]) rfl (wanted_none rfl) rfl Try.func146 (args1 (E.d 4 0)) (RefRHash_R Hx4.out) ?_
  rintro e u1_5 ⟨rfl, qrd, hm⟩
  refine ⟨_, rfl, ?_⟩
  have Hx6 := hid qrd
  have zu1_5 := hm.size
  have HMu1_5 := hid hm
  have Cx7 := hid (Mod.goS (S' := (fun k => (R k))) Cx5.out hm (fun _ h => h) (by intro k h0 h2; exact h2))
  clear hm Cx5
  clear act E qrd Hx4
  refine QSeq.pure rfl (.pointer (some ⟨r, 0, none⟩)) (fun E => ex_move rfl (E.v oe0)) ?_
  refine QSeq.go fun act E => ?_
  refine qc_callF (args := #[.pointer (some ⟨r, 0, none⟩)]) rfl (wanted_none rfl) rfl Try.func119 (args1 (E.d 6 0)) (RefRNum_R Hx6.out) ?_
  rintro e u1_7 ⟨rfl, qrd, hm⟩
  refine ⟨_, rfl, ?_⟩
  have Hx8 := hid qrd
  have zu1_7 := hm.size
  have HMu1_7 := hid hm
  have Cx9 := hid (Mod.goS (S' := (fun k => (R k))) Cx7.out hm (fun _ h => h) (by intro k h0 h2; exact h2))
  clear hm Cx7
  clear act E qrd Hx6
  refine QSeq.pure rfl (.pointer (some ⟨r, 0, none⟩)) (fun E => ex_move rfl (E.v oe0)) ?_
  refine QSeq.go fun act E => ?_
  refine qc_callF (args := #[.pointer (some ⟨r, 0, none⟩)]) rfl (wanted_none rfl) rfl Try.func120 (args1 (E.d 8 0)) (dSig_Q _ _ _ _ Hx8.out (by intro k h1; have hb := HBR.out k h1; omega)) ?_
  rintro e u1_9 ⟨rfl, qrd, hm⟩
  refine ⟨_, rfl, ?_⟩
  have Hx10 := hid qrd
  have zu1_9 := hm.size
  have HMu1_9 := hid hm
  have Cx11 := hid (Mod.goS (S' := (fun k => (R k))) Cx9.out hm (fun _ h => h) (by intro k h0 h2; exact h2))
  clear hm Cx9
  clear act E qrd Hx8
  refine QSeq.go fun act E => ?_
  refine qc_run rfl (wanted_none rfl) (v := .agg ((gSt s).1.cells : List Value).toArray) (ex_build rfl (z := [.int .i64 0, .int .i64 0, .int .i64 0, .int .u8 0, .int .u8 0, .int .u8 0, .int .u8 0, .int .u8 0, .int .u8 0, .int .u8 0, .int .u8 0, .int .u8 0, .int .u8 0, .int .u8 0, .int .u8 0, .int .u8 0, .int .u8 0, .int .u8 0, .int .u8 0, .int .u8 0, .int .u8 0, .int .u8 0, .int .u8 0, .int .u8 0, .int .u8 0, .int .u8 0, .int .u8 0, .int .u8 0, .int .u8 0, .int .u8 0, .int .u8 0, .int .u8 0, .int .u8 0, .int .u8 0, .int .u8 0, .int .u64 0, .int .i64 0, .int .i64 0]) (places := [(0, 1), (1, 2), (3, 32), (35, 1), (36, 2)]) (by kernel_rfl) (parts := [(0, .int .i64 (gI s).1), (1, .agg #[.int .i64 (gSig (gI s).2).1.1, .int .i64 (gSig (gI s).2).1.2]), (2, hv (rHash (gSig (gI s).2).2).1), (3, .int .u64 ((rNum (rHash (gSig (gI s).2).2).2).1 : Nat)), (4, .agg #[.int .i64 (gSig (rNum (rHash (gSig (gI s).2).2).2).2).1.1, .int .i64 (gSig (rNum (rHash (gSig (gI s).2).2).2).2).1.2])]) (by simp only [List.map_toArray, List.map_cons, List.map_nil, show act.eval (.tmp 4) = .int .i64 (gI s).1 from (E.d 1 8), show act.eval (.tmp 6) = .agg #[.int .i64 (gSig (gI s).2).1.1, .int .i64 (gSig (gI s).2).1.2] from (E.d 3 6), show act.eval (.tmp 8) = hv (rHash (gSig (gI s).2).2).1 from (E.d 5 4), show act.eval (.tmp 10) = .int .u64 ((rNum (rHash (gSig (gI s).2).2).2).1 : Nat) from (E.d 7 2), show act.eval (.tmp 12) = .agg #[.int .i64 (gSig (rNum (rHash (gSig (gI s).2).2).2).2).1.1, .int .i64 (gSig (rNum (rHash (gSig (gI s).2).2).2).2).1.2] from (E.d 9 0)]; try rfl) (r := (gSt s).1.cells) (by exact laid_segs (ns := [1, 2, 32, 1, 2]) rfl [(0, .int .i64 (gI s).1), (1, .agg #[.int .i64 (gSig (gI s).2).1.1, .int .i64 (gSig (gI s).2).1.2]), (2, hv (rHash (gSig (gI s).2).2).1), (3, .int .u64 ((rNum (rHash (gSig (gI s).2).2).2).1 : Nat)), (4, .agg #[.int .i64 (gSig (rNum (rHash (gSig (gI s).2).2).2).2).1.1, .int .i64 (gSig (rNum (rHash (gSig (gI s).2).2).2).2).1.2])] [[.int .i64 0], [.int .i64 0, .int .i64 0], [.int .u8 0, .int .u8 0, .int .u8 0, .int .u8 0, .int .u8 0, .int .u8 0, .int .u8 0, .int .u8 0, .int .u8 0, .int .u8 0, .int .u8 0, .int .u8 0, .int .u8 0, .int .u8 0, .int .u8 0, .int .u8 0, .int .u8 0, .int .u8 0, .int .u8 0, .int .u8 0, .int .u8 0, .int .u8 0, .int .u8 0, .int .u8 0, .int .u8 0, .int .u8 0, .int .u8 0, .int .u8 0, .int .u8 0, .int .u8 0, .int .u8 0, .int .u8 0], [.int .u64 0], [.int .i64 0, .int .i64 0]] rfl ⟨rfl, rfl, (szv (by rw [List.length_map]; exact rHash_l _)), rfl, rfl, trivial⟩)) ?_
  clear act E
  refine QSeq.go fun act E => ?_
  refine qc_store rfl (wanted_none rfl) rfl (HB2.out.mod Cx11.out (by intro h2; first | omega | (have hb := HBR.out _ h2; omega))) (off := 0) (vs := ((gSt s).1.cells)) (by rw [show ((gSt s).1.cells).length = _ from (St.len (gSt_OK HBY.out))]; kernel_rfl) (St.one _) (by rw [show ((gSt s).1.cells).length = _ from (St.len (gSt_OK HBY.out))]; decide) (E.v oe2) (by rw [show act.eval ((.tmp 13)) = _ from (E.d 10 0)]; rfl) ?_
  intro u1_11 qc0 hm
  have qB2 : Cs u1_11 (w.heap.size) (((gSt s).1.cells) : List Value).toArray 30 := by rw [show lay _ 0 _ = (((gSt s).1.cells) : List Value).toArray from lay_whole _ _ (by rw [show ((gSt s).1.cells).length = _ from (St.len (gSt_OK HBY.out))]; rfl)] at qc0; exact qc0
  clear qc0
  have Hx12 := hid qB2
  have zu1_11 := hm.size
  have HMu1_11 := hid hm
  have Cx13 := hid (Mod.goS (S' := (fun k => (R k) ∨ (k = w.heap.size))) Cx11.out hm (fun _ h => Or.inl h) (by intro k h0 h2; exact Or.inr (h2)))
  clear hm Cx11
  clear act E qB2 HB2
  have Hx14 := hid (Hx10.out.mod HMu1_11.out (by intro k h1 h2; have hb := HBR.out k h1; omega))
  clear Hx10 HMu1_3 HMu1_5 HMu1_7 HMu1_9 HMu1_11
  refine QSeq.nil (t' := [_, _, _, _, _, _, _, _, _, _, _, _]) rfl ?_
  have ha0 := HA0.out
  subst ha0
  clear HA0 hsz0 oe0 oe2
  simp only [putAll, Act.put, List.setIfInBounds_toArray, List.set_cons_zero, List.set_cons_succ, List.set_nil]
  go_wp2
  exact bodyPost_ret (results_cellA rfl _ _ w.heap.size ((gSt s).1.cells) rfl (fun k u hu => by rw [Hx12.out.cell]; simpa using hu) Try.underlying30 rfl (by rw [show ((gSt s).1.cells).length = _ from (St.len (gSt_OK HBY.out))]; kernel_rfl)) rfl ⟨rfl, Hx14.out, (HM0.out.trans Cx13.out (by intro k h1 h2; rcases h2 with h2 | h2 <;> first | exact h2 | omega | (have hb := HBR.out k h2; omega)))⟩
theorem dSt_G : Gets StR 74 114 gSt := GetsF.to (A := StR) dSt_Q fun _ _ _ hb => ⟨rfl, gSt_OK hb⟩
set_option maxHeartbeats 4000000 in
theorem dDn_Q : GetsF 74 129 Dn.cells gDn := by
  intro R r s w hR hB
  have HRD := Lib.hid hR
  have HBR := Lib.hid hB
  have HBY := hid hR.bytes
  clear hR hB
  go_enter Try.func129, Try.ntmps129
  go_upto_region 1 with (fail)
  obtain ⟨w1, hw1⟩ : ∃ zz, zz = (w.alloc (.cells #[.int .i64 0, .int .i64 0, .int .i64 0, .int .i64 0] 34)) := ⟨_, rfl⟩
  change Code.wp _ _ _ _ (w.alloc (.cells #[.int .i64 0, .int .i64 0, .int .i64 0, .int .i64 0] 34))
  rw [← hw1]
  have HB2 := hid (show Cs w1 (w.heap.size) #[.int .i64 0, .int .i64 0, .int .i64 0, .int .i64 0] 34 by rw [hw1]; exact Cs.new _ _ _)
  have hm : Mod (fun _ => False) w w1 := by rw [hw1]; exact (Mod.refl _ _).alloc _
  have HM0 := hid (show Mod (fun k => (R k)) w w1 from hm.mono (fun _ _ h => h.elim))
  have hs1 : w1.heap.size = w.heap.size + 1 := by rw [hw1]; simp
  have Hx1 := hid (HRD.out.mod hm (fun _ _ h => h))
  clear HRD
  clear hw1 hm
  go_upto_region 1 with (fail)
  generalize ha0 : Act.mk _ _ = a0
  have oe0 : a0.eval (.tmp 0) = .pointer (some ⟨r, 0, none⟩) := by rw [← ha0]; rfl
  have oe2 : a0.eval (.tmp 2) = .pointer (some ⟨w.heap.size, 0, none⟩) := by rw [← ha0]; rfl
  have hsz0 : a0.tmps.size = 10 := by rw [← ha0]; rfl
  have HA0 := hid ha0
  clear ha0
  refine wp_region_S 10 hsz0 [3, 4, 5, 6, 7, 8, 9, 17] [0, 1, 2, 3, 4, 5, 6, 7] ?_
  refine QSeq.pure rfl (.pointer (some ⟨r, 0, none⟩)) (fun E => ex_move rfl (E.v oe0)) ?_
  refine QSeq.go fun act E => ?_
  refine qc_callF (args := #[.pointer (some ⟨r, 0, none⟩), .int .i64 1099511627776]) rfl (wanted_none rfl) rfl Try.func113 (args2 (E.d 0 0) rfl) (dI_Q Hx1.out) ?_
  rintro e u1_1 ⟨rfl, qrd, hm⟩
  refine ⟨_, rfl, ?_⟩
  have Hx2 := hid qrd
  have zu1_1 := hm.size
  have Cx3 := hid (show Mod (fun k => (R k)) w1 u1_1 from hm)
  clear hm
  clear act E qrd Hx1
  refine QSeq.pure rfl (.pointer (some ⟨r, 0, none⟩)) (fun E => ex_move rfl (E.v oe0)) ?_
  refine QSeq.go fun act E => ?_
  refine qc_callF (args := #[.pointer (some ⟨r, 0, none⟩), .int .i64 1099511627776]) rfl (wanted_none rfl) rfl Try.func113 (args2 (E.d 2 0) rfl) (dI_Q Hx2.out) ?_
  rintro e u1_3 ⟨rfl, qrd, hm⟩
  refine ⟨_, rfl, ?_⟩
  have Hx4 := hid qrd
  have zu1_3 := hm.size
  have HMu1_3 := hid hm
  have Cx5 := hid (Mod.goS (S' := (fun k => (R k))) Cx3.out hm (fun _ h => h) (by intro k h0 h2; exact h2))
  clear hm Cx3
  clear act E qrd Hx2
  refine QSeq.pure rfl (.pointer (some ⟨r, 0, none⟩)) (fun E => ex_move rfl (E.v oe0)) ?_
  refine QSeq.go fun act E => ?_
  refine qc_callF (args := #[.pointer (some ⟨r, 0, none⟩)]) rfl (wanted_none rfl) rfl Try.func120 (args1 (E.d 4 0)) (dSig_Q _ _ _ _ Hx4.out (by intro k h1; have hb := HBR.out k h1; omega)) ?_
  rintro e u1_5 ⟨rfl, qrd, hm⟩
  refine ⟨_, rfl, ?_⟩
  have Hx6 := hid qrd
  have zu1_5 := hm.size
  have HMu1_5 := hid hm
  have Cx7 := hid (Mod.goS (S' := (fun k => (R k))) Cx5.out hm (fun _ h => h) (by intro k h0 h2; exact h2))
  clear hm Cx5
  clear act E qrd Hx4
  refine QSeq.go fun act E => ?_
  refine qc_run rfl (wanted_none rfl) (v := .agg ((gDn s).1.cells : List Value).toArray) (ex_build rfl (z := [.int .i64 0, .int .i64 0, .int .i64 0, .int .i64 0]) (places := [(0, 1), (1, 1), (2, 2)]) (by kernel_rfl) (parts := [(0, .int .i64 (gI s).1), (1, .int .i64 (gI (gI s).2).1), (2, .agg #[.int .i64 (gSig (gI (gI s).2).2).1.1, .int .i64 (gSig (gI (gI s).2).2).1.2])]) (by simp only [List.map_toArray, List.map_cons, List.map_nil, show act.eval (.tmp 4) = .int .i64 (gI s).1 from (E.d 1 4), show act.eval (.tmp 6) = .int .i64 (gI (gI s).2).1 from (E.d 3 2), show act.eval (.tmp 8) = .agg #[.int .i64 (gSig (gI (gI s).2).2).1.1, .int .i64 (gSig (gI (gI s).2).2).1.2] from (E.d 5 0)]; try rfl) (r := (gDn s).1.cells) (by exact laid_segs (ns := [1, 1, 2]) rfl [(0, .int .i64 (gI s).1), (1, .int .i64 (gI (gI s).2).1), (2, .agg #[.int .i64 (gSig (gI (gI s).2).2).1.1, .int .i64 (gSig (gI (gI s).2).2).1.2])] [[.int .i64 0], [.int .i64 0], [.int .i64 0, .int .i64 0]] rfl ⟨rfl, rfl, rfl, trivial⟩)) ?_
  clear act E
  refine QSeq.go fun act E => ?_
  refine qc_store rfl (wanted_none rfl) rfl (HB2.out.mod Cx7.out (by intro h2; first | omega | (have hb := HBR.out _ h2; omega))) (off := 0) (vs := ((gDn s).1.cells)) (by rw [show ((gDn s).1.cells).length = _ from (Dn.len (gDn_OK HBY.out))]; kernel_rfl) (Dn.one _) (by rw [show ((gDn s).1.cells).length = _ from (Dn.len (gDn_OK HBY.out))]; decide) (E.v oe2) (by rw [show act.eval ((.tmp 9)) = _ from (E.d 6 0)]; rfl) ?_
  intro u1_7 qc0 hm
  have qB2 : Cs u1_7 (w.heap.size) (((gDn s).1.cells) : List Value).toArray 34 := by rw [show lay _ 0 _ = (((gDn s).1.cells) : List Value).toArray from lay_whole _ _ (by rw [show ((gDn s).1.cells).length = _ from (Dn.len (gDn_OK HBY.out))]; rfl)] at qc0; exact qc0
  clear qc0
  have Hx8 := hid qB2
  have zu1_7 := hm.size
  have HMu1_7 := hid hm
  have Cx9 := hid (Mod.goS (S' := (fun k => (R k) ∨ (k = w.heap.size))) Cx7.out hm (fun _ h => Or.inl h) (by intro k h0 h2; exact Or.inr (h2)))
  clear hm Cx7
  clear act E qB2 HB2
  have Hx10 := hid (Hx6.out.mod HMu1_7.out (by intro k h1 h2; have hb := HBR.out k h1; omega))
  clear Hx6 HMu1_3 HMu1_5 HMu1_7
  refine QSeq.nil (t' := [_, _, _, _, _, _, _, _]) rfl ?_
  have ha0 := HA0.out
  subst ha0
  clear HA0 hsz0 oe0 oe2
  simp only [putAll, Act.put, List.setIfInBounds_toArray, List.set_cons_zero, List.set_cons_succ, List.set_nil]
  go_wp2
  exact bodyPost_ret (results_cellA rfl _ _ w.heap.size ((gDn s).1.cells) rfl (fun k u hu => by rw [Hx8.out.cell]; simpa using hu) Try.underlying34 rfl (by rw [show ((gDn s).1.cells).length = _ from (Dn.len (gDn_OK HBY.out))]; kernel_rfl)) rfl ⟨rfl, Hx10.out, (HM0.out.trans Cx9.out (by intro k h1 h2; rcases h2 with h2 | h2 <;> first | exact h2 | omega | (have hb := HBR.out k h2; omega)))⟩
theorem dDn_G : Gets DnR 74 129 gDn := GetsF.to (A := DnR) dDn_Q fun _ _ _ hb => ⟨rfl, gDn_OK hb⟩
set_option maxHeartbeats 4000000 in
theorem dOp_G : Gets OpR 74 128 gOp := by
  intro R r s w hR hB hl
  have HRD := Lib.hid hR
  have HBR := Lib.hid hB
  have HBY := hid hR.bytes
  clear hR hB
  have HLN := Lib.hid hl
  clear hl
  go_enter Try.func128, Try.ntmps128
  go_upto_region 1 with (fail)
  obtain ⟨w1, hw1⟩ : ∃ zz, zz = (w.alloc (.cells #[.int .i64 0, .slice none 0 0, .int .u8 0, .int .u8 0, .int .u8 0, .int .u8 0, .int .u8 0, .int .u8 0, .int .u8 0, .int .u8 0, .int .u8 0, .int .u8 0, .int .u8 0, .int .u8 0, .int .u8 0, .int .u8 0, .int .u8 0, .int .u8 0, .int .u8 0, .int .u8 0, .int .u8 0, .int .u8 0, .int .u8 0, .int .u8 0, .int .u8 0, .int .u8 0, .int .u8 0, .int .u8 0, .int .u8 0, .int .u8 0, .int .u8 0, .int .u8 0, .int .u8 0, .int .u8 0] 87)) := ⟨_, rfl⟩
  change Code.wp _ _ _ _ (w.alloc (.cells #[.int .i64 0, .slice none 0 0, .int .u8 0, .int .u8 0, .int .u8 0, .int .u8 0, .int .u8 0, .int .u8 0, .int .u8 0, .int .u8 0, .int .u8 0, .int .u8 0, .int .u8 0, .int .u8 0, .int .u8 0, .int .u8 0, .int .u8 0, .int .u8 0, .int .u8 0, .int .u8 0, .int .u8 0, .int .u8 0, .int .u8 0, .int .u8 0, .int .u8 0, .int .u8 0, .int .u8 0, .int .u8 0, .int .u8 0, .int .u8 0, .int .u8 0, .int .u8 0, .int .u8 0, .int .u8 0] 87))
  rw [← hw1]
  have HB2 := hid (show Cs w1 (w.heap.size) #[.int .i64 0, .slice none 0 0, .int .u8 0, .int .u8 0, .int .u8 0, .int .u8 0, .int .u8 0, .int .u8 0, .int .u8 0, .int .u8 0, .int .u8 0, .int .u8 0, .int .u8 0, .int .u8 0, .int .u8 0, .int .u8 0, .int .u8 0, .int .u8 0, .int .u8 0, .int .u8 0, .int .u8 0, .int .u8 0, .int .u8 0, .int .u8 0, .int .u8 0, .int .u8 0, .int .u8 0, .int .u8 0, .int .u8 0, .int .u8 0, .int .u8 0, .int .u8 0, .int .u8 0, .int .u8 0] 87 by rw [hw1]; exact Cs.new _ _ _)
  have hm : Mod (fun _ => False) w w1 := by rw [hw1]; exact (Mod.refl _ _).alloc _
  have HM0 := hid (show Mod (fun k => (R k)) w w1 from hm.mono (fun _ _ h => h.elim))
  have hs1 : w1.heap.size = w.heap.size + 1 := by rw [hw1]; simp
  have Hx1 := hid (HRD.out.mod hm (fun _ _ h => h))
  clear HRD
  clear hw1 hm
  go_upto_region 1 with (fail)
  generalize ha0 : Act.mk _ _ = a0
  have oe0 : a0.eval (.tmp 0) = .pointer (some ⟨r, 0, none⟩) := by rw [← ha0]; rfl
  have oe2 : a0.eval (.tmp 2) = .pointer (some ⟨w.heap.size, 0, none⟩) := by rw [← ha0]; rfl
  have hsz0 : a0.tmps.size = 10 := by rw [← ha0]; rfl
  have HA0 := hid ha0
  clear ha0
  refine wp_region_S 10 hsz0 [3, 4, 5, 6, 7, 8, 9, 17] [0, 1, 2, 3, 4, 5, 6, 7] ?_
  refine QSeq.pure rfl (.pointer (some ⟨r, 0, none⟩)) (fun E => ex_move rfl (E.v oe0)) ?_
  refine QSeq.go fun act E => ?_
  refine qc_callF (args := #[.pointer (some ⟨r, 0, none⟩), .int .i64 1099511627776]) rfl (wanted_none rfl) rfl Try.func113 (args2 (E.d 0 0) rfl) (dI_Q Hx1.out) ?_
  rintro e u1_1 ⟨rfl, qrd, hm⟩
  refine ⟨_, rfl, ?_⟩
  have Hx2 := hid qrd
  have zu1_1 := hm.size
  have Cx3 := hid (show Mod (fun k => (R k)) w1 u1_1 from hm)
  clear hm
  clear act E qrd Hx1
  refine QSeq.pure rfl (.pointer (some ⟨r, 0, none⟩)) (fun E => ex_move rfl (E.v oe0)) ?_
  refine QSeq.go fun act E => ?_
  refine qc_callF (args := #[.pointer (some ⟨r, 0, none⟩), .int .i64 256]) rfl (wanted_none rfl) rfl Try.func152 (args2 (E.d 2 0) rfl) (dRow_Q Hx2.out (Nat.le_trans (gI_suf.len _) HLN.out)) ?_
  rintro e u1_3 ⟨vr, rfl, qrow, qrd, hm⟩
  obtain ⟨ao_row, cap_row, rfl⟩ := qrow.shape
  refine ⟨_, rfl, ?_⟩
  have Hx4 := hid (qrow.widen (R' := (fun k => (New u1_1 u1_3 k))) (fun _ h => h) (Nat.le_refl _))
  have Hx5 := hid qrd
  have zu1_3 := hm.size
  have HMu1_3 := hid hm
  have Cx6 := hid (Mod.goS (S' := (fun k => (R k))) Cx3.out hm (fun _ h => h) (by intro k h0 h2; exact h2))
  clear hm Cx3
  clear act E qrow qrd Hx2
  refine QSeq.pure rfl (.pointer (some ⟨r, 0, none⟩)) (fun E => ex_move rfl (E.v oe0)) ?_
  refine QSeq.go fun act E => ?_
  refine qc_callF (args := #[.pointer (some ⟨r, 0, none⟩)]) rfl (wanted_none rfl) rfl Try.func146 (args1 (E.d 4 0)) (RefRHash_R Hx5.out) ?_
  rintro e u1_5 ⟨rfl, qrd, hm⟩
  refine ⟨_, rfl, ?_⟩
  have Hx7 := hid qrd
  have zu1_5 := hm.size
  have HMu1_5 := hid hm
  have Cx8 := hid (Mod.goS (S' := (fun k => (R k))) Cx6.out hm (fun _ h => h) (by intro k h0 h2; exact h2))
  clear hm Cx6
  clear act E qrd Hx5
  refine QSeq.go fun act E => ?_
  refine qc_run rfl (wanted_none rfl) (v := .agg ((gOp s).1.cells (Value.slice ao_row (rRow 256 (gI s).2).1.length cap_row) : List Value).toArray) (ex_build rfl (z := [.int .i64 0, .slice none 0 0, .int .u8 0, .int .u8 0, .int .u8 0, .int .u8 0, .int .u8 0, .int .u8 0, .int .u8 0, .int .u8 0, .int .u8 0, .int .u8 0, .int .u8 0, .int .u8 0, .int .u8 0, .int .u8 0, .int .u8 0, .int .u8 0, .int .u8 0, .int .u8 0, .int .u8 0, .int .u8 0, .int .u8 0, .int .u8 0, .int .u8 0, .int .u8 0, .int .u8 0, .int .u8 0, .int .u8 0, .int .u8 0, .int .u8 0, .int .u8 0, .int .u8 0, .int .u8 0]) (places := [(0, 1), (1, 1), (2, 32)]) (by kernel_rfl) (parts := [(0, .int .i64 (gI s).1), (1, .slice ao_row (rRow 256 (gI s).2).1.length cap_row), (2, hv (rHash (rRow 256 (gI s).2).2).1)]) (by simp only [List.map_toArray, List.map_cons, List.map_nil, show act.eval (.tmp 4) = .int .i64 (gI s).1 from (E.d 1 4), show act.eval (.tmp 6) = .slice ao_row (rRow 256 (gI s).2).1.length cap_row from (E.d 3 2), show act.eval (.tmp 8) = hv (rHash (rRow 256 (gI s).2).2).1 from (E.d 5 0)]; try rfl) (r := (gOp s).1.cells (Value.slice ao_row (rRow 256 (gI s).2).1.length cap_row)) (by exact (laid_segs (ns := [1, 1, 32]) rfl [(0, .int .i64 (gI s).1), (1, .slice ao_row (rRow 256 (gI s).2).1.length cap_row), (2, hv (rHash (rRow 256 (gI s).2).2).1)] [[.int .i64 0], [.slice none 0 0], [.int .u8 0, .int .u8 0, .int .u8 0, .int .u8 0, .int .u8 0, .int .u8 0, .int .u8 0, .int .u8 0, .int .u8 0, .int .u8 0, .int .u8 0, .int .u8 0, .int .u8 0, .int .u8 0, .int .u8 0, .int .u8 0, .int .u8 0, .int .u8 0, .int .u8 0, .int .u8 0, .int .u8 0, .int .u8 0, .int .u8 0, .int .u8 0, .int .u8 0, .int .u8 0, .int .u8 0, .int .u8 0, .int .u8 0, .int .u8 0, .int .u8 0, .int .u8 0]] rfl ⟨rfl, rfl, (szv (by rw [List.length_map]; exact rHash_l _)), trivial⟩).trans (congrArg some (show ([_] ++ ([_] ++ (_ ++ [])) : List Value) = _ by rw [List.append_nil]; rfl)))) ?_
  clear act E
  refine QSeq.go fun act E => ?_
  refine qc_store rfl (wanted_none rfl) rfl (HB2.out.mod Cx8.out (by intro h2; first | omega | (have hb := HBR.out _ h2; omega))) (off := 0) (vs := ((gOp s).1.cells (Value.slice ao_row (rRow 256 (gI s).2).1.length cap_row))) (by rw [show ((gOp s).1.cells (Value.slice ao_row (rRow 256 (gI s).2).1.length cap_row)).length = _ from (op_len2 _ _ (gOp_OK HBY.out).2.1)]; kernel_rfl) (one_op2 _ _ rfl) (by rw [show ((gOp s).1.cells (Value.slice ao_row (rRow 256 (gI s).2).1.length cap_row)).length = _ from (op_len2 _ _ (gOp_OK HBY.out).2.1)]; decide) (E.v oe2) (by rw [show act.eval ((.tmp 9)) = _ from (E.d 6 0)]; rfl) ?_
  intro u1_7 qc0 hm
  have qB2 : Cs u1_7 (w.heap.size) (((gOp s).1.cells (Value.slice ao_row (rRow 256 (gI s).2).1.length cap_row)) : List Value).toArray 87 := by rw [show lay _ 0 _ = (((gOp s).1.cells (Value.slice ao_row (rRow 256 (gI s).2).1.length cap_row)) : List Value).toArray from lay_whole _ _ (by rw [show ((gOp s).1.cells (Value.slice ao_row (rRow 256 (gI s).2).1.length cap_row)).length = _ from (op_len2 _ _ (gOp_OK HBY.out).2.1)]; rfl)] at qc0; exact qc0
  clear qc0
  have Hx9 := hid qB2
  have zu1_7 := hm.size
  have HMu1_7 := hid hm
  have Cx10 := hid (Mod.goS (S' := (fun k => (R k) ∨ (k = w.heap.size))) Cx8.out hm (fun _ h => Or.inl h) (by intro k h0 h2; exact Or.inr (h2)))
  clear hm Cx8
  clear act E qB2 HB2
  have Hx11 := hid (Hx7.out.mod HMu1_7.out (by intro k h1 h2; have hb := HBR.out k h1; omega))
  have Hx12 := hid ((Hx4.out.mod HMu1_5.out (by intro k h1 h2; have hb := HBR.out k h2; omega)).mod HMu1_7.out (by intro k h1 h2; omega))
  clear Hx7 Hx4 HMu1_3 HMu1_5 HMu1_7
  refine QSeq.nil (t' := [_, _, _, _, _, _, _, _]) rfl ?_
  have ha0 := HA0.out
  subst ha0
  clear HA0 hsz0 oe0 oe2
  simp only [putAll, Act.put, List.setIfInBounds_toArray, List.set_cons_zero, List.set_cons_succ, List.set_nil]
  go_wp2
  exact bodyPost_ret (results_cellA rfl _ _ w.heap.size ((gOp s).1.cells (Value.slice ao_row (rRow 256 (gI s).2).1.length cap_row)) rfl (fun k u hu => by rw [Hx9.out.cell]; simpa using hu) Try.underlying87 rfl (by rw [show ((gOp s).1.cells (Value.slice ao_row (rRow 256 (gI s).2).1.length cap_row)).length = _ from (op_len2 _ _ (gOp_OK HBY.out).2.1)]; kernel_rfl)) rfl ⟨_, rfl, ⟨_, rfl, gOp_OK HBY.out, (Hx12.out.widen (R' := (fun k => New w u1_7 k)) (by intro k h1; omega) (Nat.le_refl _))⟩, Hx11.out, (HM0.out.trans Cx10.out (by intro k h1 h2; rcases h2 with h2 | h2 <;> first | exact h2 | omega | (have hb := HBR.out k h2; omega)))⟩
set_option maxHeartbeats 8000000 in
theorem dCe_U : GetsU CeR 74 82 gCe := by
  intro R r s w hR hB hl
  have HRD := Lib.hid hR
  have HBR := Lib.hid hB
  have HBY := hid hR.bytes
  have HLN := Lib.hid hl
  clear hR hB hl
  go_enter Try.func82, Try.ntmps82
  go_upto_region 1 with (fail)
  obtain ⟨w1, hw1⟩ : ∃ zz, zz = (w.alloc (.cells #[.int .i64 0, .int .i64 0, .int .u8 0, .int .u8 0, .int .u8 0, .int .u8 0, .int .u8 0, .int .u8 0, .int .u8 0, .int .u8 0, .int .u8 0, .int .u8 0, .int .u8 0, .int .u8 0, .int .u8 0, .int .u8 0, .int .u8 0, .int .u8 0, .int .u8 0, .int .u8 0, .int .u8 0, .int .u8 0, .int .u8 0, .int .u8 0, .int .u8 0, .int .u8 0, .int .u8 0, .int .u8 0, .int .u8 0, .int .u8 0, .int .u8 0, .int .u8 0, .int .u8 0, .int .u8 0, .int .i64 0, .int .i64 0, .int .i64 0, .slice none 0 0] 52)) := ⟨_, rfl⟩
  change Code.wp _ _ _ _ (w.alloc (.cells #[.int .i64 0, .int .i64 0, .int .u8 0, .int .u8 0, .int .u8 0, .int .u8 0, .int .u8 0, .int .u8 0, .int .u8 0, .int .u8 0, .int .u8 0, .int .u8 0, .int .u8 0, .int .u8 0, .int .u8 0, .int .u8 0, .int .u8 0, .int .u8 0, .int .u8 0, .int .u8 0, .int .u8 0, .int .u8 0, .int .u8 0, .int .u8 0, .int .u8 0, .int .u8 0, .int .u8 0, .int .u8 0, .int .u8 0, .int .u8 0, .int .u8 0, .int .u8 0, .int .u8 0, .int .u8 0, .int .i64 0, .int .i64 0, .int .i64 0, .slice none 0 0] 52))
  rw [← hw1]
  have HB2 := hid (show Cs w1 (w.heap.size) #[.int .i64 0, .int .i64 0, .int .u8 0, .int .u8 0, .int .u8 0, .int .u8 0, .int .u8 0, .int .u8 0, .int .u8 0, .int .u8 0, .int .u8 0, .int .u8 0, .int .u8 0, .int .u8 0, .int .u8 0, .int .u8 0, .int .u8 0, .int .u8 0, .int .u8 0, .int .u8 0, .int .u8 0, .int .u8 0, .int .u8 0, .int .u8 0, .int .u8 0, .int .u8 0, .int .u8 0, .int .u8 0, .int .u8 0, .int .u8 0, .int .u8 0, .int .u8 0, .int .u8 0, .int .u8 0, .int .i64 0, .int .i64 0, .int .i64 0, .slice none 0 0] 52 by rw [hw1]; exact Cs.new _ _ _)
  have hm : Mod (fun _ => False) w w1 := by rw [hw1]; exact (Mod.refl _ _).alloc _
  have HM0 := hid (show Mod (fun k => (R k)) w w1 from hm.mono (fun _ _ h => h.elim))
  have hs1 : w1.heap.size = w.heap.size + 1 := by rw [hw1]; simp
  have Hx1 := hid (HRD.out.mod hm (fun _ _ h => h))
  clear HRD
  clear hw1 hm
  go_upto_region 1 with (fail)
  generalize ha0 : Act.mk _ _ = a0
  have oe0 : a0.eval (.tmp 0) = .pointer (some ⟨r, 0, none⟩) := by rw [← ha0]; rfl
  have hsz0 : a0.tmps.size = 31 := by rw [← ha0]; rfl
  have HA0 := hid ha0
  clear ha0
  refine wp_region_S 31 hsz0 [6, 7, 8, 3, 35] [0, 1, 2, 3, 4] ?_
  refine QSeq.pure rfl (.pointer (some ⟨r, 0, none⟩)) (fun E => ex_move rfl (E.v oe0)) ?_
  refine QSeq.go fun act E => ?_
  refine qc_callF (args := #[.pointer (some ⟨r, 0, none⟩)]) rfl (wanted_none rfl) rfl Try.func112 (args1 (E.d 0 0)) (dCm_Q _ _ _ _ Hx1.out (by intro k h1; have hb := HBR.out k h1; omega)) ?_
  rintro e u1_1 ⟨rfl, qrd, hm⟩
  refine ⟨_, rfl, ?_⟩
  have Hx2 := hid qrd
  have zu1_1 := hm.size
  have Cx3 := hid (show Mod (fun k => (R k)) w1 u1_1 from hm)
  clear hm
  clear act E qrd Hx1
  refine QSeq.go fun act E => ?_
  refine qc_run rfl (wanted_none rfl) (v := .agg ((Ce.cells (Ce.mk (gCm s).1 []) (Value.slice none 0 0)) : List Value).toArray) (ex_build rfl (z := [.int .i64 0, .int .i64 0, .int .u8 0, .int .u8 0, .int .u8 0, .int .u8 0, .int .u8 0, .int .u8 0, .int .u8 0, .int .u8 0, .int .u8 0, .int .u8 0, .int .u8 0, .int .u8 0, .int .u8 0, .int .u8 0, .int .u8 0, .int .u8 0, .int .u8 0, .int .u8 0, .int .u8 0, .int .u8 0, .int .u8 0, .int .u8 0, .int .u8 0, .int .u8 0, .int .u8 0, .int .u8 0, .int .u8 0, .int .u8 0, .int .u8 0, .int .u8 0, .int .u8 0, .int .u8 0, .int .i64 0, .int .i64 0, .int .i64 0, .slice none 0 0]) (places := [(0, 37), (37, 1)]) (by kernel_rfl) (parts := [(0, (gCm s).1.val)]) (by simp only [List.map_toArray, List.map_cons, List.map_nil, show act.eval (.tmp 7) = (gCm s).1.val from (E.d 1 0)]; try rfl) (r := (Ce.cells (Ce.mk (gCm s).1 []) (Value.slice none 0 0))) (by exact laid_segs (ns := [37, 1]) rfl [(0, (gCm s).1.val)] [[.int .i64 0, .int .i64 0, .int .u8 0, .int .u8 0, .int .u8 0, .int .u8 0, .int .u8 0, .int .u8 0, .int .u8 0, .int .u8 0, .int .u8 0, .int .u8 0, .int .u8 0, .int .u8 0, .int .u8 0, .int .u8 0, .int .u8 0, .int .u8 0, .int .u8 0, .int .u8 0, .int .u8 0, .int .u8 0, .int .u8 0, .int .u8 0, .int .u8 0, .int .u8 0, .int .u8 0, .int .u8 0, .int .u8 0, .int .u8 0, .int .u8 0, .int .u8 0, .int .u8 0, .int .u8 0, .int .i64 0, .int .i64 0, .int .i64 0], [.slice none 0 0]] rfl ⟨(szv (Cm.len (rHash_HK (gSig_suf.bytes HBY.out) |>.1))), trivial⟩)) ?_
  clear act E
  refine QSeq.go fun act E => ?_
  refine qc_alloc rfl (wanted_none rfl) rfl (z := [.int .i64 0, .int .i64 0, .int .u8 0, .int .u8 0, .int .u8 0, .int .u8 0, .int .u8 0, .int .u8 0, .int .u8 0, .int .u8 0, .int .u8 0, .int .u8 0, .int .u8 0, .int .u8 0, .int .u8 0, .int .u8 0, .int .u8 0, .int .u8 0, .int .u8 0, .int .u8 0, .int .u8 0, .int .u8 0, .int .u8 0, .int .u8 0, .int .u8 0, .int .u8 0, .int .u8 0, .int .u8 0, .int .u8 0, .int .u8 0, .int .u8 0, .int .u8 0, .int .u8 0, .int .u8 0, .int .i64 0, .int .i64 0, .int .i64 0, .slice none 0 0]) (by kernel_rfl) ?_
  intro u1_3 qqx hm
  have zl1_3 := qqx.lt
  have Hx4 := hid qqx
  have zu1_3 := hm.size
  have HMu1_3 := hid hm
  have Cx5 := hid (Cx3.out.goE hm)
  clear hm Cx3
  clear act E qqx
  refine QSeq.go fun act E => ?_
  have hlz : ((Ce.cells (Ce.mk (gCm s).1 []) (Value.slice none 0 0))).length = List.length ([.int .i64 0, .int .i64 0, .int .u8 0, .int .u8 0, .int .u8 0, .int .u8 0, .int .u8 0, .int .u8 0, .int .u8 0, .int .u8 0, .int .u8 0, .int .u8 0, .int .u8 0, .int .u8 0, .int .u8 0, .int .u8 0, .int .u8 0, .int .u8 0, .int .u8 0, .int .u8 0, .int .u8 0, .int .u8 0, .int .u8 0, .int .u8 0, .int .u8 0, .int .u8 0, .int .u8 0, .int .u8 0, .int .u8 0, .int .u8 0, .int .u8 0, .int .u8 0, .int .u8 0, .int .u8 0, .int .i64 0, .int .i64 0, .int .i64 0, .slice none 0 0] : List Value) := (by rw [ce_len _ _ (gCm_OK HBY.out).2.1]; rfl)
  refine qc_store rfl (wanted_none rfl) rfl Hx4.out (off := 0) (vs := (Ce.cells (Ce.mk (gCm s).1 []) (Value.slice none 0 0))) (by rw [hlz]; kernel_rfl) (one_ce2 _ _ rfl) (by rw [hlz]; exact Nat.le_of_eq (Nat.zero_add _)) (E.d 3 0) (by rw [show act.eval ((.tmp 8)) = _ from (E.d 2 1)]; rfl) ?_
  intro u1_4 qc0 hm
  have qqx : Cs u1_4 (u1_1.heap.size) ((Ce.cells (Ce.mk (gCm s).1 []) (Value.slice none 0 0)) : List Value).toArray 52 := by rw [show lay _ 0 _ = ((Ce.cells (Ce.mk (gCm s).1 []) (Value.slice none 0 0)) : List Value).toArray from lay_whole #[.int .i64 0, .int .i64 0, .int .u8 0, .int .u8 0, .int .u8 0, .int .u8 0, .int .u8 0, .int .u8 0, .int .u8 0, .int .u8 0, .int .u8 0, .int .u8 0, .int .u8 0, .int .u8 0, .int .u8 0, .int .u8 0, .int .u8 0, .int .u8 0, .int .u8 0, .int .u8 0, .int .u8 0, .int .u8 0, .int .u8 0, .int .u8 0, .int .u8 0, .int .u8 0, .int .u8 0, .int .u8 0, .int .u8 0, .int .u8 0, .int .u8 0, .int .u8 0, .int .u8 0, .int .u8 0, .int .i64 0, .int .i64 0, .int .i64 0, .slice none 0 0] _ (by rw [hlz]; rfl)] at qc0; exact qc0
  clear qc0 hlz
  have Hx6 := hid qqx
  have zu1_4 := hm.size
  have HMu1_4 := hid hm
  have Cx7 := hid (Mod.goS (S' := (fun k => (R k))) Cx5.out hm (fun _ h => h) (by intro k h0 h2; omega))
  clear hm Cx5
  clear act E qqx Hx4
  have Hx8 := hid ((Hx2.out.mod HMu1_3.out (fun _ _ h => h)).mod HMu1_4.out (by intro k h1 h2; have hb := HBR.out k h1; omega))
  clear Hx2 HMu1_3 HMu1_4
  refine QSeq.nil (t' := [_, _, _, _, _]) rfl ?_
  have ha0 := HA0.out
  subst ha0
  clear HA0 hsz0 oe0
  simp only [putAll, Act.put, List.setIfInBounds_toArray, List.set_cons_zero, List.set_cons_succ, List.set_nil]
  go_upto_region 2 with (fail)
  generalize ha0 : Act.mk _ _ = a0
  have oe0 : a0.eval (.tmp 0) = .pointer (some ⟨r, 0, none⟩) := by rw [← ha0]; rfl
  have hsz0 : a0.tmps.size = 31 := by rw [← ha0]; rfl
  have HA0 := hid ha0
  clear ha0
  refine wp_region_S 31 hsz0 [9, 10, 4] [0, 1, 2] ?_
  refine QSeq.pure rfl (.pointer (some ⟨r, 0, none⟩)) (fun E => ex_move rfl (E.v oe0)) ?_
  refine QSeq.go fun act E => ?_
  refine qc_callF (args := #[.pointer (some ⟨r, 0, none⟩), .int .i64 100]) rfl (wanted_none rfl) rfl Try.func113 (args2 (E.d 0 0) rfl) (RefRInt_R Hx8.out (by decide)) ?_
  rintro e u2_1 ⟨rfl, qrd, hm⟩
  refine ⟨_, rfl, ?_⟩
  have Hx9 := hid qrd
  have zu2_1 := hm.size
  have Cx10 := hid (show Mod (fun k => (R k)) u1_4 u2_1 from hm)
  clear hm
  clear act E qrd Hx8
  refine QSeq.pure rfl (.int .i64 ((rInt 100 (gCm s).2).1 : Nat)) (fun E => ex_assign rfl (E.d 1 0)) ?_
  refine QSeq.nil (t' := [_, _, _]) rfl ?_
  have ha0 := HA0.out
  subst ha0
  clear HA0 hsz0 oe0
  simp only [putAll, Act.put, List.setIfInBounds_toArray, List.set_cons_zero, List.set_cons_succ]
  obtain ⟨n1, hn⟩ : ∃ n, n = (rInt 100 (gCm s).2).1 := ⟨_, rfl⟩
  obtain ⟨s1, hs1⟩ : ∃ z, z = (rInt 100 (gCm s).2).2 := ⟨_, rfl⟩
  have hn100_1 : n1 ≤ 100 := by have := rInt_le 100 (gCm s).2; omega
  have HLS1 := hid (show (s1.getD []).length ≤ 900000 by rw [hs1]; exact Nat.le_trans ((rInt_suf 100).len _) (Nat.le_trans (gCm_suf.len _) HLN.out))
  have HGL1 := hid (show gList gSt (gCm s).2 = gItems gSt n1 [] s1 by rw [hn, hs1]; rfl)
  rw [← hn]
  have hq := Hx9.out
  rw [← hs1] at hq
  have HR1 := Lib.hid hq
  clear hq hn hs1 Hx9
  go_upto_region 3 with (fail)
  generalize ha0 : Act.mk _ _ = a0
  have hsz0 : a0.tmps.size = 31 := by rw [← ha0]; rfl
  have HA0 := hid ha0
  clear ha0
  refine wp_region_S 31 hsz0 [5] [0] ?_
  refine QSeq.pure rfl (.int .i64 0) (fun E => ex_assign rfl rfl) ?_
  refine QSeq.nil (t' := [_]) rfl ?_
  have ha0 := HA0.out
  subst ha0
  clear HA0 hsz0
  simp only [putAll, Act.put, List.setIfInBounds_toArray, List.set_cons_zero, List.set_cons_succ]
  go_wp2
  go_loopw [5] (fun ti wr => ∃ (k : Nat) (acc : List St) (st : RSt) (v : Value), ti = .int .i64 (k : Int) ∧ k ≤ n1 ∧ acc.length = k ∧ (st.getD []).length ≤ 900000 ∧ Ru gSt n1 s1 k acc st ∧ u2_1.heap.size ≤ wr.heap.size ∧ OwS StR 30 (fun b => u2_1.heap.size ≤ b ∧ b < wr.heap.size) (fun b => u2_1.heap.size ≤ b ∧ b < wr.heap.size) wr v acc ∧ Cs wr (u1_1.heap.size) ((Ce.cells (Ce.mk (gCm s).1 acc) (v)) : List Value).toArray 52 ∧ RrR 74 R wr r st ∧ Cs wr (w.heap.size) #[.int .i64 0, .int .i64 0, .int .u8 0, .int .u8 0, .int .u8 0, .int .u8 0, .int .u8 0, .int .u8 0, .int .u8 0, .int .u8 0, .int .u8 0, .int .u8 0, .int .u8 0, .int .u8 0, .int .u8 0, .int .u8 0, .int .u8 0, .int .u8 0, .int .u8 0, .int .u8 0, .int .u8 0, .int .u8 0, .int .u8 0, .int .u8 0, .int .u8 0, .int .u8 0, .int .u8 0, .int .u8 0, .int .u8 0, .int .u8 0, .int .u8 0, .int .u8 0, .int .u8 0, .int .u8 0, .int .i64 0, .int .i64 0, .int .i64 0, .slice none 0 0] 52 ∧ Mod R w wr) (fun ti _ => n1 - (intOf ti).toNat)
  case atStart => exact ⟨0, [], s1, .slice none 0 0, rfl, Nat.zero_le _, rfl, HLS1.out, Ru.start gSt_suf _ _, Nat.le_refl _, OwS.nil _ _ _ _ _, (Hx6.out.mod Cx10.out (by intro h2; first | omega | (have hb := HBR.out _ h2; omega))), HR1.out, ((HB2.out.mod Cx7.out (by intro h2; first | omega | (have hb := HBR.out _ h2; omega))).mod Cx10.out (by intro h2; first | omega | (have hb := HBR.out _ h2; omega))), ((HM0.out.trans Cx7.out (fun _ _ h => h)).trans Cx10.out (fun _ _ h => h))⟩
  case round =>
    obtain ⟨k1, acc1, st1, v1, rfl, hk, hka, hst, hru, hz, ha, hbx, hr, hk_0, hm⟩ := hrel
    obtain ⟨wl1, rfl⟩ : ∃ x, x = wr := ⟨_, rfl⟩
    obtain ⟨aol1, capl1, rfl⟩ := ha.shape
    have HAL1 := Lib.hid ha
    have HBXL1 := Lib.hid hbx
    have HRL1 := Lib.hid hr
    have HML1 := Lib.hid hm
    have HST1 := Lib.hid hst
    have HRU1 := Lib.hid hru
    have HKA1 := Lib.hid hka
    have HKP1_0 := Lib.hid hk_0
    clear ha hbx hr hm hst hru hka hk_0 HR1 HB2 HM0 Hx6
    by_cases hgo1 : k1 < n1 ∧ st1 ≠ none
    · obtain ⟨hlt1, hsn1⟩ := hgo1
      cases st1 with
      | none => exact absurd rfl hsn1
      | some l1 =>
        go_upto_region 4 with (fail)
        generalize ha0 : Act.mk _ _ = a0
        have oe0 : a0.eval (.tmp 0) = .pointer (some ⟨r, 0, none⟩) := by rw [← ha0]; rfl
        have oe4 : a0.eval (.tmp 4) = .int .i64 ((n1 : Nat) : Int) := by rw [← ha0]; rfl
        have oe5 : a0.eval (.tmp 5) = .int .i64 ((k1 : Nat) : Int) := by rw [← ha0]; rfl
        have hsz0 : a0.tmps.size = 31 := by rw [← ha0]; rfl
        have HA0 := hid ha0
        clear ha0
        refine wp_region_S 31 hsz0 [11, 12, 13, 14, 15, 16, 17, 18, 19, 20] [0, 1, 2, 3, 4, 5, 6, 7, 8, 9] ?_
        refine QSeq.pure rfl (.int .i64 ((k1 : Nat) : Int)) (fun E => ex_move rfl (E.v oe5)) ?_
        refine QSeq.pure rfl (.int .i64 ((n1 : Nat) : Int)) (fun E => ex_move rfl (E.v oe4)) ?_
        refine QSeq.pure rfl (.bool true) (fun E => ex_binE rfl (E.d 0 1) (E.d 1 0) (guard_ints _ _ _ _ _ _) (run_lss_i _ _ _ Try.underlying3) (congrArg Value.bool (decide_eq_true (by omega)))) ?_
        refine QSeq.pure rfl (.bool true) (fun E => ex_move rfl (E.d 2 0)) ?_
        refine QSeq.pureG rfl (.pointer (some ⟨r, 0, none⟩)) (fun E => ((wanted_of rfl rfl (E.sz 14 (by decide)) (E.d 3 0)).trans rfl)) (fun E => ex_move rfl (E.v oe0)) ?_
        refine QSeq.pureG rfl (.pointer (some ⟨r, 0, none⟩)) (fun E => ((wanted_of rfl rfl (E.sz 14 (by decide)) (E.d 3 1)).trans rfl)) (fun E => ex_nil rfl (E.d 4 0)) ?_
        refine QSeq.pureG rfl (.pointer (some ⟨r, 1, none⟩)) (fun E => ((wanted_of rfl rfl (E.sz 14 (by decide)) (E.d 3 2)).trans rfl)) (fun E => ex_field rfl Try.underlying74 rfl (by kernel_rfl) (E.d 5 0)) ?_
        refine QSeq.pureG rfl (.bool false) (fun E => ((wanted_of rfl rfl (E.sz 14 (by decide)) (E.d 3 3)).trans rfl)) (fun E => ex_load1 rfl Try.underlying4 rfl (E.d 6 0) (RrR.bad HRL1.out)) ?_
        refine QSeq.pureG rfl (.bool true) (fun E => ((wanted_of rfl rfl (E.sz 14 (by decide)) (E.d 3 4)).trans rfl)) (fun E => ex_not rfl (E.d 7 0)) ?_
        refine QSeq.pure rfl (.bool true) (fun E => ex_pick rfl (E.d 3 5) (E.d 8 0) rfl) ?_
        refine QSeq.nil (t' := [_, _, _, _, _, _, _, _, _, _]) rfl ?_
        have ha0 := HA0.out
        subst ha0
        clear HA0 hsz0 oe0 oe4 oe5
        simp only [putAll, Act.put, List.setIfInBounds_toArray, List.set_cons_zero, List.set_cons_succ]
        obtain ⟨st2_1, hp2⟩ : ∃ z, z = (gSt (some l1)).2 := ⟨_, rfl⟩
        have HP2_1 := hid hp2.symm
        clear hp2
        have HST2_1 := hid (show (st2_1.getD []).length ≤ 900000 by rw [← HP2_1.out]; exact Nat.le_trans (gSt_suf.len _) HST1.out)
        go_upto_region 6 with (fail)
        generalize ha0 : Act.mk _ _ = a0
        have oe0 : a0.eval (.tmp 0) = .pointer (some ⟨r, 0, none⟩) := by rw [← ha0]; rfl
        have oe3 : a0.eval (.tmp 3) = .pointer (some ⟨u1_1.heap.size, 0, none⟩) := by rw [← ha0]; rfl
        have hsz0 : a0.tmps.size = 31 := by rw [← ha0]; rfl
        have HA0 := hid ha0
        clear ha0
        refine wp_region_Q1 31 hsz0 [23, 24, 25, 26, 27, 28, 29, 38] (fun k => (R k) ∨ (New u2_1 wl1 k) ∨ (k = u1_1.heap.size)) (fun k j => (k = 0 ∧ ((R j))) ∨ (k = 2 ∧ ((New u2_1 wl1 j))) ∨ (k = 3 ∧ ((j = u1_1.heap.size)))) (by intro k j h; (try dsimp only at h ⊢); rcases h with ⟨-, h⟩ | ⟨-, h⟩ | ⟨-, h⟩; (exact Or.inl (h)); (exact Or.inr (Or.inl (h))); (exact Or.inr (Or.inr (h)))) [qi (.pointer (some ⟨u1_1.heap.size, 37, none⟩)), qi (.slice aol1 acc1.length capl1), qi (.pointer (some ⟨r, 0, none⟩)), qv 0, qv 1, qv 2, qi (.pointer (some ⟨u1_1.heap.size, 37, none⟩)), qv 3] ⟨qi_stable, qi_stable, qi_stable, qv_stable, qv_stable, qv_stable, qi_stable, qv_stable, trivial⟩ [3, 4, 5, 7] ⟨?_, ?_, ?_, ?_, ?_, ?_, ?_, ?_, trivial⟩ ?_
        · exact stq (fun E => ex_field rfl Try.underlying52 rfl (by kernel_rfl) (E.v oe3))
        · refine stepq_env rfl rfl rfl fun _ _ _ _ _ _ hm0 _ _ hd hub _ => ?_
          have h0 := hd ⟨0, .data⟩ (by simp) rfl _ rfl
          refine qe_run rfl (wanted_none rfl) (ex_load1 rfl Try.underlying50 rfl h0 (Cs.post1 (pre := []) (mid := (Ce.mk (gCm s).1 acc1).c.cells) (post := [.slice aol1 acc1.length capl1]) (m := 37) (k := 0) (HBXL1.out.mod hm0 (by intro h2; have hu := hub 3 7 rfl (by kernel_rfl); rcases h2 with ⟨h0, kk, hk, h2⟩ | h2 <;> first | omega | (rcases h2 with ⟨hkk, h2⟩ | ⟨hkk, h2⟩ | ⟨hkk, h2⟩ <;> first | omega | (have hb := HBR.out _ h2; omega)))) (Cm.len (gCm_OK HBY.out).2.1) rfl rfl)) QE.refl ?_
          rfl
        · exact stq (fun E => ex_move rfl (E.v oe0))
        · exact stepq_chain rfl
        · exact stepq_chain rfl
        · exact stepq_chain rfl
        · exact stq (fun E => ex_field rfl Try.underlying52 rfl (by kernel_rfl) (E.v oe3))
        · exact stepq_chain rfl
        intro u6_0 hr
        have zu6_0 := hr.size
        have Cx11 := hid (hr.new (S := (fun k => (R k) ∨ (New u2_1 wl1 k) ∨ (k = u1_1.heap.size))))
        have Hx12 := hid (HAL1.out.mod hr (by intro k h1 h2; omega) (by intro k h1 h2; omega))
        clear HAL1
        have Hx13 := hid (HBXL1.out.mod hr (by intro h2; omega))
        clear HBXL1
        have Hx14 := hid (HRL1.out.mod hr (by intro k h1 h2; have hb := HBR.out k h1; omega))
        clear HRL1
        clear hr
        refine QChain.go fun Z act E => ?_
        refine qc_callF (args := #[.pointer (some ⟨r, 0, none⟩)]) rfl (wanted_none rfl) rfl Try.func114 (args1 (E.d 2)) (dSt_G.toU.to HP2_1.out Hx14.out (by intro k h1; have hb := HBR.out k h1; omega) HST1.out) ?_
        rintro e u6_1a ⟨cs1, y1, rfl, qel, qrd, hy1, hm⟩
        have HY1 := Lib.hid hy1
        clear hy1
        have zu6_1a := hm.size
        refine ⟨_, rfl, hm.mono (by intro k hk h; first | omega | exact Or.inl ⟨(by have hb := HBR.out k h; omega), Or.inl ⟨rfl, h⟩⟩), (fun _ => rfl), ?_⟩
        intro u6_1 hr
        have zu6_1 := hr.size
        have Hx15 := hid ((qel.widen (R' := (fun k => (New u6_0 u6_1a k))) (fun _ h => h)).mod hr (by intro k h1 h2; omega))
        have Hx16 := hid (qrd.mod hr (by intro k h1 h2; have hb := HBR.out k h1; omega))
        have hmr := hm.two hr
        have Hx17 := hid (Hx12.out.mod hmr (by intro k h1 h2; rcases h2 with h2 | h2 <;> first | omega | (have hb := HBR.out k h2; omega)) (by intro k h1 h2; rcases h2 with h2 | h2 <;> first | omega | (have hb := HBR.out k h2; omega)))
        have Hx18 := hid (Hx13.out.mod hmr (by intro h2; rcases h2 with h2 | h2 <;> first | omega | (have hb := HBR.out _ h2; omega)))
        clear Hx12 Hx13
        clear hmr
        have Cx19 := hid (Cx11.out.goM hm hr (by intro k h0 h2; first | omega | exact Or.inl h2 | exact Or.inr (Or.inl h2) | exact Or.inr (Or.inr (h2))))
        clear Cx11 hm hr Z act E qel qrd Hx14
        refine QChain.go fun Z act E => ?_
        refine qc_buildS (e := 30) (cs := cs1) (zc := [.int .i64 0, .int .i64 0, .int .i64 0, .int .u8 0, .int .u8 0, .int .u8 0, .int .u8 0, .int .u8 0, .int .u8 0, .int .u8 0, .int .u8 0, .int .u8 0, .int .u8 0, .int .u8 0, .int .u8 0, .int .u8 0, .int .u8 0, .int .u8 0, .int .u8 0, .int .u8 0, .int .u8 0, .int .u8 0, .int .u8 0, .int .u8 0, .int .u8 0, .int .u8 0, .int .u8 0, .int .u8 0, .int .u8 0, .int .u8 0, .int .u8 0, .int .u8 0, .int .u8 0, .int .u8 0, .int .u8 0, .int .u64 0, .int .i64 0, .int .i64 0]) (sz := 38) rfl (wanted_none rfl) rfl Try.underlying50 (by kernel_rfl) rfl (by decide) (by decide) (chv (v := .agg cs1.toArray) (E.d 3)) (StR.len Hx15.out) ?_
        intro u6_2a qrow hm
        have zl6_4 := qrow.lt
        have zu6_2a := hm.size
        refine ⟨hm.mono (fun _ _ h => h.elim), (fun _ => rfl), ?_⟩
        intro u6_2 hr
        have zu6_2 := hr.size
        have Hx20 := hid (qrow.mod hr (by intro h2; omega))
        have hmr := Mod.after hm hr
        have Hx21 := hid (Hx17.out.mod hmr (by intro k h1 h2; omega) (by intro k h1 h2; omega))
        have Hx22 := hid (Hx18.out.mod hmr (by intro h2; omega))
        have Hx23 := hid (Hx16.out.mod hmr (by intro k h1 h2; have hb := HBR.out k h1; omega))
        have Hx24 := hid (Hx15.out.mod hmr (by intro k h1 h2; omega))
        clear Hx17 Hx18 Hx16 Hx15
        clear hmr
        have Cx25 := hid (Cx19.out.go hm hr)
        clear Cx19 hm hr Z act E qrow
        refine QChain.go fun Z act E => ?_
        refine qc_appS (A := StR) (e := 30) rfl (wanted_none rfl) rfl (.agg #[.int .i64 0, .int .i64 0, .int .i64 0, .int .u8 0, .int .u8 0, .int .u8 0, .int .u8 0, .int .u8 0, .int .u8 0, .int .u8 0, .int .u8 0, .int .u8 0, .int .u8 0, .int .u8 0, .int .u8 0, .int .u8 0, .int .u8 0, .int .u8 0, .int .u8 0, .int .u8 0, .int .u8 0, .int .u8 0, .int .u8 0, .int .u8 0, .int .u8 0, .int .u8 0, .int .u8 0, .int .u8 0, .int .u8 0, .int .u8 0, .int .u8 0, .int .u8 0, .int .u8 0, .int .u8 0, .int .u8 0, .int .u64 0, .int .i64 0, .int .i64 0]) 80 Try.underlying50 info_St (by rfl) (of_decide_eq_true (by kernel_rfl)) (E.d 1) (chv (v := .slice (some ⟨u6_1.heap.size, 0, none⟩) 1 1) (E.d 4)) (Hx21.out) (RdS.single (R := (fun k => (New u6_0 u6_1a k) ∨ (k = u6_1.heap.size))) Hx20.out (Hx24.out.widen (by intro k h1; first | omega | exact h1.elim | exact Or.inl h1 | exact Or.inr (h1))) (by first | exact Or.inr rfl | exact Or.inr (Or.inr rfl) | (right; omega) | (right; right; omega))) (by intro k h1 h2; omega) (by rw [HKA1.out]; simp only [List.length_cons, List.length_nil]; omega) (by rw [HKA1.out]; simp only [List.length_cons, List.length_nil]; rw [maxLen_val]; omega) ?_
        intro ao11 cap11 u6_3a qacc1 hm
        have zu6_3a := hm.size
        refine ⟨hm.mono (by intro k hk h; omega), (fun _ => rfl), ?_⟩
        intro u6_3 hr
        have zu6_3 := hr.size
        have Hx26 := hid ((qacc1.widen (R' := (fun k => (New u2_1 wl1 k) ∨ (New u6_2 u6_3a k))) (E' := (fun k => (New u2_1 wl1 k) ∨ (New u6_0 u6_1a k) ∨ (k = u6_1.heap.size))) (fun _ h => h) (by intro k h1; rcases h1 with h1 | (h1 | h1) <;> first | omega | exact h1.elim | exact Or.inl h1 | exact Or.inr (Or.inl h1) | exact Or.inr (Or.inr (h1)))).mod hr (by intro k h1 h2; omega) (by intro k h1 h2; omega))
        have hmr := hm.two hr
        have Hx27 := hid (Hx22.out.mod hmr (by intro h2; omega))
        have Hx28 := hid (Hx23.out.mod hmr (by intro k h1 h2; have hb := HBR.out k h1; omega))
        have Hx29 := hid (Hx24.out.mod hmr (by intro k h1 h2; omega))
        have Hx30 := hid (Hx20.out.mod hmr (by intro h2; omega))
        clear Hx22 Hx23 Hx24 Hx20
        clear hmr
        have Cx31 := hid (Cx25.out.goM hm hr (by intro k h0 h2; first | omega | exact Or.inl h2 | exact Or.inr (Or.inl h2) | exact Or.inr (Or.inr (h2))))
        clear Cx25 hm hr Z act E qacc1 Hx21
        refine QChain.go fun Z act E => ?_
        refine qc_store rfl (wanted_none rfl) rfl Hx27.out (off := 37) (vs := [Value.slice ao11 (acc1.length + 1) cap11]) (by kernel_rfl) (by intro u hu; simp at hu; subst hu; rfl) (by show 37 + 1 ≤ _; rw [List.size_toArray, ce_len _ _ (gCm_OK HBY.out).2.1]; decide) (E.d 6) (by rw [show act.eval ((.tmp 28)) = _ from (chv (v := .slice ao11 (acc1.length + 1) cap11) (E.d 5))]; rfl) ?_
        intro u6_4a qc0 hm
        have qqx : Cs u6_4a (u1_1.heap.size) ((Ce.cells (Ce.mk (gCm s).1 (acc1 ++ [y1])) (Value.slice ao11 (acc1.length + 1) cap11)) : List Value).toArray 52 := by rw [show lay _ 37 _ = ((Ce.cells (Ce.mk (gCm s).1 (acc1 ++ [y1])) (Value.slice ao11 (acc1.length + 1) cap11)) : List Value).toArray from lay_l (gCm s).1 _ _ (gCm_OK HBY.out).2.1] at qc0; exact qc0
        clear qc0
        have zu6_4a := hm.size
        refine ⟨hm.mono (by intro k hk h; omega), (fun _ => rfl), ?_⟩
        intro u6_4 hr
        have zu6_4 := hr.size
        have Hx32 := hid (qqx.mod hr (by intro h2; omega))
        have hmr := hm.two hr
        have Hx33 := hid (Hx26.out.mod hmr (by intro k h1 h2; omega) (by intro k h1 h2; omega))
        have Hx34 := hid (Hx28.out.mod hmr (by intro k h1 h2; have hb := HBR.out k h1; omega))
        have Hx35 := hid (Hx29.out.mod hmr (by intro k h1 h2; omega))
        have Hx36 := hid (Hx30.out.mod hmr (by intro h2; omega))
        clear Hx26 Hx28 Hx29 Hx30
        clear hmr
        have Cx37 := hid (Cx31.out.goM hm hr (by intro k h0 h2; first | omega | exact Or.inl h2 | exact Or.inr (Or.inl h2) | exact Or.inr (Or.inr (h2))))
        clear Cx31 hm hr Z act E qqx Hx27
        refine QChain.nil fun vs hl hzz hrows hne => ?_
        obtain ⟨Z, hYZ, hZb, hV⟩ := hzz
        have f2 := fvi hV hl 2
        have f3 := fvc hV hl 3
        have f4 := fvc hV hl 4
        have f5 := fvc hV hl 5
        rw [show vs = [gw vs 0, gw vs 1, gw vs 2, gw vs 3, gw vs 4, gw vs 5, gw vs 6, gw vs 7] from (gw_eta hl).trans rfl]
        have ha0 := HA0.out
        subst ha0
        clear HA0 hV hYZ hZb hsz0 hrows hne oe0 oe3
        simp only [putAll, Act.put, List.setIfInBounds_toArray, List.set_cons_zero, List.set_cons_succ, List.set_nil, f2, f3, f4, f5]
        clear hl f2 f3 f4 f5
        clear Hx35
        clear Hx36
        go_upto_region 5 with (fail)
        generalize ha0 : Act.mk _ _ = a0
        have oe5 : a0.eval (.tmp 5) = .int .i64 ((k1 : Nat) : Int) := by rw [← ha0]; rfl
        have hsz0 : a0.tmps.size = 31 := by rw [← ha0]; rfl
        have HA0 := hid ha0
        clear ha0
        refine wp_region_S 31 hsz0 [21, 22, 5] [0, 1, 2] ?_
        refine QSeq.pure rfl (.int .i64 ((k1 : Nat) : Int)) (fun E => ex_move rfl (E.y 2 oe5)) ?_
        refine QSeq.pure rfl (.int .i64 (((k1 : Nat) : Int) + 1)) (fun E => ex_binE rfl (E.d 0 0) rfl (guard_ints _ _ _ _ _ _) (run_add_i _ _ Try.underlying3) (congrArg (Value.int .i64) (IntWalk.i64_in _ (by omega)))) ?_
        refine QSeq.pure rfl (.int .i64 (((k1 : Nat) : Int) + 1)) (fun E => ex_assign rfl (E.d 1 0)) ?_
        refine QSeq.nil (t' := [_, _, _]) rfl ?_
        have ha0 := HA0.out
        subst ha0
        clear HA0 hsz0 oe5
        simp only [putAll, Act.put, List.setIfInBounds_toArray, List.set_cons_zero, List.set_cons_succ]
        go_wp2
        go_roundw
        case rel => exact ⟨k1 + 1, acc1 ++ [y1], st2_1, _, by go_num, by omega, by rw [List.length_append, HKA1.out]; rfl, HST2_1.out, HRU1.out.step hlt1 (by simp) HP2_1.out HY1.out, by omega, (Hx33.out.widen (by intro b h1; omega) (by intro b h1; rcases h1 with h1 | h1 | h1 <;> first | omega | exact h1.elim)), Hx32.out, Hx34.out, (HKP1_0.out.mod Cx37.out (by intro h2; rcases h2 with h2 | h2 | h2 <;> first | omega | (have hb := HBR.out _ h2; omega))), (HML1.out.trans Cx37.out (by intro k h1 h2; rcases h2 with h2 | h2 | h2 <;> first | exact h2 | omega | (have hb := HBR.out k h2; omega)))⟩
        case measure => simp [intOf] <;> omega
    · skip
      obtain ⟨bA1, hbA1⟩ : ∃ b : Bool, b = decide (((k1 : Nat) : Int) < ((n1 : Nat) : Int)) := ⟨_, rfl⟩
      go_upto_region 4 with (fail)
      generalize ha0 : Act.mk _ _ = a0
      have oe0 : a0.eval (.tmp 0) = .pointer (some ⟨r, 0, none⟩) := by rw [← ha0]; rfl
      have oe4 : a0.eval (.tmp 4) = .int .i64 ((n1 : Nat) : Int) := by rw [← ha0]; rfl
      have oe5 : a0.eval (.tmp 5) = .int .i64 ((k1 : Nat) : Int) := by rw [← ha0]; rfl
      have hsz0 : a0.tmps.size = 31 := by rw [← ha0]; rfl
      have HA0 := hid ha0
      clear ha0
      refine wp_region_S 31 hsz0 [11, 12, 13, 14, 15, 16, 17, 18, 19, 20] [0, 1, 2, 3, 4, 5, 6, 7, 8, 9] ?_
      refine QSeq.pure rfl (.int .i64 ((k1 : Nat) : Int)) (fun E => ex_move rfl (E.v oe5)) ?_
      refine QSeq.pure rfl (.int .i64 ((n1 : Nat) : Int)) (fun E => ex_move rfl (E.v oe4)) ?_
      refine QSeq.pure rfl (.bool bA1) (fun E => ex_binE rfl (E.d 0 1) (E.d 1 0) (guard_ints _ _ _ _ _ _) (run_lss_i _ _ _ Try.underlying3) (congrArg Value.bool hbA1.symm)) ?_
      refine QSeq.pure rfl (.bool bA1) (fun E => ex_move rfl (E.d 2 0)) ?_
      refine QSeq.may (b := bA1) rfl (.pointer (some ⟨r, 0, none⟩)) (fun E => ((wanted_of rfl rfl (E.sz 14 (by decide)) (E.d 3 0)).trans (beq_t _))) (fun E hb => ex_move rfl (E.v oe0)) ?_
      intro v4_4 hw
      have hv4_4 := hid hw
      clear hw
      refine QSeq.may (b := bA1) rfl (.pointer (some ⟨r, 0, none⟩)) (fun E => ((wanted_of rfl rfl (E.sz 14 (by decide)) (E.d 3 1)).trans (beq_t _))) (fun E hb => ex_nil rfl ((E.q 4 0 hv4_4.out).1 hb)) ?_
      intro v4_5 hw
      have hv4_5 := hid hw
      clear hw
      refine QSeq.may (b := bA1) rfl (.pointer (some ⟨r, 1, none⟩)) (fun E => ((wanted_of rfl rfl (E.sz 14 (by decide)) (E.d 3 2)).trans (beq_t _))) (fun E hb => ex_field rfl Try.underlying74 rfl (by kernel_rfl) ((E.q 5 0 hv4_5.out).1 hb)) ?_
      intro v4_6 hw
      have hv4_6 := hid hw
      clear hw
      refine QSeq.may (b := bA1) rfl (.bool st1.isNone) (fun E => ((wanted_of rfl rfl (E.sz 14 (by decide)) (E.d 3 3)).trans (beq_t _))) (fun E hb => ex_load1 rfl Try.underlying4 rfl ((E.q 6 0 hv4_6.out).1 hb) (RrR.bad HRL1.out)) ?_
      intro v4_7 hw
      have hv4_7 := hid hw
      clear hw
      refine QSeq.may (b := bA1) rfl (.bool (!st1.isNone)) (fun E => ((wanted_of rfl rfl (E.sz 14 (by decide)) (E.d 3 4)).trans (beq_t _))) (fun E hb => ex_not rfl ((E.q 7 0 hv4_7.out).1 hb)) ?_
      intro v4_8 hw
      have hv4_8 := hid hw
      clear hw
      refine QSeq.pure rfl (.bool (bA1 && (!st1.isNone))) (fun E => ex_pickE rfl (E.d 3 5) rfl rfl (and_val fun hb => (E.q 8 0 hv4_8.out).1 hb)) ?_
      clear hv4_4 hv4_5 hv4_6 hv4_7 hv4_8
      refine QSeq.nil (t' := [_, _, _, _, _, _, _, _, _, _]) rfl ?_
      have ha0 := HA0.out
      subst ha0
      clear HA0 hsz0 oe0 oe4 oe5
      simp only [putAll, Act.put, List.setIfInBounds_toArray, List.set_cons_zero, List.set_cons_succ]
      rw [go_false hgo1 hbA1]
      have HF1 := hid (HRU1.out.fin hgo1 hk)
      clear hbA1 hgo1
      go_upto_region 7 with (fail)
      generalize ha0 : Act.mk _ _ = a0
      have oe2 : a0.eval (.tmp 2) = .pointer (some ⟨w.heap.size, 0, none⟩) := by rw [← ha0]; rfl
      have oe3 : a0.eval (.tmp 3) = .pointer (some ⟨u1_1.heap.size, 0, none⟩) := by rw [← ha0]; rfl
      have hsz0 : a0.tmps.size = 31 := by rw [← ha0]; rfl
      have HA0 := hid ha0
      clear ha0
      refine wp_region_S 31 hsz0 [30, 32] [0, 1] ?_
      refine QSeq.pure rfl (.agg ((Ce.cells (Ce.mk (gCm s).1 acc1) (Value.slice aol1 acc1.length capl1))).toArray) (fun E => ex_loadA rfl Try.underlying52 rfl (off := 0) (cs := (Ce.cells (Ce.mk (gCm s).1 acc1) (Value.slice aol1 acc1.length capl1))) (by rw [ce_len _ _ (gCm_OK HBY.out).2.1]; kernel_rfl) (E.v oe3) (Cs.whole HBXL1.out)) ?_
      refine QSeq.go fun act E => ?_
      refine qc_store rfl (wanted_none rfl) rfl HKP1_0.out (off := 0) (vs := (Ce.cells (Ce.mk (gCm s).1 acc1) (Value.slice aol1 acc1.length capl1))) (by rw [ce_len _ _ (gCm_OK HBY.out).2.1]; kernel_rfl) (one_ce2 _ _ rfl) (by rw [ce_len _ _ (gCm_OK HBY.out).2.1]; decide) (E.v oe2) (by rw [show act.eval ((.tmp 30)) = _ from (E.d 0 0)]; rfl) ?_
      intro u7_1 qc0 hm
      have qB2 : Cs u7_1 (w.heap.size) ((Ce.cells (Ce.mk (gCm s).1 acc1) (Value.slice aol1 acc1.length capl1)) : List Value).toArray 52 := by rw [show lay _ 0 _ = ((Ce.cells (Ce.mk (gCm s).1 acc1) (Value.slice aol1 acc1.length capl1)) : List Value).toArray from lay_whole _ _ (by rw [ce_len _ _ (gCm_OK HBY.out).2.1]; rfl)] at qc0; exact qc0
      clear qc0
      have Hx38 := hid qB2
      have zu7_1 := hm.size
      have Cx39 := hid (show Mod (fun k => (k = w.heap.size)) wl1 u7_1 from hm)
      clear hm
      clear act E qB2 HKP1_0
      refine QSeq.nil (t' := [_, _]) rfl ?_
      have ha0 := HA0.out
      subst ha0
      clear HA0 hsz0 oe2 oe3
      simp only [putAll, Act.put, List.setIfInBounds_toArray, List.set_cons_zero, List.set_cons_succ, List.set_nil]
      have hse : (gCe s).2 = st1 := (congrArg Prod.snd HGL1.out).trans HF1.out.1
      go_wp2
      exact bodyPost_ret (results_cellA rfl _ _ w.heap.size ((Ce.cells (Ce.mk (gCm s).1 acc1) (Value.slice aol1 acc1.length capl1))) rfl (fun k u hu => by rw [Hx38.out.cell]; simpa using hu) Try.underlying52 rfl (by rw [ce_len _ _ (gCm_OK HBY.out).2.1]; kernel_rfl)) rfl ⟨_, (Ce.mk (gCm s).1 acc1), rfl, ⟨_, rfl, gCm_OK HBY.out, (HAL1.out.mod Cx39.out (by intro k h1 h2; omega) (by intro k h1 h2; omega)).rd.widen (by intro b h1; (try dsimp only at h1 ⊢); omega)⟩, (by rw [hse]; exact (HRL1.out.mod Cx39.out (by intro k h1 h2; have hb := HBR.out k h1; omega))), (fun h => by rw [hse] at h; show Ce.mk _ _ = Ce.mk _ (gList gSt (gCm s).2).1; rw [HGL1.out, ← HF1.out.2 h]), (HML1.out.trans Cx39.out (by intro k h1 h2; first | exact h2 | omega))⟩
set_option maxHeartbeats 4000000 in
theorem Ref_Ce : Gets CeR 74 32 (gW zCe gCe) := by
  intro R r s w hR hB hl
  have HRD := Lib.hid hR
  have HBR := Lib.hid hB
  have HBY := hid hR.bytes
  have HLN := Lib.hid hl
  clear hR hB hl
  go_enter Try.func32, Try.ntmps32
  go_upto_region 1 with (fail)
  obtain ⟨w1, hw1⟩ : ∃ zz, zz = (w.alloc (.cells #[.int .i64 0, .int .i64 0, .int .u8 0, .int .u8 0, .int .u8 0, .int .u8 0, .int .u8 0, .int .u8 0, .int .u8 0, .int .u8 0, .int .u8 0, .int .u8 0, .int .u8 0, .int .u8 0, .int .u8 0, .int .u8 0, .int .u8 0, .int .u8 0, .int .u8 0, .int .u8 0, .int .u8 0, .int .u8 0, .int .u8 0, .int .u8 0, .int .u8 0, .int .u8 0, .int .u8 0, .int .u8 0, .int .u8 0, .int .u8 0, .int .u8 0, .int .u8 0, .int .u8 0, .int .u8 0, .int .i64 0, .int .i64 0, .int .i64 0, .slice none 0 0] 52)) := ⟨_, rfl⟩
  change Code.wp _ _ _ _ (w.alloc (.cells #[.int .i64 0, .int .i64 0, .int .u8 0, .int .u8 0, .int .u8 0, .int .u8 0, .int .u8 0, .int .u8 0, .int .u8 0, .int .u8 0, .int .u8 0, .int .u8 0, .int .u8 0, .int .u8 0, .int .u8 0, .int .u8 0, .int .u8 0, .int .u8 0, .int .u8 0, .int .u8 0, .int .u8 0, .int .u8 0, .int .u8 0, .int .u8 0, .int .u8 0, .int .u8 0, .int .u8 0, .int .u8 0, .int .u8 0, .int .u8 0, .int .u8 0, .int .u8 0, .int .u8 0, .int .u8 0, .int .i64 0, .int .i64 0, .int .i64 0, .slice none 0 0] 52))
  rw [← hw1]
  have HB2 := hid (show Cs w1 (w.heap.size) #[.int .i64 0, .int .i64 0, .int .u8 0, .int .u8 0, .int .u8 0, .int .u8 0, .int .u8 0, .int .u8 0, .int .u8 0, .int .u8 0, .int .u8 0, .int .u8 0, .int .u8 0, .int .u8 0, .int .u8 0, .int .u8 0, .int .u8 0, .int .u8 0, .int .u8 0, .int .u8 0, .int .u8 0, .int .u8 0, .int .u8 0, .int .u8 0, .int .u8 0, .int .u8 0, .int .u8 0, .int .u8 0, .int .u8 0, .int .u8 0, .int .u8 0, .int .u8 0, .int .u8 0, .int .u8 0, .int .i64 0, .int .i64 0, .int .i64 0, .slice none 0 0] 52 by rw [hw1]; exact Cs.new _ _ _)
  have hm : Mod (fun _ => False) w w1 := by rw [hw1]; exact (Mod.refl _ _).alloc _
  have HM0 := hid (show Mod (fun k => (R k)) w w1 from hm.mono (fun _ _ h => h.elim))
  have hs1 : w1.heap.size = w.heap.size + 1 := by rw [hw1]; simp
  have Hx1 := hid (HRD.out.mod hm (fun _ _ h => h))
  clear HRD
  clear hw1 hm
  obtain ⟨s2, hp2⟩ : ∃ z, z = (gCe s).2 := ⟨_, rfl⟩
  have HP2 := hid hp2.symm
  clear hp2
  go_upto_region 1 with (fail)
  generalize ha0 : Act.mk _ _ = a0
  have oe0 : a0.eval (.tmp 0) = .pointer (some ⟨r, 0, none⟩) := by rw [← ha0]; rfl
  have hsz0 : a0.tmps.size = 12 := by rw [← ha0]; rfl
  have HA0 := hid ha0
  clear ha0
  refine wp_region_S 12 hsz0 [4, 5, 3, 15] [0, 1, 2, 3] ?_
  refine QSeq.pure rfl (.pointer (some ⟨r, 0, none⟩)) (fun E => ex_move rfl (E.v oe0)) ?_
  refine QSeq.go fun act E => ?_
  refine qc_callF (args := #[.pointer (some ⟨r, 0, none⟩)]) rfl (wanted_none rfl) rfl Try.func82 (args1 (E.d 0 0)) (dCe_U.to HP2.out Hx1.out (by intro k h1; have hb := HBR.out k h1; omega) HLN.out) ?_
  rintro e u1_1 ⟨cs1, y1, rfl, qx1, qrd, hy1, hm⟩
  have HY1 := Lib.hid hy1
  have hcl : cs1.length = 38 := CeR.len qx1
  have HCL := Lib.hid hcl
  have HOC := hid (CeR.one qx1)
  clear hcl hy1
  refine ⟨_, rfl, ?_⟩
  have Hx2 := hid (qx1.widen (R' := (fun k => (New w1 u1_1 k))) (fun _ h => h))
  have Hx3 := hid qrd
  have zu1_1 := hm.size
  have Cx4 := hid (show Mod (fun k => (R k)) w1 u1_1 from hm)
  clear hm
  clear act E qx1 qrd Hx1
  refine QSeq.go fun act E => ?_
  refine qc_alloc rfl (wanted_none rfl) rfl (z := [.int .i64 0, .int .i64 0, .int .u8 0, .int .u8 0, .int .u8 0, .int .u8 0, .int .u8 0, .int .u8 0, .int .u8 0, .int .u8 0, .int .u8 0, .int .u8 0, .int .u8 0, .int .u8 0, .int .u8 0, .int .u8 0, .int .u8 0, .int .u8 0, .int .u8 0, .int .u8 0, .int .u8 0, .int .u8 0, .int .u8 0, .int .u8 0, .int .u8 0, .int .u8 0, .int .u8 0, .int .u8 0, .int .u8 0, .int .u8 0, .int .u8 0, .int .u8 0, .int .u8 0, .int .u8 0, .int .i64 0, .int .i64 0, .int .i64 0, .slice none 0 0]) (by kernel_rfl) ?_
  intro u1_2 qqx hm
  have zl1_2 := qqx.lt
  have Hx5 := hid qqx
  have zu1_2 := hm.size
  have HMu1_2 := hid hm
  have Cx6 := hid (Cx4.out.goE hm)
  clear hm Cx4
  clear act E qqx
  refine QSeq.go fun act E => ?_
  have hlz : (cs1).length = List.length ([.int .i64 0, .int .i64 0, .int .u8 0, .int .u8 0, .int .u8 0, .int .u8 0, .int .u8 0, .int .u8 0, .int .u8 0, .int .u8 0, .int .u8 0, .int .u8 0, .int .u8 0, .int .u8 0, .int .u8 0, .int .u8 0, .int .u8 0, .int .u8 0, .int .u8 0, .int .u8 0, .int .u8 0, .int .u8 0, .int .u8 0, .int .u8 0, .int .u8 0, .int .u8 0, .int .u8 0, .int .u8 0, .int .u8 0, .int .u8 0, .int .u8 0, .int .u8 0, .int .u8 0, .int .u8 0, .int .i64 0, .int .i64 0, .int .i64 0, .slice none 0 0] : List Value) := HCL.out
  refine qc_store rfl (wanted_none rfl) rfl Hx5.out (off := 0) (vs := cs1) (by rw [hlz]; kernel_rfl) HOC.out (by rw [hlz]; exact Nat.le_of_eq (Nat.zero_add _)) (E.d 2 0) (by rw [show act.eval ((.tmp 5)) = _ from (E.d 1 1)]; rfl) ?_
  intro u1_3 qc0 hm
  have qqx : Cs u1_3 (u1_1.heap.size) (cs1 : List Value).toArray 52 := by rw [show lay _ 0 _ = (cs1 : List Value).toArray from lay_whole #[.int .i64 0, .int .i64 0, .int .u8 0, .int .u8 0, .int .u8 0, .int .u8 0, .int .u8 0, .int .u8 0, .int .u8 0, .int .u8 0, .int .u8 0, .int .u8 0, .int .u8 0, .int .u8 0, .int .u8 0, .int .u8 0, .int .u8 0, .int .u8 0, .int .u8 0, .int .u8 0, .int .u8 0, .int .u8 0, .int .u8 0, .int .u8 0, .int .u8 0, .int .u8 0, .int .u8 0, .int .u8 0, .int .u8 0, .int .u8 0, .int .u8 0, .int .u8 0, .int .u8 0, .int .u8 0, .int .i64 0, .int .i64 0, .int .i64 0, .slice none 0 0] _ (by rw [hlz]; rfl)] at qc0; exact qc0
  clear qc0 hlz
  have Hx7 := hid qqx
  have zu1_3 := hm.size
  have HMu1_3 := hid hm
  have Cx8 := hid (Mod.goS (S' := (fun k => (R k))) Cx6.out hm (fun _ h => h) (by intro k h0 h2; omega))
  clear hm Cx6
  clear act E qqx Hx5
  have Hx9 := hid ((Hx3.out.mod HMu1_2.out (fun _ _ h => h)).mod HMu1_3.out (by intro k h1 h2; have hb := HBR.out k h1; omega))
  have Hx10 := hid ((Hx2.out.mod HMu1_2.out (fun _ _ h => h)).mod HMu1_3.out (by intro k h1 h2; omega))
  clear Hx3 Hx2 HMu1_2 HMu1_3
  refine QSeq.nil (t' := [_, _, _, _]) rfl ?_
  have ha0 := HA0.out
  subst ha0
  clear HA0 hsz0 oe0
  simp only [putAll, Act.put, List.setIfInBounds_toArray, List.set_cons_zero, List.set_cons_succ, List.set_nil]
  cases s2 with
  | none =>
    go_upto_region 2 with (fail)
    generalize ha0 : Act.mk _ _ = a0
    have oe0 : a0.eval (.tmp 0) = .pointer (some ⟨r, 0, none⟩) := by rw [← ha0]; rfl
    have hsz0 : a0.tmps.size = 12 := by rw [← ha0]; rfl
    have HA0 := hid ha0
    clear ha0
    refine wp_region_S 12 hsz0 [6, 7, 8, 9] [0, 1, 2, 3] ?_
    refine QSeq.pure rfl (.pointer (some ⟨r, 0, none⟩)) (fun E => ex_move rfl (E.v oe0)) ?_
    refine QSeq.pure rfl (.pointer (some ⟨r, 0, none⟩)) (fun E => ex_nil rfl (E.d 0 0)) ?_
    refine QSeq.pure rfl (.pointer (some ⟨r, 1, none⟩)) (fun E => ex_field rfl Try.underlying74 rfl (by kernel_rfl) (E.d 1 0)) ?_
    refine QSeq.pure rfl (.bool true) (fun E => ex_load1 rfl Try.underlying4 rfl (E.d 2 0) (RrR.bad Hx9.out)) ?_
    refine QSeq.nil (t' := [_, _, _, _]) rfl ?_
    have ha0 := HA0.out
    subst ha0
    clear HA0 hsz0 oe0
    simp only [putAll, Act.put, List.setIfInBounds_toArray, List.set_cons_zero, List.set_cons_succ]
    go_upto_region 3 with (fail)
    generalize ha0 : Act.mk _ _ = a0
    have oe2 : a0.eval (.tmp 2) = .pointer (some ⟨w.heap.size, 0, none⟩) := by rw [← ha0]; rfl
    have hsz0 : a0.tmps.size = 12 := by rw [← ha0]; rfl
    have HA0 := hid ha0
    clear ha0
    refine wp_region_S 12 hsz0 [10, 13] [0, 1] ?_
    refine QSeq.pure rfl (.agg #[.int .i64 0, .int .i64 0, .int .u8 0, .int .u8 0, .int .u8 0, .int .u8 0, .int .u8 0, .int .u8 0, .int .u8 0, .int .u8 0, .int .u8 0, .int .u8 0, .int .u8 0, .int .u8 0, .int .u8 0, .int .u8 0, .int .u8 0, .int .u8 0, .int .u8 0, .int .u8 0, .int .u8 0, .int .u8 0, .int .u8 0, .int .u8 0, .int .u8 0, .int .u8 0, .int .u8 0, .int .u8 0, .int .u8 0, .int .u8 0, .int .u8 0, .int .u8 0, .int .u8 0, .int .u8 0, .int .i64 0, .int .i64 0, .int .i64 0, .slice none 0 0]) (fun E => ex_build0 rfl (r := #[.int .i64 0, .int .i64 0, .int .u8 0, .int .u8 0, .int .u8 0, .int .u8 0, .int .u8 0, .int .u8 0, .int .u8 0, .int .u8 0, .int .u8 0, .int .u8 0, .int .u8 0, .int .u8 0, .int .u8 0, .int .u8 0, .int .u8 0, .int .u8 0, .int .u8 0, .int .u8 0, .int .u8 0, .int .u8 0, .int .u8 0, .int .u8 0, .int .u8 0, .int .u8 0, .int .u8 0, .int .u8 0, .int .u8 0, .int .u8 0, .int .u8 0, .int .u8 0, .int .u8 0, .int .u8 0, .int .i64 0, .int .i64 0, .int .i64 0, .slice none 0 0]) (by kernel_rfl)) ?_
    refine QSeq.go fun act E => ?_
    refine qc_store rfl (wanted_none rfl) rfl (HB2.out.mod Cx8.out (by intro h2; first | omega | (have hb := HBR.out _ h2; omega))) (off := 0) (vs := [.int .i64 0, .int .i64 0, .int .u8 0, .int .u8 0, .int .u8 0, .int .u8 0, .int .u8 0, .int .u8 0, .int .u8 0, .int .u8 0, .int .u8 0, .int .u8 0, .int .u8 0, .int .u8 0, .int .u8 0, .int .u8 0, .int .u8 0, .int .u8 0, .int .u8 0, .int .u8 0, .int .u8 0, .int .u8 0, .int .u8 0, .int .u8 0, .int .u8 0, .int .u8 0, .int .u8 0, .int .u8 0, .int .u8 0, .int .u8 0, .int .u8 0, .int .u8 0, .int .u8 0, .int .u8 0, .int .i64 0, .int .i64 0, .int .i64 0, .slice none 0 0]) (by kernel_rfl) (CeR.one (zCe_rd (fun _ => False) w)) (by show 38 ≤ 38; exact Nat.le_refl _) (E.v oe2) (by rw [show act.eval ((.tmp 10)) = _ from (E.d 0 0)]; rfl) ?_
    intro u3_1 qc0 hm
    have qB2 : Cs u3_1 (w.heap.size) #[.int .i64 0, .int .i64 0, .int .u8 0, .int .u8 0, .int .u8 0, .int .u8 0, .int .u8 0, .int .u8 0, .int .u8 0, .int .u8 0, .int .u8 0, .int .u8 0, .int .u8 0, .int .u8 0, .int .u8 0, .int .u8 0, .int .u8 0, .int .u8 0, .int .u8 0, .int .u8 0, .int .u8 0, .int .u8 0, .int .u8 0, .int .u8 0, .int .u8 0, .int .u8 0, .int .u8 0, .int .u8 0, .int .u8 0, .int .u8 0, .int .u8 0, .int .u8 0, .int .u8 0, .int .u8 0, .int .i64 0, .int .i64 0, .int .i64 0, .slice none 0 0] 52 := by rw [show lay _ 0 _ = #[.int .i64 0, .int .i64 0, .int .u8 0, .int .u8 0, .int .u8 0, .int .u8 0, .int .u8 0, .int .u8 0, .int .u8 0, .int .u8 0, .int .u8 0, .int .u8 0, .int .u8 0, .int .u8 0, .int .u8 0, .int .u8 0, .int .u8 0, .int .u8 0, .int .u8 0, .int .u8 0, .int .u8 0, .int .u8 0, .int .u8 0, .int .u8 0, .int .u8 0, .int .u8 0, .int .u8 0, .int .u8 0, .int .u8 0, .int .u8 0, .int .u8 0, .int .u8 0, .int .u8 0, .int .u8 0, .int .i64 0, .int .i64 0, .int .i64 0, .slice none 0 0] from lay_whole #[.int .i64 0, .int .i64 0, .int .u8 0, .int .u8 0, .int .u8 0, .int .u8 0, .int .u8 0, .int .u8 0, .int .u8 0, .int .u8 0, .int .u8 0, .int .u8 0, .int .u8 0, .int .u8 0, .int .u8 0, .int .u8 0, .int .u8 0, .int .u8 0, .int .u8 0, .int .u8 0, .int .u8 0, .int .u8 0, .int .u8 0, .int .u8 0, .int .u8 0, .int .u8 0, .int .u8 0, .int .u8 0, .int .u8 0, .int .u8 0, .int .u8 0, .int .u8 0, .int .u8 0, .int .u8 0, .int .i64 0, .int .i64 0, .int .i64 0, .slice none 0 0] [.int .i64 0, .int .i64 0, .int .u8 0, .int .u8 0, .int .u8 0, .int .u8 0, .int .u8 0, .int .u8 0, .int .u8 0, .int .u8 0, .int .u8 0, .int .u8 0, .int .u8 0, .int .u8 0, .int .u8 0, .int .u8 0, .int .u8 0, .int .u8 0, .int .u8 0, .int .u8 0, .int .u8 0, .int .u8 0, .int .u8 0, .int .u8 0, .int .u8 0, .int .u8 0, .int .u8 0, .int .u8 0, .int .u8 0, .int .u8 0, .int .u8 0, .int .u8 0, .int .u8 0, .int .u8 0, .int .i64 0, .int .i64 0, .int .i64 0, .slice none 0 0] rfl] at qc0; exact qc0
    clear qc0
    have Hx11 := hid qB2
    have zu3_1 := hm.size
    have Cx12 := hid (show Mod (fun k => (k = w.heap.size)) u1_3 u3_1 from hm)
    clear hm
    clear act E qB2 HB2
    refine QSeq.nil (t' := [_, _]) rfl ?_
    have ha0 := HA0.out
    subst ha0
    clear HA0 hsz0 oe2
    simp only [putAll, Act.put, List.setIfInBounds_toArray, List.set_cons_zero, List.set_cons_succ, List.set_nil]
    go_wp2
    exact bodyPost_ret (results_cellA rfl _ _ w.heap.size ([.int .i64 0, .int .i64 0, .int .u8 0, .int .u8 0, .int .u8 0, .int .u8 0, .int .u8 0, .int .u8 0, .int .u8 0, .int .u8 0, .int .u8 0, .int .u8 0, .int .u8 0, .int .u8 0, .int .u8 0, .int .u8 0, .int .u8 0, .int .u8 0, .int .u8 0, .int .u8 0, .int .u8 0, .int .u8 0, .int .u8 0, .int .u8 0, .int .u8 0, .int .u8 0, .int .u8 0, .int .u8 0, .int .u8 0, .int .u8 0, .int .u8 0, .int .u8 0, .int .u8 0, .int .u8 0, .int .i64 0, .int .i64 0, .int .i64 0, .slice none 0 0]) rfl (fun k u hu => by rw [Hx11.out.cell]; simpa using hu) Try.underlying52 rfl (by kernel_rfl)) rfl ⟨_, rfl, (by show CeR.rd _ _ _ (if (gCe s).2.isSome then _ else _); rw [HP2.out]; exact zCe_rd _ _), (by show RrR _ _ _ _ (gCe s).2; rw [HP2.out]; exact (Hx9.out.mod Cx12.out (by intro k h1 h2; have hb := HBR.out k h1; omega))), ((HM0.out.trans Cx8.out (fun _ _ h => h)).trans Cx12.out (by intro k h1 h2; first | exact h2 | omega))⟩
  | some l2 =>
    go_upto_region 2 with (fail)
    generalize ha0 : Act.mk _ _ = a0
    have oe0 : a0.eval (.tmp 0) = .pointer (some ⟨r, 0, none⟩) := by rw [← ha0]; rfl
    have hsz0 : a0.tmps.size = 12 := by rw [← ha0]; rfl
    have HA0 := hid ha0
    clear ha0
    refine wp_region_S 12 hsz0 [6, 7, 8, 9] [0, 1, 2, 3] ?_
    refine QSeq.pure rfl (.pointer (some ⟨r, 0, none⟩)) (fun E => ex_move rfl (E.v oe0)) ?_
    refine QSeq.pure rfl (.pointer (some ⟨r, 0, none⟩)) (fun E => ex_nil rfl (E.d 0 0)) ?_
    refine QSeq.pure rfl (.pointer (some ⟨r, 1, none⟩)) (fun E => ex_field rfl Try.underlying74 rfl (by kernel_rfl) (E.d 1 0)) ?_
    refine QSeq.pure rfl (.bool false) (fun E => ex_load1 rfl Try.underlying4 rfl (E.d 2 0) (RrR.bad Hx9.out)) ?_
    refine QSeq.nil (t' := [_, _, _, _]) rfl ?_
    have ha0 := HA0.out
    subst ha0
    clear HA0 hsz0 oe0
    simp only [putAll, Act.put, List.setIfInBounds_toArray, List.set_cons_zero, List.set_cons_succ]
    go_upto_region 4 with (fail)
    generalize ha0 : Act.mk _ _ = a0
    have oe2 : a0.eval (.tmp 2) = .pointer (some ⟨w.heap.size, 0, none⟩) := by rw [← ha0]; rfl
    have oe3 : a0.eval (.tmp 3) = .pointer (some ⟨u1_1.heap.size, 0, none⟩) := by rw [← ha0]; rfl
    have hsz0 : a0.tmps.size = 12 := by rw [← ha0]; rfl
    have HA0 := hid ha0
    clear ha0
    refine wp_region_S 12 hsz0 [11, 13] [0, 1] ?_
    refine QSeq.pure rfl (.agg cs1.toArray) (fun E => ex_loadA rfl Try.underlying52 rfl (off := 0) (cs := cs1) (by rw [HCL.out]; kernel_rfl) (E.v oe3) (Cs.whole Hx7.out)) ?_
    refine QSeq.go fun act E => ?_
    refine qc_store rfl (wanted_none rfl) rfl (HB2.out.mod Cx8.out (by intro h2; first | omega | (have hb := HBR.out _ h2; omega))) (off := 0) (vs := cs1) (by rw [HCL.out]; kernel_rfl) HOC.out (by rw [HCL.out]; decide) (E.v oe2) (by rw [show act.eval ((.tmp 11)) = _ from (E.d 0 0)]; rfl) ?_
    intro u4_1 qc0 hm
    have qB2 : Cs u4_1 (w.heap.size) (cs1 : List Value).toArray 52 := by rw [show lay _ 0 _ = (cs1 : List Value).toArray from lay_whole _ _ (by rw [HCL.out]; rfl)] at qc0; exact qc0
    clear qc0
    have Hx13 := hid qB2
    have zu4_1 := hm.size
    have Cx14 := hid (show Mod (fun k => (k = w.heap.size)) u1_3 u4_1 from hm)
    clear hm
    clear act E qB2 HB2
    refine QSeq.nil (t' := [_, _]) rfl ?_
    have ha0 := HA0.out
    subst ha0
    clear HA0 hsz0 oe2 oe3
    simp only [putAll, Act.put, List.setIfInBounds_toArray, List.set_cons_zero, List.set_cons_succ, List.set_nil]
    go_wp2
    exact bodyPost_ret (results_cellA rfl _ _ w.heap.size (cs1) rfl (fun k u hu => by rw [Hx13.out.cell]; simpa using hu) Try.underlying52 rfl (by rw [HCL.out]; kernel_rfl)) rfl ⟨_, rfl, (by show CeR.rd _ _ _ (if (gCe s).2.isSome then (gCe s).1 else _); rw [← HY1.out (by simp), HP2.out]; exact ((Hx10.out.mod Cx14.out (by intro k h1 h2; omega)).widen (R' := (fun k => New w u4_1 k)) (by intro k h1; omega))), (by show RrR _ _ _ _ (gCe s).2; rw [HP2.out]; exact (Hx9.out.mod Cx14.out (by intro k h1 h2; have hb := HBR.out k h1; omega))), ((HM0.out.trans Cx8.out (fun _ _ h => h)).trans Cx14.out (by intro k h1 h2; first | exact h2 | omega))⟩
end Go.Proofs.Ytknpapcfhnhheaa
