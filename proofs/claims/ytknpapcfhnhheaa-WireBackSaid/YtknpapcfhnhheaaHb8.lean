/- Texts that are built one behind the other: XGw, XCmEq, XEq, XEb, XKp1. No condition. -/
import Derived.Test.YtknpapcfhnhheaaHb7
/- Whole parts of messages, read (package wire). -/
set_option maxRecDepth 100000
set_option linter.unusedVariables false
namespace Go.Proofs.Ytknpapcfhnhheaa
open Go Go.RowKit Go.Gv


def gW {α : Type} (z : α) (g : RSt → α × RSt) (s : RSt) : α × RSt := (if (g s).2.isSome then (g s).1 else z, (g s).2)
def zCe : Ce := ⟨⟨0, 0, List.replicate 32 0, 0, 0, 0⟩, []⟩
def zPm : Pm := ⟨0, 0, 0, [], 0, 0⟩
def zBa : Ba := ⟨0, 0, [], [], []⟩
theorem HK_zero : HK (List.replicate 32 0) := by
  refine ⟨by simp, ?_⟩
  intro x hx
  simp at hx
  subst hx
  decide
theorem I64_0 : I64 0 := by unfold I64; decide
theorem U64_0 : 0 < U64 := by unfold U64; decide
theorem zCe_OK : zCe.OK := ⟨⟨I64_0, I64_0, I64_0, I64_0, I64_0⟩, HK_zero⟩
theorem zPm_OK : zPm.OK := ⟨I64_0, I64_0, U64_0, I64_0, I64_0⟩
theorem zBa_OK : zBa.OK := ⟨I64_0, U64_0⟩
theorem zCe_rd (R : Nat → Prop) (w : World) : CeR.rd R w (zCe.cells (.slice none 0 0)) zCe := ⟨_, rfl, zCe_OK, RdS.nil _ _ _⟩
theorem zPm_rd (R : Nat → Prop) (w : World) : PmR.rd R w (zPm.cells (.slice none 0 0)) zPm := ⟨_, rfl, zPm_OK, RdS.nil _ _ _⟩
theorem zBa_rd (R : Nat → Prop) (w : World) : BaR.rd R w (zBa.cells (.slice none 0 0) (.slice none 0 0) (.slice none 0 0)) zBa := ⟨_, _, _, rfl, zBa_OK, RdS.nil _ _ _, RdS.nil _ _ _, RdS.nil _ _ _⟩
set_option maxHeartbeats 4000000 in
theorem whole_Ce : ∀ (R R2 : Nat → Prop) (r : Nat) (s : RSt) (cs : List Value) (x : Ce) (w : World), RrR 125 R w r s → (∀ k, R k → k < w.heap.size) → CeR.rd R2 w cs x → (∀ k, R2 k → k < w.heap.size) →
    Calls Try.prog 80 #[.pointer (some ⟨r, 0, none⟩), .agg cs.toArray] w fun e w' => ∃ cs', e = .returned (.agg cs'.toArray) ∧ CeR.rd R2 w' cs' (if s.isSome then x else zCe) ∧ Mod (fun _ => False) w w' := by
  intro R R2 r s cs x w hR hB hx hB2
  have hcl : cs.length = 38 := CeR.len hx
  have HCL := Lib.hid hcl
  have HOC := hid (CeR.one hx)
  have HRD := Lib.hid hR
  have HBR := Lib.hid hB
  have HX := Lib.hid hx
  have HBT := Lib.hid hB2
  clear hR hB hx hB2 hcl
  go_enter Try.func80, Try.ntmps80
  go_upto_region 1 with (fail)
  obtain ⟨w1, hw1⟩ : ∃ zz, zz = ((w.alloc (.cells (cs : List Value).toArray 52)).alloc (.cells #[.int .i64 0, .int .i64 0, .int .u8 0, .int .u8 0, .int .u8 0, .int .u8 0, .int .u8 0, .int .u8 0, .int .u8 0, .int .u8 0, .int .u8 0, .int .u8 0, .int .u8 0, .int .u8 0, .int .u8 0, .int .u8 0, .int .u8 0, .int .u8 0, .int .u8 0, .int .u8 0, .int .u8 0, .int .u8 0, .int .u8 0, .int .u8 0, .int .u8 0, .int .u8 0, .int .u8 0, .int .u8 0, .int .u8 0, .int .u8 0, .int .u8 0, .int .u8 0, .int .u8 0, .int .u8 0, .int .i64 0, .int .i64 0, .int .i64 0, .slice none 0 0] 52)) := ⟨_, rfl⟩
  change Code.wp _ _ _ _ ((w.alloc (.cells (cs : List Value).toArray 52)).alloc (.cells #[.int .i64 0, .int .i64 0, .int .u8 0, .int .u8 0, .int .u8 0, .int .u8 0, .int .u8 0, .int .u8 0, .int .u8 0, .int .u8 0, .int .u8 0, .int .u8 0, .int .u8 0, .int .u8 0, .int .u8 0, .int .u8 0, .int .u8 0, .int .u8 0, .int .u8 0, .int .u8 0, .int .u8 0, .int .u8 0, .int .u8 0, .int .u8 0, .int .u8 0, .int .u8 0, .int .u8 0, .int .u8 0, .int .u8 0, .int .u8 0, .int .u8 0, .int .u8 0, .int .u8 0, .int .u8 0, .int .i64 0, .int .i64 0, .int .i64 0, .slice none 0 0] 52))
  rw [← hw1]
  have HB3 := hid (show Cs w1 (w.heap.size) (cs : List Value).toArray 52 by rw [hw1]; exact (Cs.new _ _ _).alloc _)
  have HB4 := hid (show Cs w1 (w.heap.size + 1) #[.int .i64 0, .int .i64 0, .int .u8 0, .int .u8 0, .int .u8 0, .int .u8 0, .int .u8 0, .int .u8 0, .int .u8 0, .int .u8 0, .int .u8 0, .int .u8 0, .int .u8 0, .int .u8 0, .int .u8 0, .int .u8 0, .int .u8 0, .int .u8 0, .int .u8 0, .int .u8 0, .int .u8 0, .int .u8 0, .int .u8 0, .int .u8 0, .int .u8 0, .int .u8 0, .int .u8 0, .int .u8 0, .int .u8 0, .int .u8 0, .int .u8 0, .int .u8 0, .int .u8 0, .int .u8 0, .int .i64 0, .int .i64 0, .int .i64 0, .slice none 0 0] 52 by rw [hw1]; exact Cs_newN _ _ _ (by simp))
  have hm : Mod (fun _ => False) w w1 := by rw [hw1]; exact ((Mod.refl _ _).alloc _).alloc _
  have HM0 := hid (show Mod (fun _ => False) w w1 from hm.mono (fun _ _ h => h.elim))
  have hs1 : w1.heap.size = w.heap.size + 2 := by rw [hw1]; simp
  have Hx1 := hid (HRD.out.mod hm (fun _ _ h => h))
  clear HRD
  have Hx2 := hid (HX.out.mod hm (fun _ _ h => h))
  clear HX
  clear hw1 hm
  go_upto_region 1 with (fail)
  generalize ha0 : Act.mk _ _ = a0
  have hsz0 : a0.tmps.size = 11 := by rw [← ha0]; rfl
  have HA0 := hid ha0
  clear ha0
  refine wp_region_S 11 hsz0 [5] [0] ?_
  refine QSeq.go fun act E => ?_
  refine qc_alloc rfl (wanted_none rfl) rfl (z := [.int .i64 0, .int .i64 0, .int .u8 0, .int .u8 0, .int .u8 0, .int .u8 0, .int .u8 0, .int .u8 0, .int .u8 0, .int .u8 0, .int .u8 0, .int .u8 0, .int .u8 0, .int .u8 0, .int .u8 0, .int .u8 0, .int .u8 0, .int .u8 0, .int .u8 0, .int .u8 0, .int .u8 0, .int .u8 0, .int .u8 0, .int .u8 0, .int .u8 0, .int .u8 0, .int .u8 0, .int .u8 0, .int .u8 0, .int .u8 0, .int .u8 0, .int .u8 0, .int .u8 0, .int .u8 0, .int .i64 0, .int .i64 0, .int .i64 0, .slice none 0 0]) (by kernel_rfl) ?_
  intro u1_0 qB5 hm
  have zl1_0 := qB5.lt
  have Hx3 := hid qB5
  have zu1_0 := hm.size
  have Cx4 := hid (show Mod (fun _ => False) w1 u1_0 from hm)
  clear hm
  clear act E qB5
  refine QSeq.nil (t' := [_]) rfl ?_
  have ha0 := HA0.out
  subst ha0
  clear HA0 hsz0
  simp only [putAll, Act.put, List.setIfInBounds_toArray, List.set_cons_zero, List.set_cons_succ]
  cases s with
  | none =>
    go_upto_region 2 with (fail)
    generalize ha0 : Act.mk _ _ = a0
    have oe0 : a0.eval (.tmp 0) = .pointer (some ⟨r, 0, none⟩) := by rw [← ha0]; rfl
    have hsz0 : a0.tmps.size = 11 := by rw [← ha0]; rfl
    have HA0 := hid ha0
    clear ha0
    refine wp_region_S 11 hsz0 [6, 7, 8] [0, 1, 2] ?_
    refine QSeq.pure rfl (.pointer (some ⟨r, 0, none⟩)) (fun E => ex_move rfl (E.v oe0)) ?_
    refine QSeq.go fun act E => ?_
    refine qc_callF (args := #[.pointer (some ⟨r, 0, none⟩)]) rfl (wanted_none rfl) rfl Try.func39 (args1 (E.d 0 0)) (OK_R (Hx1.out.mod Cx4.out (fun _ _ h => h))) ?_
    rintro e w2 ⟨rfl, hw2⟩
    obtain rfl : u1_0 = w2 := by first | exact hw2 | exact hw2.symm
    refine ⟨_, rfl, ?_⟩
    clear act E
    refine QSeq.pure rfl (.bool true) (fun E => ex_not rfl (E.d 1 0)) ?_
    refine QSeq.nil (t' := [_, _, _]) rfl ?_
    have ha0 := HA0.out
    subst ha0
    clear HA0 hsz0 oe0
    simp only [putAll, Act.put, List.setIfInBounds_toArray, List.set_cons_zero, List.set_cons_succ]
    go_upto_region 3 with (fail)
    generalize ha0 : Act.mk _ _ = a0
    have oe4 : a0.eval (.tmp 4) = .pointer (some ⟨w.heap.size + 1, 0, none⟩) := by rw [← ha0]; rfl
    have oe5 : a0.eval (.tmp 5) = .pointer (some ⟨w1.heap.size, 0, none⟩) := by rw [← ha0]; rfl
    have hsz0 : a0.tmps.size = 11 := by rw [← ha0]; rfl
    have HA0 := hid ha0
    clear ha0
    refine wp_region_S 11 hsz0 [9, 12] [0, 1] ?_
    refine QSeq.pure rfl (.agg #[.int .i64 0, .int .i64 0, .int .u8 0, .int .u8 0, .int .u8 0, .int .u8 0, .int .u8 0, .int .u8 0, .int .u8 0, .int .u8 0, .int .u8 0, .int .u8 0, .int .u8 0, .int .u8 0, .int .u8 0, .int .u8 0, .int .u8 0, .int .u8 0, .int .u8 0, .int .u8 0, .int .u8 0, .int .u8 0, .int .u8 0, .int .u8 0, .int .u8 0, .int .u8 0, .int .u8 0, .int .u8 0, .int .u8 0, .int .u8 0, .int .u8 0, .int .u8 0, .int .u8 0, .int .u8 0, .int .i64 0, .int .i64 0, .int .i64 0, .slice none 0 0]) (fun E => ex_loadA rfl Try.underlying52 rfl (off := 0) (cs := [.int .i64 0, .int .i64 0, .int .u8 0, .int .u8 0, .int .u8 0, .int .u8 0, .int .u8 0, .int .u8 0, .int .u8 0, .int .u8 0, .int .u8 0, .int .u8 0, .int .u8 0, .int .u8 0, .int .u8 0, .int .u8 0, .int .u8 0, .int .u8 0, .int .u8 0, .int .u8 0, .int .u8 0, .int .u8 0, .int .u8 0, .int .u8 0, .int .u8 0, .int .u8 0, .int .u8 0, .int .u8 0, .int .u8 0, .int .u8 0, .int .u8 0, .int .u8 0, .int .u8 0, .int .u8 0, .int .i64 0, .int .i64 0, .int .i64 0, .slice none 0 0]) (by kernel_rfl) (E.v oe5) (Cs.whole Hx3.out)) ?_
    refine QSeq.go fun act E => ?_
    refine qc_store rfl (wanted_none rfl) rfl (HB4.out.mod Cx4.out (fun h => h)) (off := 0) (vs := [.int .i64 0, .int .i64 0, .int .u8 0, .int .u8 0, .int .u8 0, .int .u8 0, .int .u8 0, .int .u8 0, .int .u8 0, .int .u8 0, .int .u8 0, .int .u8 0, .int .u8 0, .int .u8 0, .int .u8 0, .int .u8 0, .int .u8 0, .int .u8 0, .int .u8 0, .int .u8 0, .int .u8 0, .int .u8 0, .int .u8 0, .int .u8 0, .int .u8 0, .int .u8 0, .int .u8 0, .int .u8 0, .int .u8 0, .int .u8 0, .int .u8 0, .int .u8 0, .int .u8 0, .int .u8 0, .int .i64 0, .int .i64 0, .int .i64 0, .slice none 0 0]) (by kernel_rfl) (CeR.one (zCe_rd (fun _ => False) w)) (by show 38 ≤ 38; exact Nat.le_refl _) (E.v oe4) (by rw [show act.eval ((.tmp 9)) = _ from (E.d 0 0)]; rfl) ?_
    intro u3_1 qc0 hm
    have qB4 : Cs u3_1 (w.heap.size + 1) #[.int .i64 0, .int .i64 0, .int .u8 0, .int .u8 0, .int .u8 0, .int .u8 0, .int .u8 0, .int .u8 0, .int .u8 0, .int .u8 0, .int .u8 0, .int .u8 0, .int .u8 0, .int .u8 0, .int .u8 0, .int .u8 0, .int .u8 0, .int .u8 0, .int .u8 0, .int .u8 0, .int .u8 0, .int .u8 0, .int .u8 0, .int .u8 0, .int .u8 0, .int .u8 0, .int .u8 0, .int .u8 0, .int .u8 0, .int .u8 0, .int .u8 0, .int .u8 0, .int .u8 0, .int .u8 0, .int .i64 0, .int .i64 0, .int .i64 0, .slice none 0 0] 52 := by rw [show lay _ 0 _ = #[.int .i64 0, .int .i64 0, .int .u8 0, .int .u8 0, .int .u8 0, .int .u8 0, .int .u8 0, .int .u8 0, .int .u8 0, .int .u8 0, .int .u8 0, .int .u8 0, .int .u8 0, .int .u8 0, .int .u8 0, .int .u8 0, .int .u8 0, .int .u8 0, .int .u8 0, .int .u8 0, .int .u8 0, .int .u8 0, .int .u8 0, .int .u8 0, .int .u8 0, .int .u8 0, .int .u8 0, .int .u8 0, .int .u8 0, .int .u8 0, .int .u8 0, .int .u8 0, .int .u8 0, .int .u8 0, .int .i64 0, .int .i64 0, .int .i64 0, .slice none 0 0] from lay_whole #[.int .i64 0, .int .i64 0, .int .u8 0, .int .u8 0, .int .u8 0, .int .u8 0, .int .u8 0, .int .u8 0, .int .u8 0, .int .u8 0, .int .u8 0, .int .u8 0, .int .u8 0, .int .u8 0, .int .u8 0, .int .u8 0, .int .u8 0, .int .u8 0, .int .u8 0, .int .u8 0, .int .u8 0, .int .u8 0, .int .u8 0, .int .u8 0, .int .u8 0, .int .u8 0, .int .u8 0, .int .u8 0, .int .u8 0, .int .u8 0, .int .u8 0, .int .u8 0, .int .u8 0, .int .u8 0, .int .i64 0, .int .i64 0, .int .i64 0, .slice none 0 0] [.int .i64 0, .int .i64 0, .int .u8 0, .int .u8 0, .int .u8 0, .int .u8 0, .int .u8 0, .int .u8 0, .int .u8 0, .int .u8 0, .int .u8 0, .int .u8 0, .int .u8 0, .int .u8 0, .int .u8 0, .int .u8 0, .int .u8 0, .int .u8 0, .int .u8 0, .int .u8 0, .int .u8 0, .int .u8 0, .int .u8 0, .int .u8 0, .int .u8 0, .int .u8 0, .int .u8 0, .int .u8 0, .int .u8 0, .int .u8 0, .int .u8 0, .int .u8 0, .int .u8 0, .int .u8 0, .int .i64 0, .int .i64 0, .int .i64 0, .slice none 0 0] rfl] at qc0; exact qc0
    clear qc0
    have Hx5 := hid qB4
    have zu3_1 := hm.size
    have Cx6 := hid (show Mod (fun k => (k = w.heap.size + 1)) u1_0 u3_1 from hm)
    clear hm
    clear act E qB4 HB4
    refine QSeq.nil (t' := [_, _]) rfl ?_
    have ha0 := HA0.out
    subst ha0
    clear HA0 hsz0 oe4 oe5
    simp only [putAll, Act.put, List.setIfInBounds_toArray, List.set_cons_zero, List.set_cons_succ, List.set_nil]
    go_wp2
    exact bodyPost_ret (results_cellA rfl _ _ (w.heap.size + 1) ([.int .i64 0, .int .i64 0, .int .u8 0, .int .u8 0, .int .u8 0, .int .u8 0, .int .u8 0, .int .u8 0, .int .u8 0, .int .u8 0, .int .u8 0, .int .u8 0, .int .u8 0, .int .u8 0, .int .u8 0, .int .u8 0, .int .u8 0, .int .u8 0, .int .u8 0, .int .u8 0, .int .u8 0, .int .u8 0, .int .u8 0, .int .u8 0, .int .u8 0, .int .u8 0, .int .u8 0, .int .u8 0, .int .u8 0, .int .u8 0, .int .u8 0, .int .u8 0, .int .u8 0, .int .u8 0, .int .i64 0, .int .i64 0, .int .i64 0, .slice none 0 0]) rfl (fun k u hu => by rw [Hx5.out.cell]; simpa using hu) Try.underlying52 rfl (by kernel_rfl)) rfl ⟨_, rfl, zCe_rd _ _, ((HM0.out.trans Cx4.out (fun _ _ h => h.elim)).trans Cx6.out (by intro k h1 h2; omega))⟩
  | some l =>
    go_upto_region 2 with (fail)
    generalize ha0 : Act.mk _ _ = a0
    have oe0 : a0.eval (.tmp 0) = .pointer (some ⟨r, 0, none⟩) := by rw [← ha0]; rfl
    have hsz0 : a0.tmps.size = 11 := by rw [← ha0]; rfl
    have HA0 := hid ha0
    clear ha0
    refine wp_region_S 11 hsz0 [6, 7, 8] [0, 1, 2] ?_
    refine QSeq.pure rfl (.pointer (some ⟨r, 0, none⟩)) (fun E => ex_move rfl (E.v oe0)) ?_
    refine QSeq.go fun act E => ?_
    refine qc_callF (args := #[.pointer (some ⟨r, 0, none⟩)]) rfl (wanted_none rfl) rfl Try.func39 (args1 (E.d 0 0)) (OK_R (Hx1.out.mod Cx4.out (fun _ _ h => h))) ?_
    rintro e w2 ⟨rfl, hw2⟩
    obtain rfl : u1_0 = w2 := by first | exact hw2 | exact hw2.symm
    refine ⟨_, rfl, ?_⟩
    clear act E
    refine QSeq.pure rfl (.bool false) (fun E => ex_not rfl (E.d 1 0)) ?_
    refine QSeq.nil (t' := [_, _, _]) rfl ?_
    have ha0 := HA0.out
    subst ha0
    clear HA0 hsz0 oe0
    simp only [putAll, Act.put, List.setIfInBounds_toArray, List.set_cons_zero, List.set_cons_succ]
    go_upto_region 4 with (fail)
    generalize ha0 : Act.mk _ _ = a0
    have oe3 : a0.eval (.tmp 3) = .pointer (some ⟨w.heap.size, 0, none⟩) := by rw [← ha0]; rfl
    have oe4 : a0.eval (.tmp 4) = .pointer (some ⟨w.heap.size + 1, 0, none⟩) := by rw [← ha0]; rfl
    have hsz0 : a0.tmps.size = 11 := by rw [← ha0]; rfl
    have HA0 := hid ha0
    clear ha0
    refine wp_region_S 11 hsz0 [10, 12] [0, 1] ?_
    refine QSeq.pure rfl (.agg cs.toArray) (fun E => ex_loadA rfl Try.underlying52 rfl (off := 0) (cs := cs) (by rw [HCL.out]; kernel_rfl) (E.v oe3) (Cs.whole (HB3.out.mod Cx4.out (fun h => h)))) ?_
    refine QSeq.go fun act E => ?_
    refine qc_store rfl (wanted_none rfl) rfl (HB4.out.mod Cx4.out (fun h => h)) (off := 0) (vs := cs) (by rw [HCL.out]; kernel_rfl) HOC.out (by rw [HCL.out]; decide) (E.v oe4) (by rw [show act.eval ((.tmp 10)) = _ from (E.d 0 0)]; rfl) ?_
    intro u4_1 qc0 hm
    have qB4 : Cs u4_1 (w.heap.size + 1) (cs : List Value).toArray 52 := by rw [show lay _ 0 _ = (cs : List Value).toArray from lay_whole _ _ (by rw [HCL.out]; rfl)] at qc0; exact qc0
    clear qc0
    have Hx7 := hid qB4
    have zu4_1 := hm.size
    have Cx8 := hid (show Mod (fun k => (k = w.heap.size + 1)) u1_0 u4_1 from hm)
    clear hm
    clear act E qB4 HB4
    refine QSeq.nil (t' := [_, _]) rfl ?_
    have ha0 := HA0.out
    subst ha0
    clear HA0 hsz0 oe3 oe4
    simp only [putAll, Act.put, List.setIfInBounds_toArray, List.set_cons_zero, List.set_cons_succ, List.set_nil]
    go_wp2
    exact bodyPost_ret (results_cellA rfl _ _ (w.heap.size + 1) (cs) rfl (fun k u hu => by rw [Hx7.out.cell]; simpa using hu) Try.underlying52 rfl (by rw [HCL.out]; kernel_rfl)) rfl ⟨_, rfl, ((Hx2.out.mod Cx4.out (fun _ _ h => h)).mod Cx8.out (by intro k h1 h2; have hb := HBT.out k h1; omega)), ((HM0.out.trans Cx4.out (fun _ _ h => h.elim)).trans Cx8.out (by intro k h1 h2; omega))⟩
set_option maxHeartbeats 4000000 in
theorem Wire_Ce : Gets CeR 125 31 (gW zCe gCe) := by
  intro R r s w hR hB hl
  have HRD := Lib.hid hR
  have HBR := Lib.hid hB
  have HLN := Lib.hid hl
  clear hR hB hl
  go_enter Try.func31, Try.ntmps31
  go_upto_region 1 with (fail)
  obtain ⟨w1, hw1⟩ : ∃ zz, zz = (w.alloc (.cells #[.int .i64 0, .int .i64 0, .int .u8 0, .int .u8 0, .int .u8 0, .int .u8 0, .int .u8 0, .int .u8 0, .int .u8 0, .int .u8 0, .int .u8 0, .int .u8 0, .int .u8 0, .int .u8 0, .int .u8 0, .int .u8 0, .int .u8 0, .int .u8 0, .int .u8 0, .int .u8 0, .int .u8 0, .int .u8 0, .int .u8 0, .int .u8 0, .int .u8 0, .int .u8 0, .int .u8 0, .int .u8 0, .int .u8 0, .int .u8 0, .int .u8 0, .int .u8 0, .int .u8 0, .int .u8 0, .int .i64 0, .int .i64 0, .int .i64 0, .slice none 0 0] 52)) := ⟨_, rfl⟩
  change Code.wp _ _ _ _ (w.alloc (.cells #[.int .i64 0, .int .i64 0, .int .u8 0, .int .u8 0, .int .u8 0, .int .u8 0, .int .u8 0, .int .u8 0, .int .u8 0, .int .u8 0, .int .u8 0, .int .u8 0, .int .u8 0, .int .u8 0, .int .u8 0, .int .u8 0, .int .u8 0, .int .u8 0, .int .u8 0, .int .u8 0, .int .u8 0, .int .u8 0, .int .u8 0, .int .u8 0, .int .u8 0, .int .u8 0, .int .u8 0, .int .u8 0, .int .u8 0, .int .u8 0, .int .u8 0, .int .u8 0, .int .u8 0, .int .u8 0, .int .i64 0, .int .i64 0, .int .i64 0, .slice none 0 0] 52))
  rw [← hw1]
  have HB2 := hid (show Cs w1 (w.heap.size) #[.int .i64 0, .int .i64 0, .int .u8 0, .int .u8 0, .int .u8 0, .int .u8 0, .int .u8 0, .int .u8 0, .int .u8 0, .int .u8 0, .int .u8 0, .int .u8 0, .int .u8 0, .int .u8 0, .int .u8 0, .int .u8 0, .int .u8 0, .int .u8 0, .int .u8 0, .int .u8 0, .int .u8 0, .int .u8 0, .int .u8 0, .int .u8 0, .int .u8 0, .int .u8 0, .int .u8 0, .int .u8 0, .int .u8 0, .int .u8 0, .int .u8 0, .int .u8 0, .int .u8 0, .int .u8 0, .int .i64 0, .int .i64 0, .int .i64 0, .slice none 0 0] 52 by rw [hw1]; exact Cs.new _ _ _)
  have hm : Mod (fun _ => False) w w1 := by rw [hw1]; exact (Mod.refl _ _).alloc _
  have HM0 := hid (show Mod (fun k => (R k)) w w1 from hm.mono (fun _ _ h => h.elim))
  have hs1 : w1.heap.size = w.heap.size + 1 := by rw [hw1]; simp
  have Hx1 := hid (HRD.out.mod hm (fun _ _ h => h))
  clear HRD
  clear hw1 hm
  go_upto_region 1 with (fail)
  generalize ha0 : Act.mk _ _ = a0
  have oe0 : a0.eval (.tmp 0) = .pointer (some ⟨r, 0, none⟩) := by rw [← ha0]; rfl
  have oe2 : a0.eval (.tmp 2) = .pointer (some ⟨w.heap.size, 0, none⟩) := by rw [← ha0]; rfl
  have hsz0 : a0.tmps.size = 7 := by rw [← ha0]; rfl
  have HA0 := hid ha0
  clear ha0
  refine wp_region_S 7 hsz0 [3, 4, 5, 6, 11] [0, 1, 2, 3, 4] ?_
  refine QSeq.pure rfl (.pointer (some ⟨r, 0, none⟩)) (fun E => ex_move rfl (E.v oe0)) ?_
  refine QSeq.pure rfl (.pointer (some ⟨r, 0, none⟩)) (fun E => ex_move rfl (E.v oe0)) ?_
  refine QSeq.go fun act E => ?_
  refine qc_callF (args := #[.pointer (some ⟨r, 0, none⟩)]) rfl (wanted_none rfl) rfl Try.func81 (args1 (E.d 1 0)) (cCe_G _ _ _ _ Hx1.out (by intro k h1; have hb := HBR.out k h1; omega) HLN.out) ?_
  rintro e u1_2 ⟨cs1, rfl, qx1, qrd, hm⟩
  refine ⟨_, rfl, ?_⟩
  have Hx2 := hid (qx1.widen (R' := (fun k => (New w1 u1_2 k))) (fun _ h => h))
  have Hx3 := hid qrd
  have zu1_2 := hm.size
  have Cx4 := hid (show Mod (fun k => (R k)) w1 u1_2 from hm)
  clear hm
  clear act E qx1 qrd Hx1
  refine QSeq.go fun act E => ?_
  refine qc_callF (args := #[.pointer (some ⟨r, 0, none⟩), .agg cs1.toArray]) rfl (wanted_none rfl) rfl Try.func80 (args2 (E.d 0 2) (E.d 2 0)) (whole_Ce _ _ _ _ _ _ _ Hx3.out (by intro k h1; have hb := HBR.out k h1; omega) Hx2.out (by intro k h1; omega)) ?_
  rintro e u1_3 ⟨cs2, rfl, qx1, hm⟩
  have hcl : cs2.length = 38 := CeR.len qx1
  have HCL := Lib.hid hcl
  have HOC := hid (CeR.one qx1)
  clear hcl
  refine ⟨_, rfl, ?_⟩
  have Hx5 := hid qx1
  have zu1_3 := hm.size
  have HMu1_3 := hid hm
  have Cx6 := hid (Cx4.out.goE hm)
  clear hm Cx4
  clear act E qx1 Hx2
  refine QSeq.go fun act E => ?_
  refine qc_store rfl (wanted_none rfl) rfl (HB2.out.mod Cx6.out (by intro h2; first | omega | (have hb := HBR.out _ h2; omega))) (off := 0) (vs := cs2) (by rw [HCL.out]; kernel_rfl) HOC.out (by rw [HCL.out]; decide) (E.v oe2) (by rw [show act.eval ((.tmp 6)) = _ from (E.d 3 0)]; rfl) ?_
  intro u1_4 qc0 hm
  have qB2 : Cs u1_4 (w.heap.size) (cs2 : List Value).toArray 52 := by rw [show lay _ 0 _ = (cs2 : List Value).toArray from lay_whole _ _ (by rw [HCL.out]; rfl)] at qc0; exact qc0
  clear qc0
  have Hx7 := hid qB2
  have zu1_4 := hm.size
  have HMu1_4 := hid hm
  have Cx8 := hid (Mod.goS (S' := (fun k => (R k) ∨ (k = w.heap.size))) Cx6.out hm (fun _ h => Or.inl h) (by intro k h0 h2; exact Or.inr (h2)))
  clear hm Cx6
  clear act E qB2 HB2
  have Hx9 := hid ((Hx3.out.mod HMu1_3.out (fun _ _ h => h)).mod HMu1_4.out (by intro k h1 h2; have hb := HBR.out k h1; omega))
  have Hx10 := hid (Hx5.out.mod HMu1_4.out (by intro k h1 h2; omega))
  clear Hx3 Hx5 HMu1_3 HMu1_4
  refine QSeq.nil (t' := [_, _, _, _, _]) rfl ?_
  have ha0 := HA0.out
  subst ha0
  clear HA0 hsz0 oe0 oe2
  simp only [putAll, Act.put, List.setIfInBounds_toArray, List.set_cons_zero, List.set_cons_succ, List.set_nil]
  go_wp2
  exact bodyPost_ret (results_cellA rfl _ _ w.heap.size cs2 rfl (fun k u hu => by rw [Hx7.out.cell]; simpa using hu) Try.underlying52 rfl (by rw [HCL.out]; kernel_rfl)) rfl ⟨_, rfl, (Hx10.out.widen (R' := (fun k => New w u1_4 k)) (by intro k h1; omega)), Hx9.out, (HM0.out.trans Cx8.out (by intro k h1 h2; rcases h2 with h2 | h2 <;> first | exact h2 | omega | (have hb := HBR.out k h2; omega)))⟩
set_option maxHeartbeats 4000000 in
theorem whole_Pm : ∀ (R R2 : Nat → Prop) (r : Nat) (s : RSt) (cs : List Value) (x : Pm) (w : World), RrR 125 R w r s → (∀ k, R k → k < w.heap.size) → PmR.rd R2 w cs x → (∀ k, R2 k → k < w.heap.size) →
    Calls Try.prog 84 #[.pointer (some ⟨r, 0, none⟩), .agg cs.toArray] w fun e w' => ∃ cs', e = .returned (.agg cs'.toArray) ∧ PmR.rd R2 w' cs' (if s.isSome then x else zPm) ∧ Mod (fun _ => False) w w' := by
  intro R R2 r s cs x w hR hB hx hB2
  have hcl : cs.length = 6 := PmR.len hx
  have HCL := Lib.hid hcl
  have HOC := hid (PmR.one hx)
  have HRD := Lib.hid hR
  have HBR := Lib.hid hB
  have HX := Lib.hid hx
  have HBT := Lib.hid hB2
  clear hR hB hx hB2 hcl
  go_enter Try.func84, Try.ntmps84
  go_upto_region 1 with (fail)
  obtain ⟨w1, hw1⟩ : ∃ zz, zz = ((w.alloc (.cells (cs : List Value).toArray 55)).alloc (.cells #[.int .i64 0, .int .i64 0, .int .u64 0, .slice none 0 0, .int .i64 0, .int .i64 0] 55)) := ⟨_, rfl⟩
  change Code.wp _ _ _ _ ((w.alloc (.cells (cs : List Value).toArray 55)).alloc (.cells #[.int .i64 0, .int .i64 0, .int .u64 0, .slice none 0 0, .int .i64 0, .int .i64 0] 55))
  rw [← hw1]
  have HB3 := hid (show Cs w1 (w.heap.size) (cs : List Value).toArray 55 by rw [hw1]; exact (Cs.new _ _ _).alloc _)
  have HB4 := hid (show Cs w1 (w.heap.size + 1) #[.int .i64 0, .int .i64 0, .int .u64 0, .slice none 0 0, .int .i64 0, .int .i64 0] 55 by rw [hw1]; exact Cs_newN _ _ _ (by simp))
  have hm : Mod (fun _ => False) w w1 := by rw [hw1]; exact ((Mod.refl _ _).alloc _).alloc _
  have HM0 := hid (show Mod (fun _ => False) w w1 from hm.mono (fun _ _ h => h.elim))
  have hs1 : w1.heap.size = w.heap.size + 2 := by rw [hw1]; simp
  have Hx1 := hid (HRD.out.mod hm (fun _ _ h => h))
  clear HRD
  have Hx2 := hid (HX.out.mod hm (fun _ _ h => h))
  clear HX
  clear hw1 hm
  go_upto_region 1 with (fail)
  generalize ha0 : Act.mk _ _ = a0
  have hsz0 : a0.tmps.size = 11 := by rw [← ha0]; rfl
  have HA0 := hid ha0
  clear ha0
  refine wp_region_S 11 hsz0 [5] [0] ?_
  refine QSeq.go fun act E => ?_
  refine qc_alloc rfl (wanted_none rfl) rfl (z := [.int .i64 0, .int .i64 0, .int .u64 0, .slice none 0 0, .int .i64 0, .int .i64 0]) (by kernel_rfl) ?_
  intro u1_0 qB5 hm
  have zl1_0 := qB5.lt
  have Hx3 := hid qB5
  have zu1_0 := hm.size
  have Cx4 := hid (show Mod (fun _ => False) w1 u1_0 from hm)
  clear hm
  clear act E qB5
  refine QSeq.nil (t' := [_]) rfl ?_
  have ha0 := HA0.out
  subst ha0
  clear HA0 hsz0
  simp only [putAll, Act.put, List.setIfInBounds_toArray, List.set_cons_zero, List.set_cons_succ]
  cases s with
  | none =>
    go_upto_region 2 with (fail)
    generalize ha0 : Act.mk _ _ = a0
    have oe0 : a0.eval (.tmp 0) = .pointer (some ⟨r, 0, none⟩) := by rw [← ha0]; rfl
    have hsz0 : a0.tmps.size = 11 := by rw [← ha0]; rfl
    have HA0 := hid ha0
    clear ha0
    refine wp_region_S 11 hsz0 [6, 7, 8] [0, 1, 2] ?_
    refine QSeq.pure rfl (.pointer (some ⟨r, 0, none⟩)) (fun E => ex_move rfl (E.v oe0)) ?_
    refine QSeq.go fun act E => ?_
    refine qc_callF (args := #[.pointer (some ⟨r, 0, none⟩)]) rfl (wanted_none rfl) rfl Try.func39 (args1 (E.d 0 0)) (OK_R (Hx1.out.mod Cx4.out (fun _ _ h => h))) ?_
    rintro e w2 ⟨rfl, hw2⟩
    obtain rfl : u1_0 = w2 := by first | exact hw2 | exact hw2.symm
    refine ⟨_, rfl, ?_⟩
    clear act E
    refine QSeq.pure rfl (.bool true) (fun E => ex_not rfl (E.d 1 0)) ?_
    refine QSeq.nil (t' := [_, _, _]) rfl ?_
    have ha0 := HA0.out
    subst ha0
    clear HA0 hsz0 oe0
    simp only [putAll, Act.put, List.setIfInBounds_toArray, List.set_cons_zero, List.set_cons_succ]
    go_upto_region 3 with (fail)
    generalize ha0 : Act.mk _ _ = a0
    have oe4 : a0.eval (.tmp 4) = .pointer (some ⟨w.heap.size + 1, 0, none⟩) := by rw [← ha0]; rfl
    have oe5 : a0.eval (.tmp 5) = .pointer (some ⟨w1.heap.size, 0, none⟩) := by rw [← ha0]; rfl
    have hsz0 : a0.tmps.size = 11 := by rw [← ha0]; rfl
    have HA0 := hid ha0
    clear ha0
    refine wp_region_S 11 hsz0 [9, 12] [0, 1] ?_
    refine QSeq.pure rfl (.agg #[.int .i64 0, .int .i64 0, .int .u64 0, .slice none 0 0, .int .i64 0, .int .i64 0]) (fun E => ex_loadA rfl Try.underlying55 rfl (off := 0) (cs := [.int .i64 0, .int .i64 0, .int .u64 0, .slice none 0 0, .int .i64 0, .int .i64 0]) (by kernel_rfl) (E.v oe5) (Cs.whole Hx3.out)) ?_
    refine QSeq.go fun act E => ?_
    refine qc_store rfl (wanted_none rfl) rfl (HB4.out.mod Cx4.out (fun h => h)) (off := 0) (vs := [.int .i64 0, .int .i64 0, .int .u64 0, .slice none 0 0, .int .i64 0, .int .i64 0]) (by kernel_rfl) (PmR.one (zPm_rd (fun _ => False) w)) (by show 6 ≤ 6; exact Nat.le_refl _) (E.v oe4) (by rw [show act.eval ((.tmp 9)) = _ from (E.d 0 0)]; rfl) ?_
    intro u3_1 qc0 hm
    have qB4 : Cs u3_1 (w.heap.size + 1) #[.int .i64 0, .int .i64 0, .int .u64 0, .slice none 0 0, .int .i64 0, .int .i64 0] 55 := by rw [show lay _ 0 _ = #[.int .i64 0, .int .i64 0, .int .u64 0, .slice none 0 0, .int .i64 0, .int .i64 0] from lay_whole #[.int .i64 0, .int .i64 0, .int .u64 0, .slice none 0 0, .int .i64 0, .int .i64 0] [.int .i64 0, .int .i64 0, .int .u64 0, .slice none 0 0, .int .i64 0, .int .i64 0] rfl] at qc0; exact qc0
    clear qc0
    have Hx5 := hid qB4
    have zu3_1 := hm.size
    have Cx6 := hid (show Mod (fun k => (k = w.heap.size + 1)) u1_0 u3_1 from hm)
    clear hm
    clear act E qB4 HB4
    refine QSeq.nil (t' := [_, _]) rfl ?_
    have ha0 := HA0.out
    subst ha0
    clear HA0 hsz0 oe4 oe5
    simp only [putAll, Act.put, List.setIfInBounds_toArray, List.set_cons_zero, List.set_cons_succ, List.set_nil]
    go_wp2
    exact bodyPost_ret (results_cellA rfl _ _ (w.heap.size + 1) ([.int .i64 0, .int .i64 0, .int .u64 0, .slice none 0 0, .int .i64 0, .int .i64 0]) rfl (fun k u hu => by rw [Hx5.out.cell]; simpa using hu) Try.underlying55 rfl (by kernel_rfl)) rfl ⟨_, rfl, zPm_rd _ _, ((HM0.out.trans Cx4.out (fun _ _ h => h.elim)).trans Cx6.out (by intro k h1 h2; omega))⟩
  | some l =>
    go_upto_region 2 with (fail)
    generalize ha0 : Act.mk _ _ = a0
    have oe0 : a0.eval (.tmp 0) = .pointer (some ⟨r, 0, none⟩) := by rw [← ha0]; rfl
    have hsz0 : a0.tmps.size = 11 := by rw [← ha0]; rfl
    have HA0 := hid ha0
    clear ha0
    refine wp_region_S 11 hsz0 [6, 7, 8] [0, 1, 2] ?_
    refine QSeq.pure rfl (.pointer (some ⟨r, 0, none⟩)) (fun E => ex_move rfl (E.v oe0)) ?_
    refine QSeq.go fun act E => ?_
    refine qc_callF (args := #[.pointer (some ⟨r, 0, none⟩)]) rfl (wanted_none rfl) rfl Try.func39 (args1 (E.d 0 0)) (OK_R (Hx1.out.mod Cx4.out (fun _ _ h => h))) ?_
    rintro e w2 ⟨rfl, hw2⟩
    obtain rfl : u1_0 = w2 := by first | exact hw2 | exact hw2.symm
    refine ⟨_, rfl, ?_⟩
    clear act E
    refine QSeq.pure rfl (.bool false) (fun E => ex_not rfl (E.d 1 0)) ?_
    refine QSeq.nil (t' := [_, _, _]) rfl ?_
    have ha0 := HA0.out
    subst ha0
    clear HA0 hsz0 oe0
    simp only [putAll, Act.put, List.setIfInBounds_toArray, List.set_cons_zero, List.set_cons_succ]
    go_upto_region 4 with (fail)
    generalize ha0 : Act.mk _ _ = a0
    have oe3 : a0.eval (.tmp 3) = .pointer (some ⟨w.heap.size, 0, none⟩) := by rw [← ha0]; rfl
    have oe4 : a0.eval (.tmp 4) = .pointer (some ⟨w.heap.size + 1, 0, none⟩) := by rw [← ha0]; rfl
    have hsz0 : a0.tmps.size = 11 := by rw [← ha0]; rfl
    have HA0 := hid ha0
    clear ha0
    refine wp_region_S 11 hsz0 [10, 12] [0, 1] ?_
    refine QSeq.pure rfl (.agg cs.toArray) (fun E => ex_loadA rfl Try.underlying55 rfl (off := 0) (cs := cs) (by rw [HCL.out]; kernel_rfl) (E.v oe3) (Cs.whole (HB3.out.mod Cx4.out (fun h => h)))) ?_
    refine QSeq.go fun act E => ?_
    refine qc_store rfl (wanted_none rfl) rfl (HB4.out.mod Cx4.out (fun h => h)) (off := 0) (vs := cs) (by rw [HCL.out]; kernel_rfl) HOC.out (by rw [HCL.out]; decide) (E.v oe4) (by rw [show act.eval ((.tmp 10)) = _ from (E.d 0 0)]; rfl) ?_
    intro u4_1 qc0 hm
    have qB4 : Cs u4_1 (w.heap.size + 1) (cs : List Value).toArray 55 := by rw [show lay _ 0 _ = (cs : List Value).toArray from lay_whole _ _ (by rw [HCL.out]; rfl)] at qc0; exact qc0
    clear qc0
    have Hx7 := hid qB4
    have zu4_1 := hm.size
    have Cx8 := hid (show Mod (fun k => (k = w.heap.size + 1)) u1_0 u4_1 from hm)
    clear hm
    clear act E qB4 HB4
    refine QSeq.nil (t' := [_, _]) rfl ?_
    have ha0 := HA0.out
    subst ha0
    clear HA0 hsz0 oe3 oe4
    simp only [putAll, Act.put, List.setIfInBounds_toArray, List.set_cons_zero, List.set_cons_succ, List.set_nil]
    go_wp2
    exact bodyPost_ret (results_cellA rfl _ _ (w.heap.size + 1) (cs) rfl (fun k u hu => by rw [Hx7.out.cell]; simpa using hu) Try.underlying55 rfl (by rw [HCL.out]; kernel_rfl)) rfl ⟨_, rfl, ((Hx2.out.mod Cx4.out (fun _ _ h => h)).mod Cx8.out (by intro k h1 h2; have hb := HBT.out k h1; omega)), ((HM0.out.trans Cx4.out (fun _ _ h => h.elim)).trans Cx8.out (by intro k h1 h2; omega))⟩
set_option maxHeartbeats 4000000 in
theorem Wire_Pm : Gets PmR 125 34 (gW zPm gPm) := by
  intro R r s w hR hB hl
  have HRD := Lib.hid hR
  have HBR := Lib.hid hB
  have HLN := Lib.hid hl
  clear hR hB hl
  go_enter Try.func34, Try.ntmps34
  go_upto_region 1 with (fail)
  obtain ⟨w1, hw1⟩ : ∃ zz, zz = (w.alloc (.cells #[.int .i64 0, .int .i64 0, .int .u64 0, .slice none 0 0, .int .i64 0, .int .i64 0] 55)) := ⟨_, rfl⟩
  change Code.wp _ _ _ _ (w.alloc (.cells #[.int .i64 0, .int .i64 0, .int .u64 0, .slice none 0 0, .int .i64 0, .int .i64 0] 55))
  rw [← hw1]
  have HB2 := hid (show Cs w1 (w.heap.size) #[.int .i64 0, .int .i64 0, .int .u64 0, .slice none 0 0, .int .i64 0, .int .i64 0] 55 by rw [hw1]; exact Cs.new _ _ _)
  have hm : Mod (fun _ => False) w w1 := by rw [hw1]; exact (Mod.refl _ _).alloc _
  have HM0 := hid (show Mod (fun k => (R k)) w w1 from hm.mono (fun _ _ h => h.elim))
  have hs1 : w1.heap.size = w.heap.size + 1 := by rw [hw1]; simp
  have Hx1 := hid (HRD.out.mod hm (fun _ _ h => h))
  clear HRD
  clear hw1 hm
  go_upto_region 1 with (fail)
  generalize ha0 : Act.mk _ _ = a0
  have oe0 : a0.eval (.tmp 0) = .pointer (some ⟨r, 0, none⟩) := by rw [← ha0]; rfl
  have oe2 : a0.eval (.tmp 2) = .pointer (some ⟨w.heap.size, 0, none⟩) := by rw [← ha0]; rfl
  have hsz0 : a0.tmps.size = 7 := by rw [← ha0]; rfl
  have HA0 := hid ha0
  clear ha0
  refine wp_region_S 7 hsz0 [3, 4, 5, 6, 11] [0, 1, 2, 3, 4] ?_
  refine QSeq.pure rfl (.pointer (some ⟨r, 0, none⟩)) (fun E => ex_move rfl (E.v oe0)) ?_
  refine QSeq.pure rfl (.pointer (some ⟨r, 0, none⟩)) (fun E => ex_move rfl (E.v oe0)) ?_
  refine QSeq.go fun act E => ?_
  refine qc_callF (args := #[.pointer (some ⟨r, 0, none⟩)]) rfl (wanted_none rfl) rfl Try.func85 (args1 (E.d 1 0)) (cPm_G _ _ _ _ Hx1.out (by intro k h1; have hb := HBR.out k h1; omega) HLN.out) ?_
  rintro e u1_2 ⟨cs1, rfl, qx1, qrd, hm⟩
  refine ⟨_, rfl, ?_⟩
  have Hx2 := hid (qx1.widen (R' := (fun k => (New w1 u1_2 k))) (fun _ h => h))
  have Hx3 := hid qrd
  have zu1_2 := hm.size
  have Cx4 := hid (show Mod (fun k => (R k)) w1 u1_2 from hm)
  clear hm
  clear act E qx1 qrd Hx1
  refine QSeq.go fun act E => ?_
  refine qc_callF (args := #[.pointer (some ⟨r, 0, none⟩), .agg cs1.toArray]) rfl (wanted_none rfl) rfl Try.func84 (args2 (E.d 0 2) (E.d 2 0)) (whole_Pm _ _ _ _ _ _ _ Hx3.out (by intro k h1; have hb := HBR.out k h1; omega) Hx2.out (by intro k h1; omega)) ?_
  rintro e u1_3 ⟨cs2, rfl, qx1, hm⟩
  have hcl : cs2.length = 6 := PmR.len qx1
  have HCL := Lib.hid hcl
  have HOC := hid (PmR.one qx1)
  clear hcl
  refine ⟨_, rfl, ?_⟩
  have Hx5 := hid qx1
  have zu1_3 := hm.size
  have HMu1_3 := hid hm
  have Cx6 := hid (Cx4.out.goE hm)
  clear hm Cx4
  clear act E qx1 Hx2
  refine QSeq.go fun act E => ?_
  refine qc_store rfl (wanted_none rfl) rfl (HB2.out.mod Cx6.out (by intro h2; first | omega | (have hb := HBR.out _ h2; omega))) (off := 0) (vs := cs2) (by rw [HCL.out]; kernel_rfl) HOC.out (by rw [HCL.out]; decide) (E.v oe2) (by rw [show act.eval ((.tmp 6)) = _ from (E.d 3 0)]; rfl) ?_
  intro u1_4 qc0 hm
  have qB2 : Cs u1_4 (w.heap.size) (cs2 : List Value).toArray 55 := by rw [show lay _ 0 _ = (cs2 : List Value).toArray from lay_whole _ _ (by rw [HCL.out]; rfl)] at qc0; exact qc0
  clear qc0
  have Hx7 := hid qB2
  have zu1_4 := hm.size
  have HMu1_4 := hid hm
  have Cx8 := hid (Mod.goS (S' := (fun k => (R k) ∨ (k = w.heap.size))) Cx6.out hm (fun _ h => Or.inl h) (by intro k h0 h2; exact Or.inr (h2)))
  clear hm Cx6
  clear act E qB2 HB2
  have Hx9 := hid ((Hx3.out.mod HMu1_3.out (fun _ _ h => h)).mod HMu1_4.out (by intro k h1 h2; have hb := HBR.out k h1; omega))
  have Hx10 := hid (Hx5.out.mod HMu1_4.out (by intro k h1 h2; omega))
  clear Hx3 Hx5 HMu1_3 HMu1_4
  refine QSeq.nil (t' := [_, _, _, _, _]) rfl ?_
  have ha0 := HA0.out
  subst ha0
  clear HA0 hsz0 oe0 oe2
  simp only [putAll, Act.put, List.setIfInBounds_toArray, List.set_cons_zero, List.set_cons_succ, List.set_nil]
  go_wp2
  exact bodyPost_ret (results_cellA rfl _ _ w.heap.size cs2 rfl (fun k u hu => by rw [Hx7.out.cell]; simpa using hu) Try.underlying55 rfl (by rw [HCL.out]; kernel_rfl)) rfl ⟨_, rfl, (Hx10.out.widen (R' := (fun k => New w u1_4 k)) (by intro k h1; omega)), Hx9.out, (HM0.out.trans Cx8.out (by intro k h1 h2; rcases h2 with h2 | h2 <;> first | exact h2 | omega | (have hb := HBR.out k h2; omega)))⟩
set_option maxHeartbeats 4000000 in
theorem whole_Ba : ∀ (R R2 : Nat → Prop) (r : Nat) (s : RSt) (cs : List Value) (x : Ba) (w : World), RrR 125 R w r s → (∀ k, R k → k < w.heap.size) → BaR.rd R2 w cs x → (∀ k, R2 k → k < w.heap.size) →
    Calls Try.prog 89 #[.pointer (some ⟨r, 0, none⟩), .agg cs.toArray] w fun e w' => ∃ cs', e = .returned (.agg cs'.toArray) ∧ BaR.rd R2 w' cs' (if s.isSome then x else zBa) ∧ Mod (fun _ => False) w w' := by
  intro R R2 r s cs x w hR hB hx hB2
  have hcl : cs.length = 5 := BaR.len hx
  have HCL := Lib.hid hcl
  have HOC := hid (BaR.one hx)
  have HRD := Lib.hid hR
  have HBR := Lib.hid hB
  have HX := Lib.hid hx
  have HBT := Lib.hid hB2
  clear hR hB hx hB2 hcl
  go_enter Try.func89, Try.ntmps89
  go_upto_region 1 with (fail)
  obtain ⟨w1, hw1⟩ : ∃ zz, zz = ((w.alloc (.cells (cs : List Value).toArray 60)).alloc (.cells #[.int .i64 0, .int .u64 0, .slice none 0 0, .slice none 0 0, .slice none 0 0] 60)) := ⟨_, rfl⟩
  change Code.wp _ _ _ _ ((w.alloc (.cells (cs : List Value).toArray 60)).alloc (.cells #[.int .i64 0, .int .u64 0, .slice none 0 0, .slice none 0 0, .slice none 0 0] 60))
  rw [← hw1]
  have HB3 := hid (show Cs w1 (w.heap.size) (cs : List Value).toArray 60 by rw [hw1]; exact (Cs.new _ _ _).alloc _)
  have HB4 := hid (show Cs w1 (w.heap.size + 1) #[.int .i64 0, .int .u64 0, .slice none 0 0, .slice none 0 0, .slice none 0 0] 60 by rw [hw1]; exact Cs_newN _ _ _ (by simp))
  have hm : Mod (fun _ => False) w w1 := by rw [hw1]; exact ((Mod.refl _ _).alloc _).alloc _
  have HM0 := hid (show Mod (fun _ => False) w w1 from hm.mono (fun _ _ h => h.elim))
  have hs1 : w1.heap.size = w.heap.size + 2 := by rw [hw1]; simp
  have Hx1 := hid (HRD.out.mod hm (fun _ _ h => h))
  clear HRD
  have Hx2 := hid (HX.out.mod hm (fun _ _ h => h))
  clear HX
  clear hw1 hm
  go_upto_region 1 with (fail)
  generalize ha0 : Act.mk _ _ = a0
  have hsz0 : a0.tmps.size = 11 := by rw [← ha0]; rfl
  have HA0 := hid ha0
  clear ha0
  refine wp_region_S 11 hsz0 [5] [0] ?_
  refine QSeq.go fun act E => ?_
  refine qc_alloc rfl (wanted_none rfl) rfl (z := [.int .i64 0, .int .u64 0, .slice none 0 0, .slice none 0 0, .slice none 0 0]) (by kernel_rfl) ?_
  intro u1_0 qB5 hm
  have zl1_0 := qB5.lt
  have Hx3 := hid qB5
  have zu1_0 := hm.size
  have Cx4 := hid (show Mod (fun _ => False) w1 u1_0 from hm)
  clear hm
  clear act E qB5
  refine QSeq.nil (t' := [_]) rfl ?_
  have ha0 := HA0.out
  subst ha0
  clear HA0 hsz0
  simp only [putAll, Act.put, List.setIfInBounds_toArray, List.set_cons_zero, List.set_cons_succ]
  cases s with
  | none =>
    go_upto_region 2 with (fail)
    generalize ha0 : Act.mk _ _ = a0
    have oe0 : a0.eval (.tmp 0) = .pointer (some ⟨r, 0, none⟩) := by rw [← ha0]; rfl
    have hsz0 : a0.tmps.size = 11 := by rw [← ha0]; rfl
    have HA0 := hid ha0
    clear ha0
    refine wp_region_S 11 hsz0 [6, 7, 8] [0, 1, 2] ?_
    refine QSeq.pure rfl (.pointer (some ⟨r, 0, none⟩)) (fun E => ex_move rfl (E.v oe0)) ?_
    refine QSeq.go fun act E => ?_
    refine qc_callF (args := #[.pointer (some ⟨r, 0, none⟩)]) rfl (wanted_none rfl) rfl Try.func39 (args1 (E.d 0 0)) (OK_R (Hx1.out.mod Cx4.out (fun _ _ h => h))) ?_
    rintro e w2 ⟨rfl, hw2⟩
    obtain rfl : u1_0 = w2 := by first | exact hw2 | exact hw2.symm
    refine ⟨_, rfl, ?_⟩
    clear act E
    refine QSeq.pure rfl (.bool true) (fun E => ex_not rfl (E.d 1 0)) ?_
    refine QSeq.nil (t' := [_, _, _]) rfl ?_
    have ha0 := HA0.out
    subst ha0
    clear HA0 hsz0 oe0
    simp only [putAll, Act.put, List.setIfInBounds_toArray, List.set_cons_zero, List.set_cons_succ]
    go_upto_region 3 with (fail)
    generalize ha0 : Act.mk _ _ = a0
    have oe4 : a0.eval (.tmp 4) = .pointer (some ⟨w.heap.size + 1, 0, none⟩) := by rw [← ha0]; rfl
    have oe5 : a0.eval (.tmp 5) = .pointer (some ⟨w1.heap.size, 0, none⟩) := by rw [← ha0]; rfl
    have hsz0 : a0.tmps.size = 11 := by rw [← ha0]; rfl
    have HA0 := hid ha0
    clear ha0
    refine wp_region_S 11 hsz0 [9, 12] [0, 1] ?_
    refine QSeq.pure rfl (.agg #[.int .i64 0, .int .u64 0, .slice none 0 0, .slice none 0 0, .slice none 0 0]) (fun E => ex_loadA rfl Try.underlying60 rfl (off := 0) (cs := [.int .i64 0, .int .u64 0, .slice none 0 0, .slice none 0 0, .slice none 0 0]) (by kernel_rfl) (E.v oe5) (Cs.whole Hx3.out)) ?_
    refine QSeq.go fun act E => ?_
    refine qc_store rfl (wanted_none rfl) rfl (HB4.out.mod Cx4.out (fun h => h)) (off := 0) (vs := [.int .i64 0, .int .u64 0, .slice none 0 0, .slice none 0 0, .slice none 0 0]) (by kernel_rfl) (BaR.one (zBa_rd (fun _ => False) w)) (by show 5 ≤ 5; exact Nat.le_refl _) (E.v oe4) (by rw [show act.eval ((.tmp 9)) = _ from (E.d 0 0)]; rfl) ?_
    intro u3_1 qc0 hm
    have qB4 : Cs u3_1 (w.heap.size + 1) #[.int .i64 0, .int .u64 0, .slice none 0 0, .slice none 0 0, .slice none 0 0] 60 := by rw [show lay _ 0 _ = #[.int .i64 0, .int .u64 0, .slice none 0 0, .slice none 0 0, .slice none 0 0] from lay_whole #[.int .i64 0, .int .u64 0, .slice none 0 0, .slice none 0 0, .slice none 0 0] [.int .i64 0, .int .u64 0, .slice none 0 0, .slice none 0 0, .slice none 0 0] rfl] at qc0; exact qc0
    clear qc0
    have Hx5 := hid qB4
    have zu3_1 := hm.size
    have Cx6 := hid (show Mod (fun k => (k = w.heap.size + 1)) u1_0 u3_1 from hm)
    clear hm
    clear act E qB4 HB4
    refine QSeq.nil (t' := [_, _]) rfl ?_
    have ha0 := HA0.out
    subst ha0
    clear HA0 hsz0 oe4 oe5
    simp only [putAll, Act.put, List.setIfInBounds_toArray, List.set_cons_zero, List.set_cons_succ, List.set_nil]
    go_wp2
    exact bodyPost_ret (results_cellA rfl _ _ (w.heap.size + 1) ([.int .i64 0, .int .u64 0, .slice none 0 0, .slice none 0 0, .slice none 0 0]) rfl (fun k u hu => by rw [Hx5.out.cell]; simpa using hu) Try.underlying60 rfl (by kernel_rfl)) rfl ⟨_, rfl, zBa_rd _ _, ((HM0.out.trans Cx4.out (fun _ _ h => h.elim)).trans Cx6.out (by intro k h1 h2; omega))⟩
  | some l =>
    go_upto_region 2 with (fail)
    generalize ha0 : Act.mk _ _ = a0
    have oe0 : a0.eval (.tmp 0) = .pointer (some ⟨r, 0, none⟩) := by rw [← ha0]; rfl
    have hsz0 : a0.tmps.size = 11 := by rw [← ha0]; rfl
    have HA0 := hid ha0
    clear ha0
    refine wp_region_S 11 hsz0 [6, 7, 8] [0, 1, 2] ?_
    refine QSeq.pure rfl (.pointer (some ⟨r, 0, none⟩)) (fun E => ex_move rfl (E.v oe0)) ?_
    refine QSeq.go fun act E => ?_
    refine qc_callF (args := #[.pointer (some ⟨r, 0, none⟩)]) rfl (wanted_none rfl) rfl Try.func39 (args1 (E.d 0 0)) (OK_R (Hx1.out.mod Cx4.out (fun _ _ h => h))) ?_
    rintro e w2 ⟨rfl, hw2⟩
    obtain rfl : u1_0 = w2 := by first | exact hw2 | exact hw2.symm
    refine ⟨_, rfl, ?_⟩
    clear act E
    refine QSeq.pure rfl (.bool false) (fun E => ex_not rfl (E.d 1 0)) ?_
    refine QSeq.nil (t' := [_, _, _]) rfl ?_
    have ha0 := HA0.out
    subst ha0
    clear HA0 hsz0 oe0
    simp only [putAll, Act.put, List.setIfInBounds_toArray, List.set_cons_zero, List.set_cons_succ]
    go_upto_region 4 with (fail)
    generalize ha0 : Act.mk _ _ = a0
    have oe3 : a0.eval (.tmp 3) = .pointer (some ⟨w.heap.size, 0, none⟩) := by rw [← ha0]; rfl
    have oe4 : a0.eval (.tmp 4) = .pointer (some ⟨w.heap.size + 1, 0, none⟩) := by rw [← ha0]; rfl
    have hsz0 : a0.tmps.size = 11 := by rw [← ha0]; rfl
    have HA0 := hid ha0
    clear ha0
    refine wp_region_S 11 hsz0 [10, 12] [0, 1] ?_
    refine QSeq.pure rfl (.agg cs.toArray) (fun E => ex_loadA rfl Try.underlying60 rfl (off := 0) (cs := cs) (by rw [HCL.out]; kernel_rfl) (E.v oe3) (Cs.whole (HB3.out.mod Cx4.out (fun h => h)))) ?_
    refine QSeq.go fun act E => ?_
    refine qc_store rfl (wanted_none rfl) rfl (HB4.out.mod Cx4.out (fun h => h)) (off := 0) (vs := cs) (by rw [HCL.out]; kernel_rfl) HOC.out (by rw [HCL.out]; decide) (E.v oe4) (by rw [show act.eval ((.tmp 10)) = _ from (E.d 0 0)]; rfl) ?_
    intro u4_1 qc0 hm
    have qB4 : Cs u4_1 (w.heap.size + 1) (cs : List Value).toArray 60 := by rw [show lay _ 0 _ = (cs : List Value).toArray from lay_whole _ _ (by rw [HCL.out]; rfl)] at qc0; exact qc0
    clear qc0
    have Hx7 := hid qB4
    have zu4_1 := hm.size
    have Cx8 := hid (show Mod (fun k => (k = w.heap.size + 1)) u1_0 u4_1 from hm)
    clear hm
    clear act E qB4 HB4
    refine QSeq.nil (t' := [_, _]) rfl ?_
    have ha0 := HA0.out
    subst ha0
    clear HA0 hsz0 oe3 oe4
    simp only [putAll, Act.put, List.setIfInBounds_toArray, List.set_cons_zero, List.set_cons_succ, List.set_nil]
    go_wp2
    exact bodyPost_ret (results_cellA rfl _ _ (w.heap.size + 1) (cs) rfl (fun k u hu => by rw [Hx7.out.cell]; simpa using hu) Try.underlying60 rfl (by rw [HCL.out]; kernel_rfl)) rfl ⟨_, rfl, ((Hx2.out.mod Cx4.out (fun _ _ h => h)).mod Cx8.out (by intro k h1 h2; have hb := HBT.out k h1; omega)), ((HM0.out.trans Cx4.out (fun _ _ h => h.elim)).trans Cx8.out (by intro k h1 h2; omega))⟩
set_option maxHeartbeats 4000000 in
theorem Wire_Ba : Gets BaR 125 37 (gW zBa gBa) := by
  intro R r s w hR hB hl
  have HRD := Lib.hid hR
  have HBR := Lib.hid hB
  have HLN := Lib.hid hl
  clear hR hB hl
  go_enter Try.func37, Try.ntmps37
  go_upto_region 1 with (fail)
  obtain ⟨w1, hw1⟩ : ∃ zz, zz = (w.alloc (.cells #[.int .i64 0, .int .u64 0, .slice none 0 0, .slice none 0 0, .slice none 0 0] 60)) := ⟨_, rfl⟩
  change Code.wp _ _ _ _ (w.alloc (.cells #[.int .i64 0, .int .u64 0, .slice none 0 0, .slice none 0 0, .slice none 0 0] 60))
  rw [← hw1]
  have HB2 := hid (show Cs w1 (w.heap.size) #[.int .i64 0, .int .u64 0, .slice none 0 0, .slice none 0 0, .slice none 0 0] 60 by rw [hw1]; exact Cs.new _ _ _)
  have hm : Mod (fun _ => False) w w1 := by rw [hw1]; exact (Mod.refl _ _).alloc _
  have HM0 := hid (show Mod (fun k => (R k)) w w1 from hm.mono (fun _ _ h => h.elim))
  have hs1 : w1.heap.size = w.heap.size + 1 := by rw [hw1]; simp
  have Hx1 := hid (HRD.out.mod hm (fun _ _ h => h))
  clear HRD
  clear hw1 hm
  go_upto_region 1 with (fail)
  generalize ha0 : Act.mk _ _ = a0
  have oe0 : a0.eval (.tmp 0) = .pointer (some ⟨r, 0, none⟩) := by rw [← ha0]; rfl
  have oe2 : a0.eval (.tmp 2) = .pointer (some ⟨w.heap.size, 0, none⟩) := by rw [← ha0]; rfl
  have hsz0 : a0.tmps.size = 7 := by rw [← ha0]; rfl
  have HA0 := hid ha0
  clear ha0
  refine wp_region_S 7 hsz0 [3, 4, 5, 6, 11] [0, 1, 2, 3, 4] ?_
  refine QSeq.pure rfl (.pointer (some ⟨r, 0, none⟩)) (fun E => ex_move rfl (E.v oe0)) ?_
  refine QSeq.pure rfl (.pointer (some ⟨r, 0, none⟩)) (fun E => ex_move rfl (E.v oe0)) ?_
  refine QSeq.go fun act E => ?_
  refine qc_callF (args := #[.pointer (some ⟨r, 0, none⟩)]) rfl (wanted_none rfl) rfl Try.func90 (args1 (E.d 1 0)) (cBa_G _ _ _ _ Hx1.out (by intro k h1; have hb := HBR.out k h1; omega) HLN.out) ?_
  rintro e u1_2 ⟨cs1, rfl, qx1, qrd, hm⟩
  refine ⟨_, rfl, ?_⟩
  have Hx2 := hid (qx1.widen (R' := (fun k => (New w1 u1_2 k))) (fun _ h => h))
  have Hx3 := hid qrd
  have zu1_2 := hm.size
  have Cx4 := hid (show Mod (fun k => (R k)) w1 u1_2 from hm)
  clear hm
  clear act E qx1 qrd Hx1
  refine QSeq.go fun act E => ?_
  refine qc_callF (args := #[.pointer (some ⟨r, 0, none⟩), .agg cs1.toArray]) rfl (wanted_none rfl) rfl Try.func89 (args2 (E.d 0 2) (E.d 2 0)) (whole_Ba _ _ _ _ _ _ _ Hx3.out (by intro k h1; have hb := HBR.out k h1; omega) Hx2.out (by intro k h1; omega)) ?_
  rintro e u1_3 ⟨cs2, rfl, qx1, hm⟩
  have hcl : cs2.length = 5 := BaR.len qx1
  have HCL := Lib.hid hcl
  have HOC := hid (BaR.one qx1)
  clear hcl
  refine ⟨_, rfl, ?_⟩
  have Hx5 := hid qx1
  have zu1_3 := hm.size
  have HMu1_3 := hid hm
  have Cx6 := hid (Cx4.out.goE hm)
  clear hm Cx4
  clear act E qx1 Hx2
  refine QSeq.go fun act E => ?_
  refine qc_store rfl (wanted_none rfl) rfl (HB2.out.mod Cx6.out (by intro h2; first | omega | (have hb := HBR.out _ h2; omega))) (off := 0) (vs := cs2) (by rw [HCL.out]; kernel_rfl) HOC.out (by rw [HCL.out]; decide) (E.v oe2) (by rw [show act.eval ((.tmp 6)) = _ from (E.d 3 0)]; rfl) ?_
  intro u1_4 qc0 hm
  have qB2 : Cs u1_4 (w.heap.size) (cs2 : List Value).toArray 60 := by rw [show lay _ 0 _ = (cs2 : List Value).toArray from lay_whole _ _ (by rw [HCL.out]; rfl)] at qc0; exact qc0
  clear qc0
  have Hx7 := hid qB2
  have zu1_4 := hm.size
  have HMu1_4 := hid hm
  have Cx8 := hid (Mod.goS (S' := (fun k => (R k) ∨ (k = w.heap.size))) Cx6.out hm (fun _ h => Or.inl h) (by intro k h0 h2; exact Or.inr (h2)))
  clear hm Cx6
  clear act E qB2 HB2
  have Hx9 := hid ((Hx3.out.mod HMu1_3.out (fun _ _ h => h)).mod HMu1_4.out (by intro k h1 h2; have hb := HBR.out k h1; omega))
  have Hx10 := hid (Hx5.out.mod HMu1_4.out (by intro k h1 h2; omega))
  clear Hx3 Hx5 HMu1_3 HMu1_4
  refine QSeq.nil (t' := [_, _, _, _, _]) rfl ?_
  have ha0 := HA0.out
  subst ha0
  clear HA0 hsz0 oe0 oe2
  simp only [putAll, Act.put, List.setIfInBounds_toArray, List.set_cons_zero, List.set_cons_succ, List.set_nil]
  go_wp2
  exact bodyPost_ret (results_cellA rfl _ _ w.heap.size cs2 rfl (fun k u hu => by rw [Hx7.out.cell]; simpa using hu) Try.underlying60 rfl (by rw [HCL.out]; kernel_rfl)) rfl ⟨_, rfl, (Hx10.out.widen (R' := (fun k => New w u1_4 k)) (by intro k h1; omega)), Hx9.out, (HM0.out.trans Cx8.out (by intro k h1 h2; rcases h2 with h2 | h2 <;> first | exact h2 | omega | (have hb := HBR.out k h2; omega)))⟩
end Go.Proofs.Ytknpapcfhnhheaa

/- Equality of commitments, names and signatures. -/
set_option maxRecDepth 100000
namespace Go.Proofs.Ytknpapcfhnhheaa
open Go Go.RowKit Go.Gv
theorem size_run {P : Program} {T : TypeId} {n : Nat} (h : (P.info? T).map (·.size) = some n) (w : World) : (sizeOf T).run P w = .ok n w := by
  cases hq : P.info? T with
  | none => rw [hq] at h; cases h
  | some i => rw [hq] at h; simp [sizeOf, typeInfo, hq]; exact Option.some.inj h
theorem part_agg {P : Program} {T : TypeId} {n : Nat} {d : TypeDesc} (hu : P.underlying T = some d) (hd : aggDesc d = true) (h : (P.info? T).map (·.size) = some n) (cs : Array Value) (off : Nat) (w : World) : (part T cs off).run P w = .ok (.agg (cs.extract off (off + n))) w := by
  have hagg : (isAgg T).run P w = .ok true w := by
    unfold isAgg
    rw [Sem.run_bind, run_underlying hu w]
    cases d <;> simp_all [aggDesc]
  simp [part, hagg, size_run h]
theorem part_one {P : Program} {T : TypeId} {d : TypeDesc} (hu : P.underlying T = some d) (hd : aggDesc d = false) {cs : Array Value} {off : Nat} {v : Value} (hv : cs[off]? = some v) (w : World) : (part T cs off).run P w = .ok v w := by
  have hagg : (isAgg T).run P w = .ok false w := by
    unfold isAgg
    rw [Sem.run_bind, run_underlying hu w]
    cases d <;> simp_all [aggDesc]
  simp [part, hagg, hv]
end Go.Proofs.Ytknpapcfhnhheaa

/- Equality of flat things (all cells are ints): they are equal where their cells are. -/
set_option maxRecDepth 100000
set_option linter.unusedVariables false
namespace Go.Proofs.Ytknpapcfhnhheaa
open Go Go.RowKit Go.Gv

/-- cells that are ints of these kinds -/
def KI : List IntKind → List Value → Prop
  | [], [] => True
  | k :: ks, v :: vs => (∃ a, v = .int k a) ∧ KI ks vs
  | _, _ => False
theorem KI.len : ∀ {ks : List IntKind} {vs : List Value}, KI ks vs → vs.length = ks.length
  | [], [], _ => rfl
  | k :: ks, v :: vs, h => by simp [KI.len h.2]
  | [], v :: vs, h => h.elim
  | k :: ks, [], h => h.elim
theorem KI.append : ∀ {ks ks' : List IntKind} {a b : List Value}, KI ks a → KI ks' b → KI (ks ++ ks') (a ++ b)
  | [], ks', [], b, _, h => h
  | k :: ks, ks', v :: vs, b, h, h' => ⟨h.1, KI.append h.2 h'⟩
  | [], _, v :: vs, _, h, _ => h.elim
  | k :: ks, _, [], _, h, _ => h.elim
theorem KI.split : ∀ {ks ks' : List IntKind} {vs : List Value}, KI (ks ++ ks') vs → ∃ a b, vs = a ++ b ∧ KI ks a ∧ KI ks' b
  | [], ks', vs, h => ⟨[], vs, rfl, trivial, h⟩
  | k :: ks, ks', v :: vs, h => by
    obtain ⟨a, b, rfl, h1, h2⟩ := KI.split h.2
    exact ⟨v :: a, b, rfl, ⟨h.1, h1⟩, h2⟩
  | k :: ks, _, [], h => h.elim
theorem KI.ints {k : IntKind} : ∀ {n : Nat} {h : List Int}, h.length = n → KI (List.replicate n k) (h.map (Value.int k))
  | 0, [], _ => trivial
  | n + 1, a :: h, e => ⟨⟨a, rfl⟩, KI.ints (by simpa using e)⟩
theorem KI.rep {k : IntKind} : ∀ {n : Nat} {vs : List Value}, KI (List.replicate n k) vs → ∃ h : List Int, h.length = n ∧ vs = h.map (Value.int k)
  | 0, [], _ => ⟨[], rfl, rfl⟩
  | 0, v :: vs, h => h.elim
  | n + 1, [], h => h.elim
  | n + 1, v :: vs, h => by
    obtain ⟨a, rfl⟩ := h.1
    obtain ⟨l, e, rfl⟩ := KI.rep h.2
    exact ⟨a :: l, by simp [e], rfl⟩
def EqW (P : Program) (d : Nat) (T : TypeId) (ks : List IntKind) : Prop := ∀ (xs ys : List Value) (c : Bool) (w : World), KI ks xs → KI ks ys → (c = true ↔ xs = ys) → (Op.equalIn d T (.agg xs.toArray) (.agg ys.toArray)).run P w = .ok c w
def EqT (P : Program) (d : Nat) (T : TypeId) (ks : List IntKind) : Prop := ∀ (A B : List Value) (off : Nat) (xs ys : List Value) (c : Bool) (w : World), KI ks xs → KI ks ys → (c = true ↔ xs = ys) → (A.drop off).take ks.length = xs → (B.drop off).take ks.length = ys →
  ∃ x y, (part T A.toArray off).run P w = .ok x w ∧ (part T B.toArray off).run P w = .ok y w ∧ (Op.equalIn d T x y).run P w = .ok c w
theorem ex_bool (p : Prop) : ∃ c : Bool, (c = true ↔ p) := by
  rcases Classical.em p with h | h
  · exact ⟨true, by simp [h]⟩
  · exact ⟨false, by simp [h]⟩
theorem bool_of {c d : Bool} (h : c = true ↔ d = true) : c = d := by cases c <;> cases d <;> simp_all
variable {P : Program}
theorem drop_one {A : List Value} {off : Nat} {v : Value} (h : (A.drop off).take 1 = [v]) : A.toArray[off]? = some v := by
  have h1 : ((A.drop off).take 1)[0]? = some v := by rw [h]; rfl
  rw [List.getElem?_take, List.getElem?_drop] at h1
  simpa using h1
theorem EqT.int {d : Nat} {T : TypeId} {k : IntKind} (hu : P.underlying T = some (.int k)) : EqT P (d + 1) T [k] := by
  intro A B off xs ys c w hx hy hc ha hb
  match xs, ys, hx, hy with
  | [x], [y], ⟨⟨a, e⟩, _⟩, ⟨⟨b, e'⟩, _⟩ =>
    subst e e'
    refine ⟨_, _, part_one hu rfl (drop_one ha) w, part_one hu rfl (drop_one hb) w, ?_⟩
    rw [run_equalIn_int w d T k k a b hu, show (a == b) = c from bool_of (by rw [hc]; simp)]
theorem EqT.agg {d : Nat} {T : TypeId} {ks : List IntKind} {de : TypeDesc} (h : EqW P d T ks) (hu : P.underlying T = some de) (hd : aggDesc de = true) (hs : (P.info? T).map (·.size) = some ks.length) : EqT P d T ks := by
  intro A B off xs ys c w hx hy hc ha hb
  have e : ∀ (A : List Value), A.toArray.extract off (off + ks.length) = ((A.drop off).take ks.length).toArray := fun A => by
    apply Array.ext'
    simp [List.extract_eq_take_drop, Nat.add_sub_cancel_left]
  have p1 := part_agg hu hd hs A.toArray off w
  have p2 := part_agg hu hd hs B.toArray off w
  rw [e, ha] at p1
  rw [e, hb] at p2
  exact ⟨_, _, p1, p2, h xs ys c w hx hy hc⟩
theorem EqW.ints {d : Nat} {T e : TypeId} {n : Nat} {k : IntKind} (ht : P.underlying T = some (.array n e)) (he : P.underlying e = some (.int k)) (hs : (P.info? e).map (·.size) = some 1) : EqW P (d + 2) T (List.replicate n k) := by
  intro xs ys c w hx hy hc
  obtain ⟨a, ha, rfl⟩ := hx.rep
  obtain ⟨b, hb, rfl⟩ := hy.rep
  rw [run_equalIn_ints w d T e n ht he hs a b ha hb]
  rw [show decide (a = b) = c from bool_of (by
    rw [hc, decide_eq_true_iff]
    exact ⟨fun h => by rw [h], fun h => (List.map_inj_right (fun x y h => by injection h)).1 h⟩)]
def FsE (P : Program) (d : Nat) : Nat → List Field → List (List IntKind) → Prop
  | _, [], [] => True
  | off, f :: fs, ks :: l => f.name ≠ "_" ∧ f.offset = off ∧ EqT P d f.type ks ∧ FsE P d (off + ks.length) fs l
  | _, _, _ => False
theorem eqFields_all {d : Nat} : ∀ (fs : List Field) (l : List (List IntKind)) (pre pre' xs ys : List Value) (c : Bool) (w : World), FsE P d pre.length fs l → pre'.length = pre.length → KI l.flatten xs → KI l.flatten ys → (c = true ↔ xs = ys) →
    (Op.eqFields d (pre ++ xs).toArray (pre' ++ ys).toArray fs).run P w = .ok c w
  | [], [], pre, pre', xs, ys, c, w, _, _, hx, hy, hc => by
    match xs, ys, hx, hy, hc with
    | [], [], _, _, hc => obtain rfl : c = true := hc.2 rfl; simp [Op.eqFields]
  | [], _ :: _, _, _, _, _, _, _, h, _, _, _, _ => h.elim
  | _ :: _, [], _, _, _, _, _, _, h, _, _, _, _ => h.elim
  | f :: fs, ks :: l, pre, pre', xs, ys, c, w, ⟨h1, h2, h3, h4⟩, hp, hx, hy, hc => by
    obtain ⟨a, b, rfl, ha, hb⟩ := KI.split (by simpa using hx)
    obtain ⟨a', b', rfl, ha', hb'⟩ := KI.split (by simpa using hy)
    have la := ha.len
    have la' := ha'.len
    obtain ⟨c1, hc1⟩ := ex_bool (a = a')
    obtain ⟨c2, hc2⟩ := ex_bool (b = b')
    obtain ⟨x, y, p1, p2, q⟩ := h3 (pre ++ (a ++ b)) (pre' ++ (a' ++ b')) pre.length a a' c1 w ha ha' hc1 (by rw [List.drop_left, ← la, List.take_left]) (by rw [← hp, List.drop_left, ← la', List.take_left])
    have ih := eqFields_all fs l (pre ++ a) (pre' ++ a') b b' c2 w (by rw [List.length_append, la]; exact h4) (by rw [List.length_append, List.length_append, hp, la, la']) hb hb' hc2
    rw [List.append_assoc, List.append_assoc] at ih
    unfold Op.eqFields
    rw [if_pos h1, h2]
    simp only [Sem.run_bind, p1, p2, q, Result.andThen_ok]
    have hcc : c = (c1 && c2) := bool_of (by
      rw [hc, Bool.and_eq_true, hc1, hc2]
      exact ⟨fun h => List.append_inj h (by rw [la, la']), fun h => by rw [h.1, h.2]⟩)
    subst hcc
    cases c1
    · simp
    · simp [ih]
theorem EqW.struct {d : Nat} {T : TypeId} {fs : Array Field} (l : List (List IntKind)) (hu : P.underlying T = some (.struct fs)) (hs : P.stoodInHeld T = false) (hl : FsE P d 0 fs.toList l) : EqW P (d + 1) T l.flatten := by
  intro xs ys c w hx hy hc
  have hf : P.fieldsOf T = fs := by unfold Program.fieldsOf; rw [hu]
  rw [run_equalIn_struct w d T xs.toArray ys.toArray (by rw [hf]; exact hu) hs, hf]
  exact eqFields_all fs.toList l [] [] xs ys c w hl rfl hx hy hc
theorem EqW.run {T : TypeId} {ks : List IntKind} (h : EqW P 10000 T ks) {xs ys : List Value} (hx : KI ks xs) (hy : KI ks ys) {c : Bool} (hc : c = true ↔ xs = ys) (w : World) : (binOp .eql T (.agg xs.toArray) (.agg ys.toArray)).run P w = .ok (.bool (c)) w := by
  rw [run_eql_struct, h xs ys c w hx hy hc]
  rfl
theorem EqW.runN {T : TypeId} {ks : List IntKind} (h : EqW P 10000 T ks) {xs ys : List Value} (hx : KI ks xs) (hy : KI ks ys) {c : Bool} (hc : c = true ↔ xs = ys) (w : World) : (binOp .neq T (.agg xs.toArray) (.agg ys.toArray)).run P w = .ok (.bool (!c)) w := by
  rw [run_neq_struct, h xs ys c w hx hy hc]
  rfl
abbrev kHash : List IntKind := List.replicate 32 .u8
theorem eqT_int {d : Nat} : EqT Try.prog (d + 1) 3 [.i64] := EqT.int Try.underlying3
theorem eqT_u64 {d : Nat} : EqT Try.prog (d + 1) 26 [.u64] := EqT.int Try.underlying26
theorem eqT_hash {d : Nat} : EqT Try.prog (d + 2) 25 kHash := EqT.agg (EqW.ints Try.underlying25 Try.underlying5 (by kernel_rfl)) Try.underlying25 rfl (by kernel_rfl)
theorem eqW_name {d : Nat} : EqW Try.prog (d + 2) 23 [.i64, .i64] := EqW.struct [[.i64], [.i64]] Try.underlying23 (by kernel_rfl) ⟨by decide, rfl, eqT_int, by decide, rfl, eqT_int, trivial⟩
theorem eqT_name {d : Nat} : EqT Try.prog (d + 2) 23 [.i64, .i64] := EqT.agg eqW_name Try.underlying23 rfl (by kernel_rfl)
theorem eqW_sig {d : Nat} : EqW Try.prog (d + 2) 28 [.i64, .i64] := EqW.struct [[.i64], [.i64]] Try.underlying28 (by kernel_rfl) ⟨by decide, rfl, eqT_int, by decide, rfl, eqT_int, trivial⟩
theorem eqT_sig {d : Nat} : EqT Try.prog (d + 2) 28 [.i64, .i64] := EqT.agg eqW_sig Try.underlying28 rfl (by kernel_rfl)
theorem eqW_stamp {d : Nat} : EqW Try.prog (d + 3) 30 [[.i64], [.i64, .i64], kHash, [.u64], [.i64, .i64]].flatten :=
  EqW.struct [[.i64], [.i64, .i64], kHash, [.u64], [.i64, .i64]] Try.underlying30 (by kernel_rfl) ⟨by decide, rfl, eqT_int, by decide, rfl, eqT_name, by decide, rfl, eqT_hash, by decide, rfl, eqT_u64, by decide, rfl, eqT_sig, trivial⟩
theorem eqW_deny {d : Nat} : EqW Try.prog (d + 3) 34 [[.i64], [.i64], [.i64, .i64]].flatten :=
  EqW.struct [[.i64], [.i64], [.i64, .i64]] Try.underlying34 (by kernel_rfl) ⟨by decide, rfl, eqT_int, by decide, rfl, eqT_int, by decide, rfl, eqT_sig, trivial⟩
theorem eqW_commit {d : Nat} : EqW Try.prog (d + 3) 49 [[.i64, .i64], kHash, [.i64], [.i64, .i64]].flatten :=
  EqW.struct [[.i64, .i64], kHash, [.i64], [.i64, .i64]] Try.underlying49 (by kernel_rfl) ⟨by decide, rfl, eqT_name, by decide, rfl, eqT_hash, by decide, rfl, eqT_int, by decide, rfl, eqT_sig, trivial⟩
theorem ki_hash {h : List Int} (e : h.length = 32) : KI kHash (h.map bv) := KI.ints e
theorem ki_st {x : St} (h : x.OK) : KI [[.i64], [.i64, .i64], kHash, [.u64], [.i64, .i64]].flatten x.cells := by
  have := KI.append (ks := [.i64, .i64, .i64]) (a := [.int .i64 x.rp, .int .i64 x.cl, .int .i64 x.sq]) ⟨⟨_, rfl⟩, ⟨_, rfl⟩, ⟨_, rfl⟩, trivial⟩ (KI.append (ki_hash h.h.1) (ks' := [.u64, .i64, .i64]) (b := [.int .u64 (x.tm : Nat), .int .i64 x.sb, .int .i64 x.mr]) ⟨⟨_, rfl⟩, ⟨_, rfl⟩, ⟨_, rfl⟩, trivial⟩)
  exact this
theorem ki_dn (x : Dn) : KI [[.i64], [.i64], [.i64, .i64]].flatten x.cells := ⟨⟨_, rfl⟩, ⟨_, rfl⟩, ⟨_, rfl⟩, ⟨_, rfl⟩, trivial⟩
theorem ki_cm {x : Cm} (h : x.h.length = 32) : KI [[.i64, .i64], kHash, [.i64], [.i64, .i64]].flatten x.cells := by
  have := KI.append (ks := [.i64, .i64]) (a := [.int .i64 x.cl, .int .i64 x.sq]) ⟨⟨_, rfl⟩, ⟨_, rfl⟩, trivial⟩ (KI.append (ki_hash h) (ks' := [.i64, .i64, .i64]) (b := [.int .i64 x.ln, .int .i64 x.sb, .int .i64 x.mr]) ⟨⟨_, rfl⟩, ⟨_, rfl⟩, ⟨_, rfl⟩, trivial⟩)
  exact this
end Go.Proofs.Ytknpapcfhnhheaa

/- Whether two things are one, in plain words. -/
set_option maxRecDepth 100000
set_option linter.unusedVariables false
namespace Go.Proofs.Ytknpapcfhnhheaa
open Go Go.RowKit Go.Gv


noncomputable def eqb {α : Type} (x y : α) : Bool := @decide (x = y) (Classical.propDecidable _)
theorem eqb_iff {α : Type} {x y : α} : eqb x y = true ↔ x = y := by unfold eqb; exact @decide_eq_true_iff _ (Classical.propDecidable _)
theorem eqb_rfl {α : Type} (x : α) : eqb x x = true := eqb_iff.2 rfl
theorem eqb_ne {α : Type} {x y : α} (h : ¬ x = y) : eqb x y = false := by
  cases hq : eqb x y with
  | false => rfl
  | true => exact absurd (eqb_iff.1 hq) h
theorem ne_tt {a b : Int} (h : a ≠ b) : (!(a == b)) = true := by simp [h]
theorem ne_ff {a b : Int} (h : a = b) : (!(a == b)) = false := by simp [h]
theorem dec_eqb {α : Type} (x y : α) [h : Decidable (x = y)] : decide (x = y) = eqb x y := by
  rw [Bool.eq_iff_iff, eqb_iff, decide_eq_true_iff]
theorem agg_guardE (op : BinOp) (T : TypeId) (x y : Operand) (a b : Array Value) (h : Try.prog.eqGuardType Try.prog.depth T = false) (w : World) : (eqGuard op T x y (.agg a) (.agg b)).run Try.prog w = .ok () w := run_eqGuard_agg (P := Try.prog) w op T x y a b h
theorem hash_inj {a b : List Int} (h : a.map bv = b.map bv) : a = b := (List.map_inj_right (fun a b e => by injection e)).1 h
theorem ki_2 (a b : Int) : KI [.i64, .i64] [Value.int .i64 a, Value.int .i64 b] := ⟨⟨_, rfl⟩, ⟨_, rfl⟩, trivial⟩
theorem two_iff (a b c d : Int) : eqb (a, b) (c, d) = true ↔ ([Value.int .i64 a, Value.int .i64 b] = [Value.int .i64 c, Value.int .i64 d]) := by
  rw [eqb_iff]
  simp
theorem st_iff {x y : St} (hx : x.OK) (hy : y.OK) : eqb x y = true ↔ x.cells = y.cells := by
  rw [eqb_iff]
  refine ⟨fun h => by rw [h], fun h => ?_⟩
  have h1 := List.append_inj h rfl
  have h2 := List.append_inj h1.2 (by simp [hx.h.1, hy.h.1])
  have h3 := hash_inj h2.1
  have h4 := h1.1
  have h5 := h2.2
  simp only [List.cons.injEq, Value.int.injEq, and_true, true_and, Int.ofNat_inj] at h4 h5
  cases x; cases y
  simp_all
theorem cm_iff {x y : Cm} (hx : x.OK) (hy : y.OK) : eqb x y = true ↔ x.cells = y.cells := by
  rw [eqb_iff]
  refine ⟨fun h => by rw [h], fun h => ?_⟩
  have h1 := List.append_inj h rfl
  have h2 := List.append_inj h1.2 (by simp [hx.2.1, hy.2.1])
  have h3 := hash_inj h2.1
  have h4 := h1.1
  have h5 := h2.2
  simp only [List.cons.injEq, Value.int.injEq, and_true, true_and, Int.ofNat_inj] at h4 h5
  cases x; cases y
  simp_all
theorem dn_iff {x y : Dn} (hx : x.OK) (hy : y.OK) : eqb x y = true ↔ x.cells = y.cells := by
  rw [eqb_iff]
  refine ⟨fun h => by rw [h], fun h => ?_⟩
  simp only [Dn.cells, List.cons.injEq, Value.int.injEq, and_true, true_and] at h
  cases x; cases y
  simp_all
theorem ce_eqb (x y : Ce) : (eqb x.c y.c && eqb x.l y.l) = eqb x y := by
  rw [Bool.eq_iff_iff, Bool.and_eq_true, eqb_iff, eqb_iff, eqb_iff]
  cases x; cases y
  simp
theorem beq_I (a b : Int) : (a == b) = true ↔ a = b := by simp
theorem pm_eqb (x y : Pm) : (((((x.rp == y.rp) && (x.ep == y.ep)) && (((x.fl : Nat) : Int) == ((y.fl : Nat) : Int))) && eqb (x.sb, x.mr) (y.sb, y.mr)) && eqb x.l y.l) = eqb x y := by
  rw [Bool.eq_iff_iff]
  simp only [Bool.and_eq_true, eqb_iff, beq_I, Int.ofNat_inj, Prod.mk.injEq]
  cases x; cases y
  simp only [Pm.mk.injEq]
  constructor
  · rintro ⟨⟨⟨⟨h1, h2⟩, h3⟩, h4, h5⟩, h6⟩; exact ⟨h1, h2, h3, h6, h4, h5⟩
  · rintro ⟨h1, h2, h3, h6, h4, h5⟩; exact ⟨⟨⟨⟨h1, h2⟩, h3⟩, h4, h5⟩, h6⟩
theorem op_eqb (x y : Op) : (((x.ix == y.ix) && eqb x.nc y.nc) && eqb x.pl y.pl) = eqb x y := by
  rw [Bool.eq_iff_iff]
  simp only [Bool.and_eq_true, eqb_iff, beq_I]
  cases x; cases y
  simp only [Op.mk.injEq]
  constructor
  · rintro ⟨⟨h1, h2⟩, h3⟩; exact ⟨h1, h3, h2⟩
  · rintro ⟨h1, h3, h2⟩; exact ⟨⟨h1, h2⟩, h3⟩
theorem tb_eqb (x y : Tb) : ((!(x.ix == y.ix)) || (!eqb x.l y.l)) = !eqb x y := by
  have h : ((x.ix == y.ix) && eqb x.l y.l) = eqb x y := by
    rw [Bool.eq_iff_iff]
    simp only [Bool.and_eq_true, eqb_iff, beq_I]
    cases x; cases y
    simp
  rw [← h]
  cases (x.ix == y.ix) <;> cases eqb x.l y.l <;> rfl
theorem ba_eqb (x y : Ba) (h : (((((!(x.ep == y.ep)) || (!(((x.tm : Nat) : Int) == ((y.tm : Nat) : Int)))) || (!(((x.ps.length : Nat) : Int) == ((y.ps.length : Nat) : Int)))) || (!eqb x.os y.os)) || (!eqb x.ts y.ts)) = false) : eqb x.ps y.ps = eqb x y := by
  simp only [Bool.or_eq_false_iff, Bool.not_eq_false', eqb_iff, beq_I, Int.ofNat_inj] at h
  obtain ⟨⟨⟨⟨h1, h2⟩, h3⟩, h4⟩, h5⟩ := h
  rw [Bool.eq_iff_iff, eqb_iff, eqb_iff]
  cases x; cases y
  simp_all
theorem ba_neb (x y : Ba) (h : (((((!(x.ep == y.ep)) || (!(((x.tm : Nat) : Int) == ((y.tm : Nat) : Int)))) || (!(((x.ps.length : Nat) : Int) == ((y.ps.length : Nat) : Int)))) || (!eqb x.os y.os)) || (!eqb x.ts y.ts)) = true) : eqb x y = false := by
  refine eqb_ne fun e => ?_
  subst e
  simp [eqb_rfl] at h
theorem take_ne {α : Type} {l m : List α} {k : Nat} (h1 : k < l.length) (h2 : k < m.length) (h : ¬ l[k] = m[k]) : eqb l m = false := eqb_ne fun e => h (by subst e; rfl)
theorem take_all {α : Type} {l m : List α} {k : Nat} (h1 : l.length ≤ k) (h2 : m.length ≤ k) (h : l.take k = m.take k) : eqb l m = true := by
  rw [List.take_of_length_le h1, List.take_of_length_le h2] at h
  exact eqb_iff.2 h
theorem take_succ2 {α : Type} {l m : List α} {k : Nat} (h1 : k < l.length) (h2 : k < m.length) (h : l.take k = m.take k) (he : l[k] = m[k]) : l.take (k + 1) = m.take (k + 1) := by
  rw [List.take_succ_eq_append_getElem h1, List.take_succ_eq_append_getElem h2, h, he]
/-- a function that says whether two things are one; two lists -/
def Eqs {α : Type} (A : Rep α) (F : FuncId) : Prop := ∀ (R R2 : Nat → Prop) (cs ds : List Value) (x y : α) (w : World), A.rd R w cs x → A.rd R2 w ds y → (∀ k, R k → k < w.heap.size) → (∀ k, R2 k → k < w.heap.size) →
  Calls Try.prog F #[.agg cs.toArray, .agg ds.toArray] w fun e w' => e = .returned (.bool (eqb x y)) ∧ Mod (fun _ => False) w w'
def EqsL {α : Type} (A : Rep α) (F : FuncId) : Prop := ∀ (R R2 : Nat → Prop) (v v2 : Value) (l m : List α) (w : World), RdS A R w v l → RdS A R2 w v2 m → (∀ k, R k → k < w.heap.size) → (∀ k, R2 k → k < w.heap.size) →
  Calls Try.prog F #[v, v2] w fun e w' => e = .returned (.bool (eqb l m)) ∧ Mod (fun _ => False) w w'
theorem Same_B {R R2 : Nat → Prop} {N N2 : Nat} {va vb : Value} {a b : List Int} {w : World} (ha : RdR R N w va a) (hb : RdR R2 N2 w vb b) :
    Calls Try.prog 18 #[va, vb] w fun e w' => e = .returned (.bool (eqb a b)) ∧ Mod (fun _ => False) w w' :=
  (Same_R ha hb).mono fun _ _ ⟨he, hm⟩ => ⟨he.trans (by rw [dec_eqb]), hm⟩
end Go.Proofs.Ytknpapcfhnhheaa

/- gavelkeep: comparisons of lists, certificates, promises, openings. -/
set_option maxRecDepth 100000
set_option linter.unusedVariables false
namespace Go.Proofs.Ytknpapcfhnhheaa
open Go Go.RowKit Go.Gv

set_option maxHeartbeats 4000000 in
theorem EqL_St : EqsL StR 79 := by
  intro R R2 v v2 l m w hs ht hB hB2
  obtain ⟨ao, cap, rfl⟩ := hs.shape
  obtain ⟨bo, bcap, rfl⟩ := ht.shape
  have hlm : l.length ≤ maxLen := hs.bd
  rw [maxLen_val] at hlm
  have HS := Lib.hid hs
  have HT := Lib.hid ht
  have HBR := Lib.hid hB
  have HBT := Lib.hid hB2
  clear hs ht hB hB2
  go_enter Try.func79, Try.ntmps79
  go_upto_region 1 with (fail)
  have HM0 := hid (Mod.refl (fun _ => False) w)
  by_cases hl : l.length = m.length
  rotate_left
  · skip
    go_upto_region 1 with (fail)
    generalize ha0 : Act.mk _ _ = a0
    have oe0 : a0.eval (.tmp 0) = .slice ao l.length cap := by rw [← ha0]; rfl
    have oe1 : a0.eval (.tmp 1) = .slice bo m.length bcap := by rw [← ha0]; rfl
    have hsz0 : a0.tmps.size = 26 := by rw [← ha0]; rfl
    have HA0 := hid ha0
    clear ha0
    refine wp_region_S 26 hsz0 [6, 7, 8, 9, 10] [0, 1, 2, 3, 4] ?_
    refine QSeq.pure rfl (.slice ao l.length cap) (fun E => ex_move rfl (E.v oe0)) ?_
    refine QSeq.pure rfl (.int .i64 l.length) (fun E => ex_lenS rfl (E.d 0 0) Try.underlying50) ?_
    refine QSeq.pure rfl (.slice bo m.length bcap) (fun E => ex_move rfl (E.v oe1)) ?_
    refine QSeq.pure rfl (.int .i64 m.length) (fun E => ex_lenS rfl (E.d 2 0) Try.underlying50) ?_
    refine QSeq.pure rfl (.bool true) (fun E => ex_binE rfl (E.d 1 2) (E.d 3 0) (guard_ints _ _ _ _ _ _) (run_neq_i _ _ _ Try.underlying3) (congrArg Value.bool (ne_tt (by omega)))) ?_
    refine QSeq.nil (t' := [_, _, _, _, _]) rfl ?_
    have ha0 := HA0.out
    subst ha0
    clear HA0 hsz0 oe0 oe1
    simp only [putAll, Act.put, List.setIfInBounds_toArray, List.set_cons_zero, List.set_cons_succ]
    go_upto_region 2 with (fail)
    generalize ha0 : Act.mk _ _ = a0
    have hsz0 : a0.tmps.size = 26 := by rw [← ha0]; rfl
    have HA0 := hid ha0
    clear ha0
    refine wp_region_S 26 hsz0 [4] [0] ?_
    refine QSeq.pure rfl (.bool false) (fun E => ex_assign rfl rfl) ?_
    refine QSeq.nil (t' := [_]) rfl ?_
    have ha0 := HA0.out
    subst ha0
    clear HA0 hsz0
    simp only [putAll, Act.put, List.setIfInBounds_toArray, List.set_cons_zero, List.set_cons_succ]
    go_wp2
    go_ret
    exact ⟨ret_bool (eqb_ne fun e => hl (by rw [e])).symm, HM0.out⟩
  · skip
    go_upto_region 1 with (fail)
    generalize ha0 : Act.mk _ _ = a0
    have oe0 : a0.eval (.tmp 0) = .slice ao l.length cap := by rw [← ha0]; rfl
    have oe1 : a0.eval (.tmp 1) = .slice bo m.length bcap := by rw [← ha0]; rfl
    have hsz0 : a0.tmps.size = 26 := by rw [← ha0]; rfl
    have HA0 := hid ha0
    clear ha0
    refine wp_region_S 26 hsz0 [6, 7, 8, 9, 10] [0, 1, 2, 3, 4] ?_
    refine QSeq.pure rfl (.slice ao l.length cap) (fun E => ex_move rfl (E.v oe0)) ?_
    refine QSeq.pure rfl (.int .i64 l.length) (fun E => ex_lenS rfl (E.d 0 0) Try.underlying50) ?_
    refine QSeq.pure rfl (.slice bo m.length bcap) (fun E => ex_move rfl (E.v oe1)) ?_
    refine QSeq.pure rfl (.int .i64 m.length) (fun E => ex_lenS rfl (E.d 2 0) Try.underlying50) ?_
    refine QSeq.pure rfl (.bool false) (fun E => ex_binE rfl (E.d 1 2) (E.d 3 0) (guard_ints _ _ _ _ _ _) (run_neq_i _ _ _ Try.underlying3) (congrArg Value.bool (ne_ff (by omega)))) ?_
    refine QSeq.nil (t' := [_, _, _, _, _]) rfl ?_
    have ha0 := HA0.out
    subst ha0
    clear HA0 hsz0 oe0 oe1
    simp only [putAll, Act.put, List.setIfInBounds_toArray, List.set_cons_zero, List.set_cons_succ]
    go_upto_region 3 with (fail)
    generalize ha0 : Act.mk _ _ = a0
    have hsz0 : a0.tmps.size = 26 := by rw [← ha0]; rfl
    have HA0 := hid ha0
    clear ha0
    refine wp_region_S 26 hsz0 [5] [0] ?_
    refine QSeq.pure rfl (.int .i64 0) (fun E => ex_assign rfl rfl) ?_
    refine QSeq.nil (t' := [_]) rfl ?_
    have ha0 := HA0.out
    subst ha0
    clear HA0 hsz0
    simp only [putAll, Act.put, List.setIfInBounds_toArray, List.set_cons_zero, List.set_cons_succ]
    have HLE := Lib.hid hl
    clear hl
    go_wp2
    go_loopw [5] (fun ti wr => ∃ k : Nat, ti = .int .i64 (k : Int) ∧ k ≤ l.length ∧ l.take k = m.take k ∧ w.heap.size ≤ wr.heap.size ∧ RdS StR R wr (.slice ao l.length cap) l ∧ RdS StR R2 wr (.slice bo m.length bcap) m ∧ Mod (fun _ => False) w wr) (fun ti _ => l.length - (intOf ti).toNat)
    case atStart => exact ⟨0, rfl, Nat.zero_le _, rfl, Nat.le_refl _, HS.out, HT.out, HM0.out⟩
    case round =>
      obtain ⟨k, rfl, hk, htk, hz, hs, ht, hm⟩ := hrel
      obtain ⟨wl, rfl⟩ : ∃ x, x = wr := ⟨_, rfl⟩
      have HS2 := Lib.hid hs
      have HT2 := Lib.hid ht
      have HML := Lib.hid hm
      have HTK := Lib.hid htk
      clear hs ht hm htk HS HT HM0
      by_cases hlt : k < l.length
      · have hlt2 : k < m.length := by have := HLE.out; omega
        go_upto_region 4 with (fail)
        generalize ha0 : Act.mk _ _ = a0
        have oe0 : a0.eval (.tmp 0) = .slice ao l.length cap := by rw [← ha0]; rfl
        have oe5 : a0.eval (.tmp 5) = .int .i64 ((k : Nat) : Int) := by rw [← ha0]; rfl
        have hsz0 : a0.tmps.size = 26 := by rw [← ha0]; rfl
        have HA0 := hid ha0
        clear ha0
        refine wp_region_S 26 hsz0 [11, 12, 13, 14] [0, 1, 2, 3] ?_
        refine QSeq.pure rfl (.int .i64 ((k : Nat) : Int)) (fun E => ex_move rfl (E.v oe5)) ?_
        refine QSeq.pure rfl (.slice ao l.length cap) (fun E => ex_move rfl (E.v oe0)) ?_
        refine QSeq.pure rfl (.int .i64 l.length) (fun E => ex_lenS rfl (E.d 1 0) Try.underlying50) ?_
        refine QSeq.pure rfl (.bool true) (fun E => ex_binE rfl (E.d 0 2) (E.d 2 0) (guard_ints _ _ _ _ _ _) (run_lss_i _ _ _ Try.underlying3) (congrArg Value.bool (decide_eq_true (by omega)))) ?_
        refine QSeq.nil (t' := [_, _, _, _]) rfl ?_
        have ha0 := HA0.out
        subst ha0
        clear HA0 hsz0 oe0 oe5
        simp only [putAll, Act.put, List.setIfInBounds_toArray, List.set_cons_zero, List.set_cons_succ]
        have hat := HS2.out.at hlt
        obtain ⟨g1, o1, c1, eao, hrg, hrd, hcs⟩ := hat
        subst eao
        obtain ⟨x, hx⟩ : ∃ z, z = l[k] := ⟨_, rfl⟩
        rw [← hx] at hrd
        have HX1 := Lib.hid hx
        have hcl : c1.length = 38 := StR.len hrd
        have HCL1 := Lib.hid hcl
        have HAT1 := hid (show CellsAt R wl g1 (o1 + k * 38) c1 from ⟨hrg, hcs⟩)
        have HRD1 := Lib.hid hrd
        clear hcl hcs hrd hrg hx
        have hat := HT2.out.at hlt2
        obtain ⟨g2, o2, c2, eao, hrg, hrd, hcs⟩ := hat
        subst eao
        obtain ⟨y, hy⟩ : ∃ z, z = m[k] := ⟨_, rfl⟩
        rw [← hy] at hrd
        have HX2 := Lib.hid hy
        have hcl : c2.length = 38 := StR.len hrd
        have HCL2 := Lib.hid hcl
        have HAT2 := hid (show CellsAt R2 wl g2 (o2 + k * 38) c2 from ⟨hrg, hcs⟩)
        have HRD2 := Lib.hid hrd
        clear hcl hcs hrd hrg hy
        obtain ⟨b, hb⟩ : ∃ b, b = eqb x y := ⟨_, rfl⟩
        have HB := Lib.hid hb
        clear hb
        obtain ⟨rfl, hok1⟩ := HRD1.out
        obtain ⟨rfl, hok2⟩ := HRD2.out
        have HO1 := Lib.hid hok1
        have HO2 := Lib.hid hok2
        clear hok1 hok2
        clear HRD1
        clear HRD2
        go_upto_region 6 with (fail)
        generalize ha0 : Act.mk _ _ = a0
        have oe0 : a0.eval (.tmp 0) = .slice (some ⟨g1, o1, none⟩) l.length cap := by rw [← ha0]; rfl
        have oe1 : a0.eval (.tmp 1) = .slice (some ⟨g2, o2, none⟩) m.length bcap := by rw [← ha0]; rfl
        have oe5 : a0.eval (.tmp 5) = .int .i64 ((k : Nat) : Int) := by rw [← ha0]; rfl
        have hsz0 : a0.tmps.size = 26 := by rw [← ha0]; rfl
        have HA0 := hid ha0
        clear ha0
        refine wp_region_Q0 26 hsz0 [17, 18, 19, 20, 21, 22, 23, 24, 25] [qi (.slice (some ⟨g1, o1, none⟩) l.length cap), qi (.int .i64 ((k : Nat) : Int)), qi (.pointer (some ⟨g1, o1 + k * 38, none⟩)), qi (.agg x.cells.toArray), qi (.slice (some ⟨g2, o2, none⟩) m.length bcap), qi (.int .i64 ((k : Nat) : Int)), qi (.pointer (some ⟨g2, o2 + k * 38, none⟩)), qi (.agg y.cells.toArray), qi (.bool (!b))] ⟨qi_stable, qi_stable, qi_stable, qi_stable, qi_stable, qi_stable, qi_stable, qi_stable, qi_stable, trivial⟩ [] ⟨?_, ?_, ?_, ?_, ?_, ?_, ?_, ?_, ?_, trivial⟩ ?_
        · exact stq (fun E => ex_move rfl (E.v oe0))
        · exact stq (fun E => ex_move rfl (E.v oe5))
        · exact stq (fun E => ex_idxS (i := k) (s := 38) rfl Try.underlying50 (by kernel_rfl) (E.d 0) (E.d 1) (by first | exact hlt | exact hlt2))
        · exact stq (fun E => ex_loadA rfl Try.underlying30 rfl (off := o1 + k * 38) (cs := x.cells) (by rw [HCL1.out]; kernel_rfl) (E.d 2) (fun j u hu => ((HAT1.out.mod E.m.old (by intro k h1 h2; have hb := HBR.out k h1; omega))).2 j u hu))
        · exact stq (fun E => ex_move rfl (E.v oe1))
        · exact stq (fun E => ex_move rfl (E.v oe5))
        · exact stq (fun E => ex_idxS (i := k) (s := 38) rfl Try.underlying50 (by kernel_rfl) (E.d 4) (E.d 5) (by first | exact hlt | exact hlt2))
        · exact stq (fun E => ex_loadA rfl Try.underlying30 rfl (off := o2 + k * 38) (cs := y.cells) (by rw [HCL2.out]; kernel_rfl) (E.d 6) (fun j u hu => ((HAT2.out.mod E.m.old (by intro k h1 h2; have hb := HBT.out k h1; omega))).2 j u hu))
        · exact stq (fun E => ex_binE rfl (E.d 3) (E.d 7) (agg_guardE _ _ _ _ _ _ (by kernel_rfl) _) (EqW.runN eqW_stamp (ki_st HO1.out) (ki_st HO2.out) (st_iff HO1.out HO2.out) _) (congrArg (fun z => Value.bool (!z)) HB.out.symm))
        intro u6_0 hr
        have zu6_0 := hr.size
        have Cx1 := hid (hr.new (S := (fun _ => False)))
        clear hr
        refine QChain.nil fun vs hl hzz hrows hne => ?_
        obtain ⟨Z, hYZ, hZb, hV⟩ := hzz
        have f0 := fvi hV hl 0
        have f1 := fvi hV hl 1
        have f4 := fvi hV hl 4
        have f5 := fvi hV hl 5
        have f8 := fvi hV hl 8
        rw [show vs = [gw vs 0, gw vs 1, gw vs 2, gw vs 3, gw vs 4, gw vs 5, gw vs 6, gw vs 7, gw vs 8] from (gw_eta hl).trans rfl]
        have ha0 := HA0.out
        subst ha0
        clear HA0 hV hYZ hZb hsz0 hrows hne oe0 oe1 oe5
        simp only [putAll, Act.put, List.setIfInBounds_toArray, List.set_cons_zero, List.set_cons_succ, f0, f1, f4, f5, f8]
        clear hl f0 f1 f4 f5 f8
        cases b with
        | false =>
          go_upto_region 7 with (fail)
          generalize ha0 : Act.mk _ _ = a0
          have hsz0 : a0.tmps.size = 26 := by rw [← ha0]; rfl
          have HA0 := hid ha0
          clear ha0
          refine wp_region_S 26 hsz0 [4] [0] ?_
          refine QSeq.pure rfl (.bool false) (fun E => ex_assign rfl rfl) ?_
          refine QSeq.nil (t' := [_]) rfl ?_
          have ha0 := HA0.out
          subst ha0
          clear HA0 hsz0
          simp only [putAll, Act.put, List.setIfInBounds_toArray, List.set_cons_zero, List.set_cons_succ]
          go_wp2
          go_ret
          exact ⟨ret_bool (take_ne hlt hlt2 (fun e => by have h := HB.out; rw [HX1.out, HX2.out, e, eqb_rfl] at h; cases h)).symm, (HML.out.trans Cx1.out (fun _ _ h => h.elim))⟩
        | true =>
          go_upto_region 5 with (fail)
          generalize ha0 : Act.mk _ _ = a0
          have oe5 : a0.eval (.tmp 5) = .int .i64 ((k : Nat) : Int) := by rw [← ha0]; rfl
          have hsz0 : a0.tmps.size = 26 := by rw [← ha0]; rfl
          have HA0 := hid ha0
          clear ha0
          refine wp_region_S 26 hsz0 [15, 16, 5] [0, 1, 2] ?_
          refine QSeq.pure rfl (.int .i64 ((k : Nat) : Int)) (fun E => ex_move rfl (E.y 2 oe5)) ?_
          refine QSeq.pure rfl (.int .i64 (((k : Nat) : Int) + 1)) (fun E => ex_binE rfl (E.d 0 0) rfl (guard_ints _ _ _ _ _ _) (run_add_i _ _ Try.underlying3) (congrArg (Value.int .i64) (IntWalk.i64_in _ (by omega)))) ?_
          refine QSeq.pure rfl (.int .i64 (((k : Nat) : Int) + 1)) (fun E => ex_assign rfl (E.d 1 0)) ?_
          refine QSeq.nil (t' := [_, _, _]) rfl ?_
          have ha0 := HA0.out
          subst ha0
          clear HA0 hsz0 oe5
          simp only [putAll, Act.put, List.setIfInBounds_toArray, List.set_cons_zero, List.set_cons_succ]
          go_wp2
          go_roundw
          case rel => exact ⟨k + 1, by go_num, by omega, take_succ2 hlt hlt2 HTK.out (by have h := eqb_iff.1 HB.out.symm; rw [HX1.out, HX2.out] at h; exact h), by omega, (HS2.out.mod Cx1.out (fun _ _ h => h)), (HT2.out.mod Cx1.out (fun _ _ h => h)), (HML.out.trans Cx1.out (fun _ _ h => h.elim))⟩
          case measure => simp [intOf] <;> omega
      · skip
        go_upto_region 4 with (fail)
        generalize ha0 : Act.mk _ _ = a0
        have oe0 : a0.eval (.tmp 0) = .slice ao l.length cap := by rw [← ha0]; rfl
        have oe5 : a0.eval (.tmp 5) = .int .i64 ((k : Nat) : Int) := by rw [← ha0]; rfl
        have hsz0 : a0.tmps.size = 26 := by rw [← ha0]; rfl
        have HA0 := hid ha0
        clear ha0
        refine wp_region_S 26 hsz0 [11, 12, 13, 14] [0, 1, 2, 3] ?_
        refine QSeq.pure rfl (.int .i64 ((k : Nat) : Int)) (fun E => ex_move rfl (E.v oe5)) ?_
        refine QSeq.pure rfl (.slice ao l.length cap) (fun E => ex_move rfl (E.v oe0)) ?_
        refine QSeq.pure rfl (.int .i64 l.length) (fun E => ex_lenS rfl (E.d 1 0) Try.underlying50) ?_
        refine QSeq.pure rfl (.bool false) (fun E => ex_binE rfl (E.d 0 2) (E.d 2 0) (guard_ints _ _ _ _ _ _) (run_lss_i _ _ _ Try.underlying3) (congrArg Value.bool (decide_eq_false (by omega)))) ?_
        refine QSeq.nil (t' := [_, _, _, _]) rfl ?_
        have ha0 := HA0.out
        subst ha0
        clear HA0 hsz0 oe0 oe5
        simp only [putAll, Act.put, List.setIfInBounds_toArray, List.set_cons_zero, List.set_cons_succ]
        go_upto_region 8 with (fail)
        generalize ha0 : Act.mk _ _ = a0
        have hsz0 : a0.tmps.size = 26 := by rw [← ha0]; rfl
        have HA0 := hid ha0
        clear ha0
        refine wp_region_S 26 hsz0 [4] [0] ?_
        refine QSeq.pure rfl (.bool true) (fun E => ex_assign rfl rfl) ?_
        refine QSeq.nil (t' := [_]) rfl ?_
        have ha0 := HA0.out
        subst ha0
        clear HA0 hsz0
        simp only [putAll, Act.put, List.setIfInBounds_toArray, List.set_cons_zero, List.set_cons_succ]
        go_wp2
        go_ret
        exact ⟨ret_bool (take_all (by omega) (by have := HLE.out; omega) HTK.out).symm, HML.out⟩
set_option maxHeartbeats 4000000 in
theorem EqL_Dn : EqsL DnR 122 := by
  intro R R2 v v2 l m w hs ht hB hB2
  obtain ⟨ao, cap, rfl⟩ := hs.shape
  obtain ⟨bo, bcap, rfl⟩ := ht.shape
  have hlm : l.length ≤ maxLen := hs.bd
  rw [maxLen_val] at hlm
  have HS := Lib.hid hs
  have HT := Lib.hid ht
  have HBR := Lib.hid hB
  have HBT := Lib.hid hB2
  clear hs ht hB hB2
  go_enter Try.func122, Try.ntmps122
  go_upto_region 1 with (fail)
  have HM0 := hid (Mod.refl (fun _ => False) w)
  by_cases hl : l.length = m.length
  rotate_left
  · skip
    go_upto_region 1 with (fail)
    generalize ha0 : Act.mk _ _ = a0
    have oe0 : a0.eval (.tmp 0) = .slice ao l.length cap := by rw [← ha0]; rfl
    have oe1 : a0.eval (.tmp 1) = .slice bo m.length bcap := by rw [← ha0]; rfl
    have hsz0 : a0.tmps.size = 26 := by rw [← ha0]; rfl
    have HA0 := hid ha0
    clear ha0
    refine wp_region_S 26 hsz0 [6, 7, 8, 9, 10] [0, 1, 2, 3, 4] ?_
    refine QSeq.pure rfl (.slice ao l.length cap) (fun E => ex_move rfl (E.v oe0)) ?_
    refine QSeq.pure rfl (.int .i64 l.length) (fun E => ex_lenS rfl (E.d 0 0) Try.underlying88) ?_
    refine QSeq.pure rfl (.slice bo m.length bcap) (fun E => ex_move rfl (E.v oe1)) ?_
    refine QSeq.pure rfl (.int .i64 m.length) (fun E => ex_lenS rfl (E.d 2 0) Try.underlying88) ?_
    refine QSeq.pure rfl (.bool true) (fun E => ex_binE rfl (E.d 1 2) (E.d 3 0) (guard_ints _ _ _ _ _ _) (run_neq_i _ _ _ Try.underlying3) (congrArg Value.bool (ne_tt (by omega)))) ?_
    refine QSeq.nil (t' := [_, _, _, _, _]) rfl ?_
    have ha0 := HA0.out
    subst ha0
    clear HA0 hsz0 oe0 oe1
    simp only [putAll, Act.put, List.setIfInBounds_toArray, List.set_cons_zero, List.set_cons_succ]
    go_upto_region 2 with (fail)
    generalize ha0 : Act.mk _ _ = a0
    have hsz0 : a0.tmps.size = 26 := by rw [← ha0]; rfl
    have HA0 := hid ha0
    clear ha0
    refine wp_region_S 26 hsz0 [4] [0] ?_
    refine QSeq.pure rfl (.bool false) (fun E => ex_assign rfl rfl) ?_
    refine QSeq.nil (t' := [_]) rfl ?_
    have ha0 := HA0.out
    subst ha0
    clear HA0 hsz0
    simp only [putAll, Act.put, List.setIfInBounds_toArray, List.set_cons_zero, List.set_cons_succ]
    go_wp2
    go_ret
    exact ⟨ret_bool (eqb_ne fun e => hl (by rw [e])).symm, HM0.out⟩
  · skip
    go_upto_region 1 with (fail)
    generalize ha0 : Act.mk _ _ = a0
    have oe0 : a0.eval (.tmp 0) = .slice ao l.length cap := by rw [← ha0]; rfl
    have oe1 : a0.eval (.tmp 1) = .slice bo m.length bcap := by rw [← ha0]; rfl
    have hsz0 : a0.tmps.size = 26 := by rw [← ha0]; rfl
    have HA0 := hid ha0
    clear ha0
    refine wp_region_S 26 hsz0 [6, 7, 8, 9, 10] [0, 1, 2, 3, 4] ?_
    refine QSeq.pure rfl (.slice ao l.length cap) (fun E => ex_move rfl (E.v oe0)) ?_
    refine QSeq.pure rfl (.int .i64 l.length) (fun E => ex_lenS rfl (E.d 0 0) Try.underlying88) ?_
    refine QSeq.pure rfl (.slice bo m.length bcap) (fun E => ex_move rfl (E.v oe1)) ?_
    refine QSeq.pure rfl (.int .i64 m.length) (fun E => ex_lenS rfl (E.d 2 0) Try.underlying88) ?_
    refine QSeq.pure rfl (.bool false) (fun E => ex_binE rfl (E.d 1 2) (E.d 3 0) (guard_ints _ _ _ _ _ _) (run_neq_i _ _ _ Try.underlying3) (congrArg Value.bool (ne_ff (by omega)))) ?_
    refine QSeq.nil (t' := [_, _, _, _, _]) rfl ?_
    have ha0 := HA0.out
    subst ha0
    clear HA0 hsz0 oe0 oe1
    simp only [putAll, Act.put, List.setIfInBounds_toArray, List.set_cons_zero, List.set_cons_succ]
    go_upto_region 3 with (fail)
    generalize ha0 : Act.mk _ _ = a0
    have hsz0 : a0.tmps.size = 26 := by rw [← ha0]; rfl
    have HA0 := hid ha0
    clear ha0
    refine wp_region_S 26 hsz0 [5] [0] ?_
    refine QSeq.pure rfl (.int .i64 0) (fun E => ex_assign rfl rfl) ?_
    refine QSeq.nil (t' := [_]) rfl ?_
    have ha0 := HA0.out
    subst ha0
    clear HA0 hsz0
    simp only [putAll, Act.put, List.setIfInBounds_toArray, List.set_cons_zero, List.set_cons_succ]
    have HLE := Lib.hid hl
    clear hl
    go_wp2
    go_loopw [5] (fun ti wr => ∃ k : Nat, ti = .int .i64 (k : Int) ∧ k ≤ l.length ∧ l.take k = m.take k ∧ w.heap.size ≤ wr.heap.size ∧ RdS DnR R wr (.slice ao l.length cap) l ∧ RdS DnR R2 wr (.slice bo m.length bcap) m ∧ Mod (fun _ => False) w wr) (fun ti _ => l.length - (intOf ti).toNat)
    case atStart => exact ⟨0, rfl, Nat.zero_le _, rfl, Nat.le_refl _, HS.out, HT.out, HM0.out⟩
    case round =>
      obtain ⟨k, rfl, hk, htk, hz, hs, ht, hm⟩ := hrel
      obtain ⟨wl, rfl⟩ : ∃ x, x = wr := ⟨_, rfl⟩
      have HS2 := Lib.hid hs
      have HT2 := Lib.hid ht
      have HML := Lib.hid hm
      have HTK := Lib.hid htk
      clear hs ht hm htk HS HT HM0
      by_cases hlt : k < l.length
      · have hlt2 : k < m.length := by have := HLE.out; omega
        go_upto_region 4 with (fail)
        generalize ha0 : Act.mk _ _ = a0
        have oe0 : a0.eval (.tmp 0) = .slice ao l.length cap := by rw [← ha0]; rfl
        have oe5 : a0.eval (.tmp 5) = .int .i64 ((k : Nat) : Int) := by rw [← ha0]; rfl
        have hsz0 : a0.tmps.size = 26 := by rw [← ha0]; rfl
        have HA0 := hid ha0
        clear ha0
        refine wp_region_S 26 hsz0 [11, 12, 13, 14] [0, 1, 2, 3] ?_
        refine QSeq.pure rfl (.int .i64 ((k : Nat) : Int)) (fun E => ex_move rfl (E.v oe5)) ?_
        refine QSeq.pure rfl (.slice ao l.length cap) (fun E => ex_move rfl (E.v oe0)) ?_
        refine QSeq.pure rfl (.int .i64 l.length) (fun E => ex_lenS rfl (E.d 1 0) Try.underlying88) ?_
        refine QSeq.pure rfl (.bool true) (fun E => ex_binE rfl (E.d 0 2) (E.d 2 0) (guard_ints _ _ _ _ _ _) (run_lss_i _ _ _ Try.underlying3) (congrArg Value.bool (decide_eq_true (by omega)))) ?_
        refine QSeq.nil (t' := [_, _, _, _]) rfl ?_
        have ha0 := HA0.out
        subst ha0
        clear HA0 hsz0 oe0 oe5
        simp only [putAll, Act.put, List.setIfInBounds_toArray, List.set_cons_zero, List.set_cons_succ]
        have hat := HS2.out.at hlt
        obtain ⟨g1, o1, c1, eao, hrg, hrd, hcs⟩ := hat
        subst eao
        obtain ⟨x, hx⟩ : ∃ z, z = l[k] := ⟨_, rfl⟩
        rw [← hx] at hrd
        have HX1 := Lib.hid hx
        have hcl : c1.length = 4 := DnR.len hrd
        have HCL1 := Lib.hid hcl
        have HAT1 := hid (show CellsAt R wl g1 (o1 + k * 4) c1 from ⟨hrg, hcs⟩)
        have HRD1 := Lib.hid hrd
        clear hcl hcs hrd hrg hx
        have hat := HT2.out.at hlt2
        obtain ⟨g2, o2, c2, eao, hrg, hrd, hcs⟩ := hat
        subst eao
        obtain ⟨y, hy⟩ : ∃ z, z = m[k] := ⟨_, rfl⟩
        rw [← hy] at hrd
        have HX2 := Lib.hid hy
        have hcl : c2.length = 4 := DnR.len hrd
        have HCL2 := Lib.hid hcl
        have HAT2 := hid (show CellsAt R2 wl g2 (o2 + k * 4) c2 from ⟨hrg, hcs⟩)
        have HRD2 := Lib.hid hrd
        clear hcl hcs hrd hrg hy
        obtain ⟨b, hb⟩ : ∃ b, b = eqb x y := ⟨_, rfl⟩
        have HB := Lib.hid hb
        clear hb
        obtain ⟨rfl, hok1⟩ := HRD1.out
        obtain ⟨rfl, hok2⟩ := HRD2.out
        have HO1 := Lib.hid hok1
        have HO2 := Lib.hid hok2
        clear hok1 hok2
        clear HRD1
        clear HRD2
        go_upto_region 6 with (fail)
        generalize ha0 : Act.mk _ _ = a0
        have oe0 : a0.eval (.tmp 0) = .slice (some ⟨g1, o1, none⟩) l.length cap := by rw [← ha0]; rfl
        have oe1 : a0.eval (.tmp 1) = .slice (some ⟨g2, o2, none⟩) m.length bcap := by rw [← ha0]; rfl
        have oe5 : a0.eval (.tmp 5) = .int .i64 ((k : Nat) : Int) := by rw [← ha0]; rfl
        have hsz0 : a0.tmps.size = 26 := by rw [← ha0]; rfl
        have HA0 := hid ha0
        clear ha0
        refine wp_region_Q0 26 hsz0 [17, 18, 19, 20, 21, 22, 23, 24, 25] [qi (.slice (some ⟨g1, o1, none⟩) l.length cap), qi (.int .i64 ((k : Nat) : Int)), qi (.pointer (some ⟨g1, o1 + k * 4, none⟩)), qi (.agg x.cells.toArray), qi (.slice (some ⟨g2, o2, none⟩) m.length bcap), qi (.int .i64 ((k : Nat) : Int)), qi (.pointer (some ⟨g2, o2 + k * 4, none⟩)), qi (.agg y.cells.toArray), qi (.bool (!b))] ⟨qi_stable, qi_stable, qi_stable, qi_stable, qi_stable, qi_stable, qi_stable, qi_stable, qi_stable, trivial⟩ [] ⟨?_, ?_, ?_, ?_, ?_, ?_, ?_, ?_, ?_, trivial⟩ ?_
        · exact stq (fun E => ex_move rfl (E.v oe0))
        · exact stq (fun E => ex_move rfl (E.v oe5))
        · exact stq (fun E => ex_idxS (i := k) (s := 4) rfl Try.underlying88 (by kernel_rfl) (E.d 0) (E.d 1) (by first | exact hlt | exact hlt2))
        · exact stq (fun E => ex_loadA rfl Try.underlying34 rfl (off := o1 + k * 4) (cs := x.cells) (by rw [HCL1.out]; kernel_rfl) (E.d 2) (fun j u hu => ((HAT1.out.mod E.m.old (by intro k h1 h2; have hb := HBR.out k h1; omega))).2 j u hu))
        · exact stq (fun E => ex_move rfl (E.v oe1))
        · exact stq (fun E => ex_move rfl (E.v oe5))
        · exact stq (fun E => ex_idxS (i := k) (s := 4) rfl Try.underlying88 (by kernel_rfl) (E.d 4) (E.d 5) (by first | exact hlt | exact hlt2))
        · exact stq (fun E => ex_loadA rfl Try.underlying34 rfl (off := o2 + k * 4) (cs := y.cells) (by rw [HCL2.out]; kernel_rfl) (E.d 6) (fun j u hu => ((HAT2.out.mod E.m.old (by intro k h1 h2; have hb := HBT.out k h1; omega))).2 j u hu))
        · exact stq (fun E => ex_binE rfl (E.d 3) (E.d 7) (agg_guardE _ _ _ _ _ _ (by kernel_rfl) _) (EqW.runN eqW_deny (ki_dn _) (ki_dn _) (dn_iff HO1.out HO2.out) _) (congrArg (fun z => Value.bool (!z)) HB.out.symm))
        intro u6_0 hr
        have zu6_0 := hr.size
        have Cx1 := hid (hr.new (S := (fun _ => False)))
        clear hr
        refine QChain.nil fun vs hl hzz hrows hne => ?_
        obtain ⟨Z, hYZ, hZb, hV⟩ := hzz
        have f0 := fvi hV hl 0
        have f1 := fvi hV hl 1
        have f4 := fvi hV hl 4
        have f5 := fvi hV hl 5
        have f8 := fvi hV hl 8
        rw [show vs = [gw vs 0, gw vs 1, gw vs 2, gw vs 3, gw vs 4, gw vs 5, gw vs 6, gw vs 7, gw vs 8] from (gw_eta hl).trans rfl]
        have ha0 := HA0.out
        subst ha0
        clear HA0 hV hYZ hZb hsz0 hrows hne oe0 oe1 oe5
        simp only [putAll, Act.put, List.setIfInBounds_toArray, List.set_cons_zero, List.set_cons_succ, f0, f1, f4, f5, f8]
        clear hl f0 f1 f4 f5 f8
        cases b with
        | false =>
          go_upto_region 7 with (fail)
          generalize ha0 : Act.mk _ _ = a0
          have hsz0 : a0.tmps.size = 26 := by rw [← ha0]; rfl
          have HA0 := hid ha0
          clear ha0
          refine wp_region_S 26 hsz0 [4] [0] ?_
          refine QSeq.pure rfl (.bool false) (fun E => ex_assign rfl rfl) ?_
          refine QSeq.nil (t' := [_]) rfl ?_
          have ha0 := HA0.out
          subst ha0
          clear HA0 hsz0
          simp only [putAll, Act.put, List.setIfInBounds_toArray, List.set_cons_zero, List.set_cons_succ]
          go_wp2
          go_ret
          exact ⟨ret_bool (take_ne hlt hlt2 (fun e => by have h := HB.out; rw [HX1.out, HX2.out, e, eqb_rfl] at h; cases h)).symm, (HML.out.trans Cx1.out (fun _ _ h => h.elim))⟩
        | true =>
          go_upto_region 5 with (fail)
          generalize ha0 : Act.mk _ _ = a0
          have oe5 : a0.eval (.tmp 5) = .int .i64 ((k : Nat) : Int) := by rw [← ha0]; rfl
          have hsz0 : a0.tmps.size = 26 := by rw [← ha0]; rfl
          have HA0 := hid ha0
          clear ha0
          refine wp_region_S 26 hsz0 [15, 16, 5] [0, 1, 2] ?_
          refine QSeq.pure rfl (.int .i64 ((k : Nat) : Int)) (fun E => ex_move rfl (E.y 2 oe5)) ?_
          refine QSeq.pure rfl (.int .i64 (((k : Nat) : Int) + 1)) (fun E => ex_binE rfl (E.d 0 0) rfl (guard_ints _ _ _ _ _ _) (run_add_i _ _ Try.underlying3) (congrArg (Value.int .i64) (IntWalk.i64_in _ (by omega)))) ?_
          refine QSeq.pure rfl (.int .i64 (((k : Nat) : Int) + 1)) (fun E => ex_assign rfl (E.d 1 0)) ?_
          refine QSeq.nil (t' := [_, _, _]) rfl ?_
          have ha0 := HA0.out
          subst ha0
          clear HA0 hsz0 oe5
          simp only [putAll, Act.put, List.setIfInBounds_toArray, List.set_cons_zero, List.set_cons_succ]
          go_wp2
          go_roundw
          case rel => exact ⟨k + 1, by go_num, by omega, take_succ2 hlt hlt2 HTK.out (by have h := eqb_iff.1 HB.out.symm; rw [HX1.out, HX2.out] at h; exact h), by omega, (HS2.out.mod Cx1.out (fun _ _ h => h)), (HT2.out.mod Cx1.out (fun _ _ h => h)), (HML.out.trans Cx1.out (fun _ _ h => h.elim))⟩
          case measure => simp [intOf] <;> omega
      · skip
        go_upto_region 4 with (fail)
        generalize ha0 : Act.mk _ _ = a0
        have oe0 : a0.eval (.tmp 0) = .slice ao l.length cap := by rw [← ha0]; rfl
        have oe5 : a0.eval (.tmp 5) = .int .i64 ((k : Nat) : Int) := by rw [← ha0]; rfl
        have hsz0 : a0.tmps.size = 26 := by rw [← ha0]; rfl
        have HA0 := hid ha0
        clear ha0
        refine wp_region_S 26 hsz0 [11, 12, 13, 14] [0, 1, 2, 3] ?_
        refine QSeq.pure rfl (.int .i64 ((k : Nat) : Int)) (fun E => ex_move rfl (E.v oe5)) ?_
        refine QSeq.pure rfl (.slice ao l.length cap) (fun E => ex_move rfl (E.v oe0)) ?_
        refine QSeq.pure rfl (.int .i64 l.length) (fun E => ex_lenS rfl (E.d 1 0) Try.underlying88) ?_
        refine QSeq.pure rfl (.bool false) (fun E => ex_binE rfl (E.d 0 2) (E.d 2 0) (guard_ints _ _ _ _ _ _) (run_lss_i _ _ _ Try.underlying3) (congrArg Value.bool (decide_eq_false (by omega)))) ?_
        refine QSeq.nil (t' := [_, _, _, _]) rfl ?_
        have ha0 := HA0.out
        subst ha0
        clear HA0 hsz0 oe0 oe5
        simp only [putAll, Act.put, List.setIfInBounds_toArray, List.set_cons_zero, List.set_cons_succ]
        go_upto_region 8 with (fail)
        generalize ha0 : Act.mk _ _ = a0
        have hsz0 : a0.tmps.size = 26 := by rw [← ha0]; rfl
        have HA0 := hid ha0
        clear ha0
        refine wp_region_S 26 hsz0 [4] [0] ?_
        refine QSeq.pure rfl (.bool true) (fun E => ex_assign rfl rfl) ?_
        refine QSeq.nil (t' := [_]) rfl ?_
        have ha0 := HA0.out
        subst ha0
        clear HA0 hsz0
        simp only [putAll, Act.put, List.setIfInBounds_toArray, List.set_cons_zero, List.set_cons_succ]
        go_wp2
        go_ret
        exact ⟨ret_bool (take_all (by omega) (by have := HLE.out; omega) HTK.out).symm, HML.out⟩
set_option maxHeartbeats 4000000 in
theorem Eq_Ce : Eqs CeR 30 := by
  intro R R2 cs ds x y w hx hy hB hB2
  obtain ⟨vx_l, rfl, hokx, hx_l⟩ := hx
  obtain ⟨ax_l, kx_l, rfl⟩ := hx_l.shape
  have Hx_l := Lib.hid hx_l
  clear hx_l
  have HOKx := Lib.hid hokx
  clear hokx
  obtain ⟨vy_l, rfl, hoky, hy_l⟩ := hy
  obtain ⟨ay_l, ky_l, rfl⟩ := hy_l.shape
  have Hy_l := Lib.hid hy_l
  clear hy_l
  have HOKy := Lib.hid hoky
  clear hoky
  have HBR := Lib.hid hB
  have HBT := Lib.hid hB2
  clear hB hB2
  go_enter Try.func30, Try.ntmps30
  go_upto_region 1 with (fail)
  obtain ⟨w1, hw1⟩ : ∃ zz, zz = ((w.alloc (.cells (x.cells (.slice ax_l x.l.length kx_l) : List Value).toArray 52)).alloc (.cells (y.cells (.slice ay_l y.l.length ky_l) : List Value).toArray 52)) := ⟨_, rfl⟩
  change Code.wp _ _ _ _ ((w.alloc (.cells (x.cells (.slice ax_l x.l.length kx_l) : List Value).toArray 52)).alloc (.cells (y.cells (.slice ay_l y.l.length ky_l) : List Value).toArray 52))
  rw [← hw1]
  have HB2 := hid (show Cs w1 (w.heap.size) (x.cells (.slice ax_l x.l.length kx_l) : List Value).toArray 52 by rw [hw1]; exact (Cs.new _ _ _).alloc _)
  have HB3 := hid (show Cs w1 (w.heap.size + 1) (y.cells (.slice ay_l y.l.length ky_l) : List Value).toArray 52 by rw [hw1]; exact Cs_newN _ _ _ (by simp))
  have hm : Mod (fun _ => False) w w1 := by rw [hw1]; exact ((Mod.refl _ _).alloc _).alloc _
  have HM0 := hid (show Mod (fun _ => False) w w1 from hm.mono (fun _ _ h => h.elim))
  have hs1 : w1.heap.size = w.heap.size + 2 := by rw [hw1]; simp
  have Hx1 := hid (Hx_l.out.mod hm (fun _ _ h => h))
  clear Hx_l
  have Hx2 := hid (Hy_l.out.mod hm (fun _ _ h => h))
  clear Hy_l
  clear hw1 hm
  go_upto_region 1 with (fail)
  generalize ha0 : Act.mk _ _ = a0
  have oe2 : a0.eval (.tmp 2) = .pointer (some ⟨w.heap.size, 0, none⟩) := by rw [← ha0]; rfl
  have oe3 : a0.eval (.tmp 3) = .pointer (some ⟨w.heap.size + 1, 0, none⟩) := by rw [← ha0]; rfl
  have hsz0 : a0.tmps.size = 17 := by rw [← ha0]; rfl
  have HA0 := hid ha0
  clear ha0
  refine wp_region_S 17 hsz0 [5, 6, 7, 8, 9, 10, 11, 12, 13, 14, 15, 16, 4] [0, 1, 2, 3, 4, 5, 6, 7, 8, 9, 10, 11, 12] ?_
  refine QSeq.pure rfl (.pointer (some ⟨w.heap.size, 0, none⟩)) (fun E => ex_field rfl Try.underlying52 rfl (by kernel_rfl) (E.v oe2)) ?_
  refine QSeq.pure rfl (x.c.val) (fun E => ex_loadA rfl Try.underlying49 rfl (off := 0) (cs := x.c.cells) (by rw [Cm.len HOKx.out.2.1]; exact size_commit) (E.d 0 0) (Cs.midA (pre := []) (mid := x.c.cells) (post := [.slice ax_l x.l.length kx_l]) HB2.out rfl)) ?_
  refine QSeq.pure rfl (.pointer (some ⟨w.heap.size + 1, 0, none⟩)) (fun E => ex_field rfl Try.underlying52 rfl (by kernel_rfl) (E.v oe3)) ?_
  refine QSeq.pure rfl (y.c.val) (fun E => ex_loadA rfl Try.underlying49 rfl (off := 0) (cs := y.c.cells) (by rw [Cm.len HOKy.out.2.1]; exact size_commit) (E.d 2 0) (Cs.midA (pre := []) (mid := y.c.cells) (post := [.slice ay_l y.l.length ky_l]) HB3.out rfl)) ?_
  refine QSeq.pure rfl (.bool (eqb x.c y.c)) (fun E => ex_binE rfl (E.d 1 2) (E.d 3 0) (agg_guardE _ _ _ _ _ _ (by kernel_rfl) _) (EqW.run eqW_commit (ki_cm HOKx.out.2.1) (ki_cm HOKy.out.2.1) (cm_iff HOKx.out HOKy.out) _) rfl) ?_
  refine QSeq.pure rfl (.bool (eqb x.c y.c)) (fun E => ex_move rfl (E.d 4 0)) ?_
  refine QSeq.may (b := (eqb x.c y.c)) rfl (.pointer (some ⟨w.heap.size, 37, none⟩)) (fun E => ((wanted_of rfl rfl (E.sz 10 (by decide)) (E.d 5 0)).trans (beq_t _))) (fun E hb => ex_field rfl Try.underlying52 rfl (by kernel_rfl) (E.v oe2)) ?_
  intro v1_6 hw
  have hv1_6 := hid hw
  clear hw
  refine QSeq.may (b := (eqb x.c y.c)) rfl (.slice ax_l x.l.length kx_l) (fun E => ((wanted_of rfl rfl (E.sz 10 (by decide)) (E.d 5 1)).trans (beq_t _))) (fun E hb => ex_load1 rfl Try.underlying50 rfl ((E.q 6 0 hv1_6.out).1 hb) (Cs.post1 (pre := []) (mid := x.c.cells) (post := [.slice ax_l x.l.length kx_l]) (m := 37) (k := 0) HB2.out (Cm.len HOKx.out.2.1) rfl rfl)) ?_
  intro v1_7 hw
  have hv1_7 := hid hw
  clear hw
  refine QSeq.may (b := (eqb x.c y.c)) rfl (.pointer (some ⟨w.heap.size + 1, 37, none⟩)) (fun E => ((wanted_of rfl rfl (E.sz 10 (by decide)) (E.d 5 2)).trans (beq_t _))) (fun E hb => ex_field rfl Try.underlying52 rfl (by kernel_rfl) (E.v oe3)) ?_
  intro v1_8 hw
  have hv1_8 := hid hw
  clear hw
  refine QSeq.may (b := (eqb x.c y.c)) rfl (.slice ay_l y.l.length ky_l) (fun E => ((wanted_of rfl rfl (E.sz 10 (by decide)) (E.d 5 3)).trans (beq_t _))) (fun E hb => ex_load1 rfl Try.underlying50 rfl ((E.q 8 0 hv1_8.out).1 hb) (Cs.post1 (pre := []) (mid := y.c.cells) (post := [.slice ay_l y.l.length ky_l]) (m := 37) (k := 0) HB3.out (Cm.len HOKy.out.2.1) rfl rfl)) ?_
  intro v1_9 hw
  have hv1_9 := hid hw
  clear hw
  refine QSeq.mayCall (b := (eqb x.c y.c)) rfl (.bool (eqb x.l y.l)) (args := #[.slice ax_l x.l.length kx_l, .slice ay_l y.l.length ky_l]) (fun E => ((wanted_of rfl rfl (E.sz 10 (by decide)) (E.d 5 4)).trans (beq_t _))) rfl Try.func79 (fun E hb => args2 ((E.q 7 2 hv1_7.out).1 hb) ((E.q 9 0 hv1_9.out).1 hb)) (fun hb => EqL_St _ _ _ _ _ _ _ Hx1.out Hx2.out (by intro k h1; have hb := HBR.out k h1; (try have := hm.size); omega) (by intro k h1; have hb := HBT.out k h1; (try have := hm.size); omega)) ?_
  intro v1_10 u1_10 hw hm
  have hv1_10 := hid hw
  clear hw
  have zu1_10 := hm.size
  have Cx3 := hid (show Mod (fun _ => False) w1 u1_10 from hm)
  clear hm
  refine QSeq.pure rfl (.bool ((eqb x.c y.c) && (eqb x.l y.l))) (fun E => ex_pickE rfl (E.d 5 5) rfl rfl (and_val fun hb => (E.q 10 0 hv1_10.out).1 hb)) ?_
  refine QSeq.pure rfl (.bool ((eqb x.c y.c) && (eqb x.l y.l))) (fun E => ex_assign rfl (E.d 11 0)) ?_
  clear hv1_6 hv1_7 hv1_8 hv1_9 hv1_10
  refine QSeq.nil (t' := [_, _, _, _, _, _, _, _, _, _, _, _, _]) rfl ?_
  have ha0 := HA0.out
  subst ha0
  clear HA0 hsz0 oe2 oe3
  simp only [putAll, Act.put, List.setIfInBounds_toArray, List.set_cons_zero, List.set_cons_succ]
  go_wp2
  go_ret
  exact ⟨ret_bool (ce_eqb x y), (HM0.out.trans Cx3.out (fun _ _ h => h.elim))⟩
set_option maxHeartbeats 4000000 in
theorem EqL_Ce : EqsL CeR 83 := by
  intro R R2 v v2 l m w hs ht hB hB2
  obtain ⟨ao, cap, rfl⟩ := hs.shape
  obtain ⟨bo, bcap, rfl⟩ := ht.shape
  have hlm : l.length ≤ maxLen := hs.bd
  rw [maxLen_val] at hlm
  have HS := Lib.hid hs
  have HT := Lib.hid ht
  have HBR := Lib.hid hB
  have HBT := Lib.hid hB2
  clear hs ht hB hB2
  go_enter Try.func83, Try.ntmps83
  go_upto_region 1 with (fail)
  have HM0 := hid (Mod.refl (fun _ => False) w)
  by_cases hl : l.length = m.length
  rotate_left
  · skip
    go_upto_region 1 with (fail)
    generalize ha0 : Act.mk _ _ = a0
    have oe0 : a0.eval (.tmp 0) = .slice ao l.length cap := by rw [← ha0]; rfl
    have oe1 : a0.eval (.tmp 1) = .slice bo m.length bcap := by rw [← ha0]; rfl
    have hsz0 : a0.tmps.size = 27 := by rw [← ha0]; rfl
    have HA0 := hid ha0
    clear ha0
    refine wp_region_S 27 hsz0 [6, 7, 8, 9, 10] [0, 1, 2, 3, 4] ?_
    refine QSeq.pure rfl (.slice ao l.length cap) (fun E => ex_move rfl (E.v oe0)) ?_
    refine QSeq.pure rfl (.int .i64 l.length) (fun E => ex_lenS rfl (E.d 0 0) Try.underlying53) ?_
    refine QSeq.pure rfl (.slice bo m.length bcap) (fun E => ex_move rfl (E.v oe1)) ?_
    refine QSeq.pure rfl (.int .i64 m.length) (fun E => ex_lenS rfl (E.d 2 0) Try.underlying53) ?_
    refine QSeq.pure rfl (.bool true) (fun E => ex_binE rfl (E.d 1 2) (E.d 3 0) (guard_ints _ _ _ _ _ _) (run_neq_i _ _ _ Try.underlying3) (congrArg Value.bool (ne_tt (by omega)))) ?_
    refine QSeq.nil (t' := [_, _, _, _, _]) rfl ?_
    have ha0 := HA0.out
    subst ha0
    clear HA0 hsz0 oe0 oe1
    simp only [putAll, Act.put, List.setIfInBounds_toArray, List.set_cons_zero, List.set_cons_succ]
    go_upto_region 2 with (fail)
    generalize ha0 : Act.mk _ _ = a0
    have hsz0 : a0.tmps.size = 27 := by rw [← ha0]; rfl
    have HA0 := hid ha0
    clear ha0
    refine wp_region_S 27 hsz0 [4] [0] ?_
    refine QSeq.pure rfl (.bool false) (fun E => ex_assign rfl rfl) ?_
    refine QSeq.nil (t' := [_]) rfl ?_
    have ha0 := HA0.out
    subst ha0
    clear HA0 hsz0
    simp only [putAll, Act.put, List.setIfInBounds_toArray, List.set_cons_zero, List.set_cons_succ]
    go_wp2
    go_ret
    exact ⟨ret_bool (eqb_ne fun e => hl (by rw [e])).symm, HM0.out⟩
  · skip
    go_upto_region 1 with (fail)
    generalize ha0 : Act.mk _ _ = a0
    have oe0 : a0.eval (.tmp 0) = .slice ao l.length cap := by rw [← ha0]; rfl
    have oe1 : a0.eval (.tmp 1) = .slice bo m.length bcap := by rw [← ha0]; rfl
    have hsz0 : a0.tmps.size = 27 := by rw [← ha0]; rfl
    have HA0 := hid ha0
    clear ha0
    refine wp_region_S 27 hsz0 [6, 7, 8, 9, 10] [0, 1, 2, 3, 4] ?_
    refine QSeq.pure rfl (.slice ao l.length cap) (fun E => ex_move rfl (E.v oe0)) ?_
    refine QSeq.pure rfl (.int .i64 l.length) (fun E => ex_lenS rfl (E.d 0 0) Try.underlying53) ?_
    refine QSeq.pure rfl (.slice bo m.length bcap) (fun E => ex_move rfl (E.v oe1)) ?_
    refine QSeq.pure rfl (.int .i64 m.length) (fun E => ex_lenS rfl (E.d 2 0) Try.underlying53) ?_
    refine QSeq.pure rfl (.bool false) (fun E => ex_binE rfl (E.d 1 2) (E.d 3 0) (guard_ints _ _ _ _ _ _) (run_neq_i _ _ _ Try.underlying3) (congrArg Value.bool (ne_ff (by omega)))) ?_
    refine QSeq.nil (t' := [_, _, _, _, _]) rfl ?_
    have ha0 := HA0.out
    subst ha0
    clear HA0 hsz0 oe0 oe1
    simp only [putAll, Act.put, List.setIfInBounds_toArray, List.set_cons_zero, List.set_cons_succ]
    go_upto_region 3 with (fail)
    generalize ha0 : Act.mk _ _ = a0
    have oe0 : a0.eval (.tmp 0) = .slice ao l.length cap := by rw [← ha0]; rfl
    have hsz0 : a0.tmps.size = 27 := by rw [← ha0]; rfl
    have HA0 := hid ha0
    clear ha0
    refine wp_region_S 27 hsz0 [11, 12, 13] [0, 1, 2] ?_
    refine QSeq.pure rfl (.slice ao l.length cap) (fun E => ex_move rfl (E.v oe0)) ?_
    refine QSeq.pure rfl (.int .i64 l.length) (fun E => ex_lenS rfl (E.d 0 0) Try.underlying53) ?_
    refine QSeq.pure rfl (.int .i64 0) (fun E => ex_move rfl rfl) ?_
    refine QSeq.nil (t' := [_, _, _]) rfl ?_
    have ha0 := HA0.out
    subst ha0
    clear HA0 hsz0 oe0
    simp only [putAll, Act.put, List.setIfInBounds_toArray, List.set_cons_zero, List.set_cons_succ]
    have HLE := Lib.hid hl
    clear hl
    go_wp2
    go_loopw [13, 5] (fun ti t5 wr => ∃ k : Nat, ti = .int .i64 (k : Int) ∧ k ≤ l.length ∧ l.take k = m.take k ∧ w.heap.size ≤ wr.heap.size ∧ RdS CeR R wr (.slice ao l.length cap) l ∧ RdS CeR R2 wr (.slice bo m.length bcap) m ∧ Mod (fun _ => False) w wr) (fun ti t5 _ => l.length - (intOf ti).toNat)
    case atStart => exact ⟨0, rfl, Nat.zero_le _, rfl, Nat.le_refl _, HS.out, HT.out, HM0.out⟩
    case round =>
      obtain ⟨k, rfl, hk, htk, hz, hs, ht, hm⟩ := hrel
      obtain ⟨wl, rfl⟩ : ∃ x, x = wr := ⟨_, rfl⟩
      have HS2 := Lib.hid hs
      have HT2 := Lib.hid ht
      have HML := Lib.hid hm
      have HTK := Lib.hid htk
      clear hs ht hm htk HS HT HM0
      by_cases hlt : k < l.length
      · have hlt2 : k < m.length := by have := HLE.out; omega
        go_upto_region 4 with (fail)
        generalize ha0 : Act.mk _ _ = a0
        have oe12 : a0.eval (.tmp 12) = .int .i64 (l.length : Int) := by rw [← ha0]; rfl
        have oe13 : a0.eval (.tmp 13) = .int .i64 ((k : Nat) : Int) := by rw [← ha0]; rfl
        have hsz0 : a0.tmps.size = 27 := by rw [← ha0]; rfl
        have HA0 := hid ha0
        clear ha0
        refine wp_region_S 27 hsz0 [14] [0] ?_
        refine QSeq.pure rfl (.bool true) (fun E => ex_binE rfl (E.v oe13) (E.v oe12) (guard_ints _ _ _ _ _ _) (run_lss_i _ _ _ Try.underlying3) (congrArg Value.bool (decide_eq_true (by omega)))) ?_
        refine QSeq.nil (t' := [_]) rfl ?_
        have ha0 := HA0.out
        subst ha0
        clear HA0 hsz0 oe12 oe13
        simp only [putAll, Act.put, List.setIfInBounds_toArray, List.set_cons_zero, List.set_cons_succ]
        go_upto_region 5 with (fail)
        generalize ha0 : Act.mk _ _ = a0
        have oe13 : a0.eval (.tmp 13) = .int .i64 ((k : Nat) : Int) := by rw [← ha0]; rfl
        have hsz0 : a0.tmps.size = 27 := by rw [← ha0]; rfl
        have HA0 := hid ha0
        clear ha0
        refine wp_region_S 27 hsz0 [15, 5] [0, 1] ?_
        refine QSeq.pure rfl (.int .i64 ((k : Nat) : Int)) (fun E => ex_move rfl (E.v oe13)) ?_
        refine QSeq.pure rfl (.int .i64 ((k : Nat) : Int)) (fun E => ex_assign rfl (E.d 0 0)) ?_
        refine QSeq.nil (t' := [_, _]) rfl ?_
        have ha0 := HA0.out
        subst ha0
        clear HA0 hsz0 oe13
        simp only [putAll, Act.put, List.setIfInBounds_toArray, List.set_cons_zero, List.set_cons_succ]
        have hat := HS2.out.at hlt
        obtain ⟨g1, o1, c1, eao, hrg, hrd, hcs⟩ := hat
        subst eao
        obtain ⟨x, hx⟩ : ∃ z, z = l[k] := ⟨_, rfl⟩
        rw [← hx] at hrd
        have HX1 := Lib.hid hx
        have hcl : c1.length = 38 := CeR.len hrd
        have HCL1 := Lib.hid hcl
        have HAT1 := hid (show CellsAt R wl g1 (o1 + k * 38) c1 from ⟨hrg, hcs⟩)
        have HRD1 := Lib.hid hrd
        clear hcl hcs hrd hrg hx
        have hat := HT2.out.at hlt2
        obtain ⟨g2, o2, c2, eao, hrg, hrd, hcs⟩ := hat
        subst eao
        obtain ⟨y, hy⟩ : ∃ z, z = m[k] := ⟨_, rfl⟩
        rw [← hy] at hrd
        have HX2 := Lib.hid hy
        have hcl : c2.length = 38 := CeR.len hrd
        have HCL2 := Lib.hid hcl
        have HAT2 := hid (show CellsAt R2 wl g2 (o2 + k * 38) c2 from ⟨hrg, hcs⟩)
        have HRD2 := Lib.hid hrd
        clear hcl hcs hrd hrg hy
        obtain ⟨b, hb⟩ : ∃ b, b = eqb x y := ⟨_, rfl⟩
        have HB := Lib.hid hb
        clear hb
        go_upto_region 6 with (fail)
        generalize ha0 : Act.mk _ _ = a0
        have oe0 : a0.eval (.tmp 0) = .slice (some ⟨g1, o1, none⟩) l.length cap := by rw [← ha0]; rfl
        have oe1 : a0.eval (.tmp 1) = .slice (some ⟨g2, o2, none⟩) m.length bcap := by rw [← ha0]; rfl
        have oe5 : a0.eval (.tmp 5) = .int .i64 ((k : Nat) : Int) := by rw [← ha0]; rfl
        have hsz0 : a0.tmps.size = 27 := by rw [← ha0]; rfl
        have HA0 := hid ha0
        clear ha0
        refine wp_region_Q0 27 hsz0 [16, 17, 18, 19, 20, 21, 22, 23, 24, 25] [qi (.slice (some ⟨g1, o1, none⟩) l.length cap), qi (.int .i64 ((k : Nat) : Int)), qi (.pointer (some ⟨g1, o1 + k * 38, none⟩)), qi (.agg c1.toArray), qi (.slice (some ⟨g2, o2, none⟩) m.length bcap), qi (.int .i64 ((k : Nat) : Int)), qi (.pointer (some ⟨g2, o2 + k * 38, none⟩)), qi (.agg c2.toArray), qi (.bool b), qi (.bool (!b))] ⟨qi_stable, qi_stable, qi_stable, qi_stable, qi_stable, qi_stable, qi_stable, qi_stable, qi_stable, qi_stable, trivial⟩ [8] ⟨?_, ?_, ?_, ?_, ?_, ?_, ?_, ?_, ?_, ?_, trivial⟩ ?_
        · exact stq (fun E => ex_move rfl (E.v oe0))
        · exact stq (fun E => ex_move rfl (E.v oe5))
        · exact stq (fun E => ex_idxS (i := k) (s := 38) rfl Try.underlying53 (by kernel_rfl) (E.d 0) (E.d 1) (by first | exact hlt | exact hlt2))
        · exact stq (fun E => ex_loadA rfl Try.underlying52 rfl (off := o1 + k * 38) (cs := c1) (by rw [HCL1.out]; kernel_rfl) (E.d 2) (fun j u hu => ((HAT1.out.mod E.m.old (by intro k h1 h2; have hb := HBR.out k h1; omega))).2 j u hu))
        · exact stq (fun E => ex_move rfl (E.v oe1))
        · exact stq (fun E => ex_move rfl (E.v oe5))
        · exact stq (fun E => ex_idxS (i := k) (s := 38) rfl Try.underlying53 (by kernel_rfl) (E.d 4) (E.d 5) (by first | exact hlt | exact hlt2))
        · exact stq (fun E => ex_loadA rfl Try.underlying52 rfl (off := o2 + k * 38) (cs := c2) (by rw [HCL2.out]; kernel_rfl) (E.d 6) (fun j u hu => ((HAT2.out.mod E.m.old (by intro k h1 h2; have hb := HBT.out k h1; omega))).2 j u hu))
        · exact stepq_chain rfl
        · exact stq (fun E => ex_not rfl (E.d 8))
        intro u6_0 hr
        have zu6_0 := hr.size
        have Cx1 := hid (hr.new (S := (fun _ => False)))
        clear hr
        refine QChain.go fun Z act E => ?_
        refine qc_callF (args := #[.agg c1.toArray, .agg c2.toArray]) rfl (wanted_none rfl) rfl Try.func30 (args2 (E.d 3) (E.d 7)) (HB.out.symm ▸ Eq_Ce _ _ _ _ _ _ _ (HRD1.out.mod Cx1.out (fun _ _ h => h)) (HRD2.out.mod Cx1.out (fun _ _ h => h)) (by intro k h1; have hb := HBR.out k h1; omega) (by intro k h1; have hb := HBT.out k h1; omega)) ?_
        rintro e u6_1a ⟨rfl, hm⟩
        have zu6_1a := hm.size
        refine ⟨_, rfl, hm.mono (fun _ _ h => h.elim), (fun _ => rfl), ?_⟩
        intro u6_1 hr
        have zu6_1 := hr.size
        have Cx2 := hid (Cx1.out.go hm hr)
        clear Cx1 hm hr Z act E
        refine QChain.nil fun vs hl hzz hrows hne => ?_
        obtain ⟨Z, hYZ, hZb, hV⟩ := hzz
        have f0 := fvi hV hl 0
        have f1 := fvi hV hl 1
        have f4 := fvi hV hl 4
        have f5 := fvi hV hl 5
        have f8 := fvi hV hl 8
        have f9 := fvi hV hl 9
        rw [show vs = [gw vs 0, gw vs 1, gw vs 2, gw vs 3, gw vs 4, gw vs 5, gw vs 6, gw vs 7, gw vs 8, gw vs 9] from (gw_eta hl).trans rfl]
        have ha0 := HA0.out
        subst ha0
        clear HA0 hV hYZ hZb hsz0 hrows hne oe0 oe1 oe5
        simp only [putAll, Act.put, List.setIfInBounds_toArray, List.set_cons_zero, List.set_cons_succ, f0, f1, f4, f5, f8, f9]
        clear hl f0 f1 f4 f5 f8 f9
        cases b with
        | false =>
          go_upto_region 7 with (fail)
          generalize ha0 : Act.mk _ _ = a0
          have hsz0 : a0.tmps.size = 27 := by rw [← ha0]; rfl
          have HA0 := hid ha0
          clear ha0
          refine wp_region_S 27 hsz0 [4] [0] ?_
          refine QSeq.pure rfl (.bool false) (fun E => ex_assign rfl rfl) ?_
          refine QSeq.nil (t' := [_]) rfl ?_
          have ha0 := HA0.out
          subst ha0
          clear HA0 hsz0
          simp only [putAll, Act.put, List.setIfInBounds_toArray, List.set_cons_zero, List.set_cons_succ]
          go_wp2
          go_ret
          exact ⟨ret_bool (take_ne hlt hlt2 (fun e => by have h := HB.out; rw [HX1.out, HX2.out, e, eqb_rfl] at h; cases h)).symm, (HML.out.trans Cx2.out (fun _ _ h => h.elim))⟩
        | true =>
          go_upto_region 8 with (fail)
          generalize ha0 : Act.mk _ _ = a0
          have oe13 : a0.eval (.tmp 13) = .int .i64 ((k : Nat) : Int) := by rw [← ha0]; rfl
          have hsz0 : a0.tmps.size = 27 := by rw [← ha0]; rfl
          have HA0 := hid ha0
          clear ha0
          refine wp_region_S 27 hsz0 [26, 13] [0, 1] ?_
          refine QSeq.pure rfl (.int .i64 (((k : Nat) : Int) + 1)) (fun E => ex_binE rfl (E.y 1 oe13) rfl (guard_ints _ _ _ _ _ _) (run_add_i _ _ Try.underlying3) (congrArg (Value.int .i64) (IntWalk.i64_in _ (by omega)))) ?_
          refine QSeq.pure rfl (.int .i64 (((k : Nat) : Int) + 1)) (fun E => ex_move rfl (E.d 0 0)) ?_
          refine QSeq.nil (t' := [_, _]) rfl ?_
          have ha0 := HA0.out
          subst ha0
          clear HA0 hsz0 oe13
          simp only [putAll, Act.put, List.setIfInBounds_toArray, List.set_cons_zero, List.set_cons_succ]
          go_wp2
          go_roundw
          case rel => exact ⟨k + 1, by go_num, by omega, take_succ2 hlt hlt2 HTK.out (by have h := eqb_iff.1 HB.out.symm; rw [HX1.out, HX2.out] at h; exact h), by omega, (HS2.out.mod Cx2.out (fun _ _ h => h)), (HT2.out.mod Cx2.out (fun _ _ h => h)), (HML.out.trans Cx2.out (fun _ _ h => h.elim))⟩
          case measure => simp [intOf] <;> omega
      · skip
        go_upto_region 4 with (fail)
        generalize ha0 : Act.mk _ _ = a0
        have oe12 : a0.eval (.tmp 12) = .int .i64 (l.length : Int) := by rw [← ha0]; rfl
        have oe13 : a0.eval (.tmp 13) = .int .i64 ((k : Nat) : Int) := by rw [← ha0]; rfl
        have hsz0 : a0.tmps.size = 27 := by rw [← ha0]; rfl
        have HA0 := hid ha0
        clear ha0
        refine wp_region_S 27 hsz0 [14] [0] ?_
        refine QSeq.pure rfl (.bool false) (fun E => ex_binE rfl (E.v oe13) (E.v oe12) (guard_ints _ _ _ _ _ _) (run_lss_i _ _ _ Try.underlying3) (congrArg Value.bool (decide_eq_false (by omega)))) ?_
        refine QSeq.nil (t' := [_]) rfl ?_
        have ha0 := HA0.out
        subst ha0
        clear HA0 hsz0 oe12 oe13
        simp only [putAll, Act.put, List.setIfInBounds_toArray, List.set_cons_zero, List.set_cons_succ]
        go_upto_region 9 with (fail)
        generalize ha0 : Act.mk _ _ = a0
        have hsz0 : a0.tmps.size = 27 := by rw [← ha0]; rfl
        have HA0 := hid ha0
        clear ha0
        refine wp_region_S 27 hsz0 [4] [0] ?_
        refine QSeq.pure rfl (.bool true) (fun E => ex_assign rfl rfl) ?_
        refine QSeq.nil (t' := [_]) rfl ?_
        have ha0 := HA0.out
        subst ha0
        clear HA0 hsz0
        simp only [putAll, Act.put, List.setIfInBounds_toArray, List.set_cons_zero, List.set_cons_succ]
        go_wp2
        go_ret
        exact ⟨ret_bool (take_all (by omega) (by have := HLE.out; omega) HTK.out).symm, HML.out⟩
set_option maxHeartbeats 4000000 in
theorem Eq_Pm : Eqs PmR 33 := by
  intro R R2 cs ds x y w hx hy hB hB2
  obtain ⟨vx_l, rfl, hokx, hx_l⟩ := hx
  obtain ⟨ax_l, kx_l, rfl⟩ := hx_l.shape
  have Hx_l := Lib.hid hx_l
  clear hx_l
  have HOKx := Lib.hid hokx
  clear hokx
  obtain ⟨vy_l, rfl, hoky, hy_l⟩ := hy
  obtain ⟨ay_l, ky_l, rfl⟩ := hy_l.shape
  have Hy_l := Lib.hid hy_l
  clear hy_l
  have HOKy := Lib.hid hoky
  clear hoky
  have HBR := Lib.hid hB
  have HBT := Lib.hid hB2
  clear hB hB2
  go_enter Try.func33, Try.ntmps33
  go_upto_region 1 with (fail)
  obtain ⟨w1, hw1⟩ : ∃ zz, zz = ((w.alloc (.cells (x.cells (.slice ax_l x.l.length kx_l) : List Value).toArray 55)).alloc (.cells (y.cells (.slice ay_l y.l.length ky_l) : List Value).toArray 55)) := ⟨_, rfl⟩
  change Code.wp _ _ _ _ ((w.alloc (.cells (x.cells (.slice ax_l x.l.length kx_l) : List Value).toArray 55)).alloc (.cells (y.cells (.slice ay_l y.l.length ky_l) : List Value).toArray 55))
  rw [← hw1]
  have HB2 := hid (show Cs w1 (w.heap.size) (x.cells (.slice ax_l x.l.length kx_l) : List Value).toArray 55 by rw [hw1]; exact (Cs.new _ _ _).alloc _)
  have HB3 := hid (show Cs w1 (w.heap.size + 1) (y.cells (.slice ay_l y.l.length ky_l) : List Value).toArray 55 by rw [hw1]; exact Cs_newN _ _ _ (by simp))
  have hm : Mod (fun _ => False) w w1 := by rw [hw1]; exact ((Mod.refl _ _).alloc _).alloc _
  have HM0 := hid (show Mod (fun _ => False) w w1 from hm.mono (fun _ _ h => h.elim))
  have hs1 : w1.heap.size = w.heap.size + 2 := by rw [hw1]; simp
  have Hx1 := hid (Hx_l.out.mod hm (fun _ _ h => h))
  clear Hx_l
  have Hx2 := hid (Hy_l.out.mod hm (fun _ _ h => h))
  clear Hy_l
  clear hw1 hm
  go_upto_region 1 with (fail)
  generalize ha0 : Act.mk _ _ = a0
  have oe2 : a0.eval (.tmp 2) = .pointer (some ⟨w.heap.size, 0, none⟩) := by rw [← ha0]; rfl
  have oe3 : a0.eval (.tmp 3) = .pointer (some ⟨w.heap.size + 1, 0, none⟩) := by rw [← ha0]; rfl
  have hsz0 : a0.tmps.size = 38 := by rw [← ha0]; rfl
  have HA0 := hid ha0
  clear ha0
  refine wp_region_S 38 hsz0 [5, 6, 7, 8, 9, 10, 11, 12, 13, 14, 15, 16, 17, 18, 19, 20, 21, 22, 23, 24, 25, 26, 27, 28, 29, 30, 31, 32, 33, 34, 35, 36, 37, 4] [0, 1, 2, 3, 4, 5, 6, 7, 8, 9, 10, 11, 12, 13, 14, 15, 16, 17, 18, 19, 20, 21, 22, 23, 24, 25, 26, 27, 28, 29, 30, 31, 32, 33] ?_
  refine QSeq.pure rfl (.pointer (some ⟨w.heap.size, 0, none⟩)) (fun E => ex_field rfl Try.underlying55 rfl (by kernel_rfl) (E.v oe2)) ?_
  refine QSeq.pure rfl (.int .i64 x.rp) (fun E => ex_load1 rfl Try.underlying3 rfl (E.d 0 0) (Cs.lit1 HB2.out rfl)) ?_
  refine QSeq.pure rfl (.pointer (some ⟨w.heap.size + 1, 0, none⟩)) (fun E => ex_field rfl Try.underlying55 rfl (by kernel_rfl) (E.v oe3)) ?_
  refine QSeq.pure rfl (.int .i64 y.rp) (fun E => ex_load1 rfl Try.underlying3 rfl (E.d 2 0) (Cs.lit1 HB3.out rfl)) ?_
  refine QSeq.pure rfl (.bool (x.rp == y.rp)) (fun E => ex_bin rfl (E.d 1 2) (E.d 3 0) (guard_ints _ _ _ _ _ _) (run_eql_i _ _ _ Try.underlying3)) ?_
  refine QSeq.pure rfl (.bool (x.rp == y.rp)) (fun E => ex_move rfl (E.d 4 0)) ?_
  refine QSeq.may (b := (x.rp == y.rp)) rfl (.pointer (some ⟨w.heap.size, 1, none⟩)) (fun E => ((wanted_of rfl rfl (E.sz 10 (by decide)) (E.d 5 0)).trans (beq_t _))) (fun E hb => ex_field rfl Try.underlying55 rfl (by kernel_rfl) (E.v oe2)) ?_
  intro v1_6 hw
  have hv1_6 := hid hw
  clear hw
  refine QSeq.may (b := (x.rp == y.rp)) rfl (.int .i64 x.ep) (fun E => ((wanted_of rfl rfl (E.sz 10 (by decide)) (E.d 5 1)).trans (beq_t _))) (fun E hb => ex_load1 rfl Try.underlying3 rfl ((E.q 6 0 hv1_6.out).1 hb) (Cs.lit1 HB2.out rfl)) ?_
  intro v1_7 hw
  have hv1_7 := hid hw
  clear hw
  refine QSeq.may (b := (x.rp == y.rp)) rfl (.pointer (some ⟨w.heap.size + 1, 1, none⟩)) (fun E => ((wanted_of rfl rfl (E.sz 10 (by decide)) (E.d 5 2)).trans (beq_t _))) (fun E hb => ex_field rfl Try.underlying55 rfl (by kernel_rfl) (E.v oe3)) ?_
  intro v1_8 hw
  have hv1_8 := hid hw
  clear hw
  refine QSeq.may (b := (x.rp == y.rp)) rfl (.int .i64 y.ep) (fun E => ((wanted_of rfl rfl (E.sz 10 (by decide)) (E.d 5 3)).trans (beq_t _))) (fun E hb => ex_load1 rfl Try.underlying3 rfl ((E.q 8 0 hv1_8.out).1 hb) (Cs.lit1 HB3.out rfl)) ?_
  intro v1_9 hw
  have hv1_9 := hid hw
  clear hw
  refine QSeq.may (b := (x.rp == y.rp)) rfl (.bool (x.ep == y.ep)) (fun E => ((wanted_of rfl rfl (E.sz 10 (by decide)) (E.d 5 4)).trans (beq_t _))) (fun E hb => ex_bin rfl ((E.q 7 2 hv1_7.out).1 hb) ((E.q 9 0 hv1_9.out).1 hb) (guard_ints _ _ _ _ _ _) (run_eql_i _ _ _ Try.underlying3)) ?_
  intro v1_10 hw
  have hv1_10 := hid hw
  clear hw
  refine QSeq.pure rfl (.bool ((x.rp == y.rp) && (x.ep == y.ep))) (fun E => ex_pickE rfl (E.d 5 5) rfl rfl (and_val fun hb => (E.q 10 0 hv1_10.out).1 hb)) ?_
  refine QSeq.pure rfl (.bool ((x.rp == y.rp) && (x.ep == y.ep))) (fun E => ex_move rfl (E.d 11 0)) ?_
  refine QSeq.may (b := ((x.rp == y.rp) && (x.ep == y.ep))) rfl (.pointer (some ⟨w.heap.size, 2, none⟩)) (fun E => ((wanted_of rfl rfl (E.sz 17 (by decide)) (E.d 12 0)).trans (beq_t _))) (fun E hb => ex_field rfl Try.underlying55 rfl (by kernel_rfl) (E.v oe2)) ?_
  intro v1_13 hw
  have hv1_13 := hid hw
  clear hw
  refine QSeq.may (b := ((x.rp == y.rp) && (x.ep == y.ep))) rfl (.int .u64 (x.fl : Nat)) (fun E => ((wanted_of rfl rfl (E.sz 17 (by decide)) (E.d 12 1)).trans (beq_t _))) (fun E hb => ex_load1 rfl Try.underlying26 rfl ((E.q 13 0 hv1_13.out).1 hb) (Cs.lit1 HB2.out rfl)) ?_
  intro v1_14 hw
  have hv1_14 := hid hw
  clear hw
  refine QSeq.may (b := ((x.rp == y.rp) && (x.ep == y.ep))) rfl (.pointer (some ⟨w.heap.size + 1, 2, none⟩)) (fun E => ((wanted_of rfl rfl (E.sz 17 (by decide)) (E.d 12 2)).trans (beq_t _))) (fun E hb => ex_field rfl Try.underlying55 rfl (by kernel_rfl) (E.v oe3)) ?_
  intro v1_15 hw
  have hv1_15 := hid hw
  clear hw
  refine QSeq.may (b := ((x.rp == y.rp) && (x.ep == y.ep))) rfl (.int .u64 (y.fl : Nat)) (fun E => ((wanted_of rfl rfl (E.sz 17 (by decide)) (E.d 12 3)).trans (beq_t _))) (fun E hb => ex_load1 rfl Try.underlying26 rfl ((E.q 15 0 hv1_15.out).1 hb) (Cs.lit1 HB3.out rfl)) ?_
  intro v1_16 hw
  have hv1_16 := hid hw
  clear hw
  refine QSeq.may (b := ((x.rp == y.rp) && (x.ep == y.ep))) rfl (.bool (((x.fl : Nat) : Int) == ((y.fl : Nat) : Int))) (fun E => ((wanted_of rfl rfl (E.sz 17 (by decide)) (E.d 12 4)).trans (beq_t _))) (fun E hb => ex_bin rfl ((E.q 14 2 hv1_14.out).1 hb) ((E.q 16 0 hv1_16.out).1 hb) (guard_ints _ _ _ _ _ _) (run_eql_i _ _ _ Try.underlying26)) ?_
  intro v1_17 hw
  have hv1_17 := hid hw
  clear hw
  refine QSeq.pure rfl (.bool (((x.rp == y.rp) && (x.ep == y.ep)) && (((x.fl : Nat) : Int) == ((y.fl : Nat) : Int)))) (fun E => ex_pickE rfl (E.d 12 5) rfl rfl (and_val fun hb => (E.q 17 0 hv1_17.out).1 hb)) ?_
  refine QSeq.pure rfl (.bool (((x.rp == y.rp) && (x.ep == y.ep)) && (((x.fl : Nat) : Int) == ((y.fl : Nat) : Int)))) (fun E => ex_move rfl (E.d 18 0)) ?_
  refine QSeq.may (b := (((x.rp == y.rp) && (x.ep == y.ep)) && (((x.fl : Nat) : Int) == ((y.fl : Nat) : Int)))) rfl (.pointer (some ⟨w.heap.size, 4, none⟩)) (fun E => ((wanted_of rfl rfl (E.sz 24 (by decide)) (E.d 19 0)).trans (beq_t _))) (fun E hb => ex_field rfl Try.underlying55 rfl (by kernel_rfl) (E.v oe2)) ?_
  intro v1_20 hw
  have hv1_20 := hid hw
  clear hw
  refine QSeq.may (b := (((x.rp == y.rp) && (x.ep == y.ep)) && (((x.fl : Nat) : Int) == ((y.fl : Nat) : Int)))) rfl (.agg #[.int .i64 x.sb, .int .i64 x.mr]) (fun E => ((wanted_of rfl rfl (E.sz 24 (by decide)) (E.d 19 1)).trans (beq_t _))) (fun E hb => ex_loadA rfl Try.underlying28 rfl (off := 4) (cs := [.int .i64 x.sb, .int .i64 x.mr]) (by kernel_rfl) ((E.q 20 0 hv1_20.out).1 hb) (Cs.litA HB2.out rfl)) ?_
  intro v1_21 hw
  have hv1_21 := hid hw
  clear hw
  refine QSeq.may (b := (((x.rp == y.rp) && (x.ep == y.ep)) && (((x.fl : Nat) : Int) == ((y.fl : Nat) : Int)))) rfl (.pointer (some ⟨w.heap.size + 1, 4, none⟩)) (fun E => ((wanted_of rfl rfl (E.sz 24 (by decide)) (E.d 19 2)).trans (beq_t _))) (fun E hb => ex_field rfl Try.underlying55 rfl (by kernel_rfl) (E.v oe3)) ?_
  intro v1_22 hw
  have hv1_22 := hid hw
  clear hw
  refine QSeq.may (b := (((x.rp == y.rp) && (x.ep == y.ep)) && (((x.fl : Nat) : Int) == ((y.fl : Nat) : Int)))) rfl (.agg #[.int .i64 y.sb, .int .i64 y.mr]) (fun E => ((wanted_of rfl rfl (E.sz 24 (by decide)) (E.d 19 3)).trans (beq_t _))) (fun E hb => ex_loadA rfl Try.underlying28 rfl (off := 4) (cs := [.int .i64 y.sb, .int .i64 y.mr]) (by kernel_rfl) ((E.q 22 0 hv1_22.out).1 hb) (Cs.litA HB3.out rfl)) ?_
  intro v1_23 hw
  have hv1_23 := hid hw
  clear hw
  refine QSeq.may (b := (((x.rp == y.rp) && (x.ep == y.ep)) && (((x.fl : Nat) : Int) == ((y.fl : Nat) : Int)))) rfl (.bool (eqb (x.sb, x.mr) (y.sb, y.mr))) (fun E => ((wanted_of rfl rfl (E.sz 24 (by decide)) (E.d 19 4)).trans (beq_t _))) (fun E hb => ex_binE rfl ((E.q 21 2 hv1_21.out).1 hb) ((E.q 23 0 hv1_23.out).1 hb) (agg_guardE _ _ _ _ _ _ (by kernel_rfl) _) (EqW.run eqW_sig (ki_2 x.sb x.mr) (ki_2 y.sb y.mr) (two_iff x.sb x.mr y.sb y.mr) _) rfl) ?_
  intro v1_24 hw
  have hv1_24 := hid hw
  clear hw
  refine QSeq.pure rfl (.bool ((((x.rp == y.rp) && (x.ep == y.ep)) && (((x.fl : Nat) : Int) == ((y.fl : Nat) : Int))) && (eqb (x.sb, x.mr) (y.sb, y.mr)))) (fun E => ex_pickE rfl (E.d 19 5) rfl rfl (and_val fun hb => (E.q 24 0 hv1_24.out).1 hb)) ?_
  refine QSeq.pure rfl (.bool ((((x.rp == y.rp) && (x.ep == y.ep)) && (((x.fl : Nat) : Int) == ((y.fl : Nat) : Int))) && (eqb (x.sb, x.mr) (y.sb, y.mr)))) (fun E => ex_move rfl (E.d 25 0)) ?_
  refine QSeq.may (b := ((((x.rp == y.rp) && (x.ep == y.ep)) && (((x.fl : Nat) : Int) == ((y.fl : Nat) : Int))) && (eqb (x.sb, x.mr) (y.sb, y.mr)))) rfl (.pointer (some ⟨w.heap.size, 3, none⟩)) (fun E => ((wanted_of rfl rfl (E.sz 31 (by decide)) (E.d 26 0)).trans (beq_t _))) (fun E hb => ex_field rfl Try.underlying55 rfl (by kernel_rfl) (E.v oe2)) ?_
  intro v1_27 hw
  have hv1_27 := hid hw
  clear hw
  refine QSeq.may (b := ((((x.rp == y.rp) && (x.ep == y.ep)) && (((x.fl : Nat) : Int) == ((y.fl : Nat) : Int))) && (eqb (x.sb, x.mr) (y.sb, y.mr)))) rfl (.slice ax_l x.l.length kx_l) (fun E => ((wanted_of rfl rfl (E.sz 31 (by decide)) (E.d 26 1)).trans (beq_t _))) (fun E hb => ex_load1 rfl Try.underlying53 rfl ((E.q 27 0 hv1_27.out).1 hb) (Cs.lit1 HB2.out rfl)) ?_
  intro v1_28 hw
  have hv1_28 := hid hw
  clear hw
  refine QSeq.may (b := ((((x.rp == y.rp) && (x.ep == y.ep)) && (((x.fl : Nat) : Int) == ((y.fl : Nat) : Int))) && (eqb (x.sb, x.mr) (y.sb, y.mr)))) rfl (.pointer (some ⟨w.heap.size + 1, 3, none⟩)) (fun E => ((wanted_of rfl rfl (E.sz 31 (by decide)) (E.d 26 2)).trans (beq_t _))) (fun E hb => ex_field rfl Try.underlying55 rfl (by kernel_rfl) (E.v oe3)) ?_
  intro v1_29 hw
  have hv1_29 := hid hw
  clear hw
  refine QSeq.may (b := ((((x.rp == y.rp) && (x.ep == y.ep)) && (((x.fl : Nat) : Int) == ((y.fl : Nat) : Int))) && (eqb (x.sb, x.mr) (y.sb, y.mr)))) rfl (.slice ay_l y.l.length ky_l) (fun E => ((wanted_of rfl rfl (E.sz 31 (by decide)) (E.d 26 3)).trans (beq_t _))) (fun E hb => ex_load1 rfl Try.underlying53 rfl ((E.q 29 0 hv1_29.out).1 hb) (Cs.lit1 HB3.out rfl)) ?_
  intro v1_30 hw
  have hv1_30 := hid hw
  clear hw
  refine QSeq.mayCall (b := ((((x.rp == y.rp) && (x.ep == y.ep)) && (((x.fl : Nat) : Int) == ((y.fl : Nat) : Int))) && (eqb (x.sb, x.mr) (y.sb, y.mr)))) rfl (.bool (eqb x.l y.l)) (args := #[.slice ax_l x.l.length kx_l, .slice ay_l y.l.length ky_l]) (fun E => ((wanted_of rfl rfl (E.sz 31 (by decide)) (E.d 26 4)).trans (beq_t _))) rfl Try.func83 (fun E hb => args2 ((E.q 28 2 hv1_28.out).1 hb) ((E.q 30 0 hv1_30.out).1 hb)) (fun hb => EqL_Ce _ _ _ _ _ _ _ Hx1.out Hx2.out (by intro k h1; have hb := HBR.out k h1; (try have := hm.size); omega) (by intro k h1; have hb := HBT.out k h1; (try have := hm.size); omega)) ?_
  intro v1_31 u1_31 hw hm
  have hv1_31 := hid hw
  clear hw
  have zu1_31 := hm.size
  have Cx3 := hid (show Mod (fun _ => False) w1 u1_31 from hm)
  clear hm
  refine QSeq.pure rfl (.bool (((((x.rp == y.rp) && (x.ep == y.ep)) && (((x.fl : Nat) : Int) == ((y.fl : Nat) : Int))) && (eqb (x.sb, x.mr) (y.sb, y.mr))) && (eqb x.l y.l))) (fun E => ex_pickE rfl (E.d 26 5) rfl rfl (and_val fun hb => (E.q 31 0 hv1_31.out).1 hb)) ?_
  refine QSeq.pure rfl (.bool (((((x.rp == y.rp) && (x.ep == y.ep)) && (((x.fl : Nat) : Int) == ((y.fl : Nat) : Int))) && (eqb (x.sb, x.mr) (y.sb, y.mr))) && (eqb x.l y.l))) (fun E => ex_assign rfl (E.d 32 0)) ?_
  clear hv1_6 hv1_7 hv1_8 hv1_9 hv1_10 hv1_13 hv1_14 hv1_15 hv1_16 hv1_17 hv1_20 hv1_21 hv1_22 hv1_23 hv1_24 hv1_27 hv1_28 hv1_29 hv1_30 hv1_31
  refine QSeq.nil (t' := [_, _, _, _, _, _, _, _, _, _, _, _, _, _, _, _, _, _, _, _, _, _, _, _, _, _, _, _, _, _, _, _, _, _]) rfl ?_
  have ha0 := HA0.out
  subst ha0
  clear HA0 hsz0 oe2 oe3
  simp only [putAll, Act.put, List.setIfInBounds_toArray, List.set_cons_zero, List.set_cons_succ]
  go_wp2
  go_ret
  exact ⟨ret_bool (pm_eqb x y), (HM0.out.trans Cx3.out (fun _ _ h => h.elim))⟩
set_option maxHeartbeats 4000000 in
theorem Eq_Op : Eqs OpR 121 := by
  intro R R2 cs ds x y w hx hy hB hB2
  obtain ⟨vx_pl, rfl, hokx, hx_pl⟩ := hx
  obtain ⟨ax_pl, kx_pl, rfl⟩ := hx_pl.shape
  have Hx_pl := Lib.hid hx_pl
  clear hx_pl
  have HOKx := Lib.hid hokx
  clear hokx
  obtain ⟨vy_pl, rfl, hoky, hy_pl⟩ := hy
  obtain ⟨ay_pl, ky_pl, rfl⟩ := hy_pl.shape
  have Hy_pl := Lib.hid hy_pl
  clear hy_pl
  have HOKy := Lib.hid hoky
  clear hoky
  have HBR := Lib.hid hB
  have HBT := Lib.hid hB2
  clear hB hB2
  go_enter Try.func121, Try.ntmps121
  go_upto_region 1 with (fail)
  obtain ⟨w1, hw1⟩ : ∃ zz, zz = ((w.alloc (.cells (x.cells (.slice ax_pl x.pl.length kx_pl) : List Value).toArray 87)).alloc (.cells (y.cells (.slice ay_pl y.pl.length ky_pl) : List Value).toArray 87)) := ⟨_, rfl⟩
  change Code.wp _ _ _ _ ((w.alloc (.cells (x.cells (.slice ax_pl x.pl.length kx_pl) : List Value).toArray 87)).alloc (.cells (y.cells (.slice ay_pl y.pl.length ky_pl) : List Value).toArray 87))
  rw [← hw1]
  have HB2 := hid (show Cs w1 (w.heap.size) (x.cells (.slice ax_pl x.pl.length kx_pl) : List Value).toArray 87 by rw [hw1]; exact (Cs.new _ _ _).alloc _)
  have HB3 := hid (show Cs w1 (w.heap.size + 1) (y.cells (.slice ay_pl y.pl.length ky_pl) : List Value).toArray 87 by rw [hw1]; exact Cs_newN _ _ _ (by simp))
  have hm : Mod (fun _ => False) w w1 := by rw [hw1]; exact ((Mod.refl _ _).alloc _).alloc _
  have HM0 := hid (show Mod (fun _ => False) w w1 from hm.mono (fun _ _ h => h.elim))
  have hs1 : w1.heap.size = w.heap.size + 2 := by rw [hw1]; simp
  have Hx1 := hid (Hx_pl.out.mod hm (fun _ _ h => h))
  clear Hx_pl
  have Hx2 := hid (Hy_pl.out.mod hm (fun _ _ h => h))
  clear Hy_pl
  clear hw1 hm
  go_upto_region 1 with (fail)
  generalize ha0 : Act.mk _ _ = a0
  have oe2 : a0.eval (.tmp 2) = .pointer (some ⟨w.heap.size, 0, none⟩) := by rw [← ha0]; rfl
  have oe3 : a0.eval (.tmp 3) = .pointer (some ⟨w.heap.size + 1, 0, none⟩) := by rw [← ha0]; rfl
  have hsz0 : a0.tmps.size = 24 := by rw [← ha0]; rfl
  have HA0 := hid ha0
  clear ha0
  refine wp_region_S 24 hsz0 [5, 6, 7, 8, 9, 10, 11, 12, 13, 14, 15, 16, 17, 18, 19, 20, 21, 22, 23, 4] [0, 1, 2, 3, 4, 5, 6, 7, 8, 9, 10, 11, 12, 13, 14, 15, 16, 17, 18, 19] ?_
  refine QSeq.pure rfl (.pointer (some ⟨w.heap.size, 0, none⟩)) (fun E => ex_field rfl Try.underlying87 rfl (by kernel_rfl) (E.v oe2)) ?_
  refine QSeq.pure rfl (.int .i64 x.ix) (fun E => ex_load1 rfl Try.underlying3 rfl (E.d 0 0) (Cs.hd1 HB2.out rfl)) ?_
  refine QSeq.pure rfl (.pointer (some ⟨w.heap.size + 1, 0, none⟩)) (fun E => ex_field rfl Try.underlying87 rfl (by kernel_rfl) (E.v oe3)) ?_
  refine QSeq.pure rfl (.int .i64 y.ix) (fun E => ex_load1 rfl Try.underlying3 rfl (E.d 2 0) (Cs.hd1 HB3.out rfl)) ?_
  refine QSeq.pure rfl (.bool (x.ix == y.ix)) (fun E => ex_bin rfl (E.d 1 2) (E.d 3 0) (guard_ints _ _ _ _ _ _) (run_eql_i _ _ _ Try.underlying3)) ?_
  refine QSeq.pure rfl (.bool (x.ix == y.ix)) (fun E => ex_move rfl (E.d 4 0)) ?_
  refine QSeq.may (b := (x.ix == y.ix)) rfl (.pointer (some ⟨w.heap.size, 2, none⟩)) (fun E => ((wanted_of rfl rfl (E.sz 10 (by decide)) (E.d 5 0)).trans (beq_t _))) (fun E hb => ex_field rfl Try.underlying87 rfl (by kernel_rfl) (E.v oe2)) ?_
  intro v1_6 hw
  have hv1_6 := hid hw
  clear hw
  refine QSeq.may (b := (x.ix == y.ix)) rfl (hv x.nc) (fun E => ((wanted_of rfl rfl (E.sz 10 (by decide)) (E.d 5 1)).trans (beq_t _))) (fun E hb => ex_loadA rfl Try.underlying25 rfl (off := 2) (cs := x.nc.map bv) (by rw [List.length_map, HOKx.out.2.1]; exact size_hash) ((E.q 6 0 hv1_6.out).1 hb) (Cs.tlA HB2.out rfl)) ?_
  intro v1_7 hw
  have hv1_7 := hid hw
  clear hw
  refine QSeq.may (b := (x.ix == y.ix)) rfl (.pointer (some ⟨w.heap.size + 1, 2, none⟩)) (fun E => ((wanted_of rfl rfl (E.sz 10 (by decide)) (E.d 5 2)).trans (beq_t _))) (fun E hb => ex_field rfl Try.underlying87 rfl (by kernel_rfl) (E.v oe3)) ?_
  intro v1_8 hw
  have hv1_8 := hid hw
  clear hw
  refine QSeq.may (b := (x.ix == y.ix)) rfl (hv y.nc) (fun E => ((wanted_of rfl rfl (E.sz 10 (by decide)) (E.d 5 3)).trans (beq_t _))) (fun E hb => ex_loadA rfl Try.underlying25 rfl (off := 2) (cs := y.nc.map bv) (by rw [List.length_map, HOKy.out.2.1]; exact size_hash) ((E.q 8 0 hv1_8.out).1 hb) (Cs.tlA HB3.out rfl)) ?_
  intro v1_9 hw
  have hv1_9 := hid hw
  clear hw
  refine QSeq.may (b := (x.ix == y.ix)) rfl (.bool (eqb x.nc y.nc)) (fun E => ((wanted_of rfl rfl (E.sz 10 (by decide)) (E.d 5 4)).trans (beq_t _))) (fun E hb => ex_binE rfl ((E.q 7 2 hv1_7.out).1 hb) ((E.q 9 0 hv1_9.out).1 hb) (hv_guard2 _ _ _ _ _ _) (hv_eql HOKx.out.2.1 HOKy.out.2.1 _) (congrArg Value.bool (dec_eqb _ _))) ?_
  intro v1_10 hw
  have hv1_10 := hid hw
  clear hw
  refine QSeq.pure rfl (.bool ((x.ix == y.ix) && (eqb x.nc y.nc))) (fun E => ex_pickE rfl (E.d 5 5) rfl rfl (and_val fun hb => (E.q 10 0 hv1_10.out).1 hb)) ?_
  refine QSeq.pure rfl (.bool ((x.ix == y.ix) && (eqb x.nc y.nc))) (fun E => ex_move rfl (E.d 11 0)) ?_
  refine QSeq.may (b := ((x.ix == y.ix) && (eqb x.nc y.nc))) rfl (.pointer (some ⟨w.heap.size, 1, none⟩)) (fun E => ((wanted_of rfl rfl (E.sz 17 (by decide)) (E.d 12 0)).trans (beq_t _))) (fun E hb => ex_field rfl Try.underlying87 rfl (by kernel_rfl) (E.v oe2)) ?_
  intro v1_13 hw
  have hv1_13 := hid hw
  clear hw
  refine QSeq.may (b := ((x.ix == y.ix) && (eqb x.nc y.nc))) rfl (.slice ax_pl x.pl.length kx_pl) (fun E => ((wanted_of rfl rfl (E.sz 17 (by decide)) (E.d 12 1)).trans (beq_t _))) (fun E hb => ex_load1 rfl Try.underlying38 rfl ((E.q 13 0 hv1_13.out).1 hb) (Cs.hd1 HB2.out rfl)) ?_
  intro v1_14 hw
  have hv1_14 := hid hw
  clear hw
  refine QSeq.may (b := ((x.ix == y.ix) && (eqb x.nc y.nc))) rfl (.pointer (some ⟨w.heap.size + 1, 1, none⟩)) (fun E => ((wanted_of rfl rfl (E.sz 17 (by decide)) (E.d 12 2)).trans (beq_t _))) (fun E hb => ex_field rfl Try.underlying87 rfl (by kernel_rfl) (E.v oe3)) ?_
  intro v1_15 hw
  have hv1_15 := hid hw
  clear hw
  refine QSeq.may (b := ((x.ix == y.ix) && (eqb x.nc y.nc))) rfl (.slice ay_pl y.pl.length ky_pl) (fun E => ((wanted_of rfl rfl (E.sz 17 (by decide)) (E.d 12 3)).trans (beq_t _))) (fun E hb => ex_load1 rfl Try.underlying38 rfl ((E.q 15 0 hv1_15.out).1 hb) (Cs.hd1 HB3.out rfl)) ?_
  intro v1_16 hw
  have hv1_16 := hid hw
  clear hw
  refine QSeq.mayCall (b := ((x.ix == y.ix) && (eqb x.nc y.nc))) rfl (.bool (eqb x.pl y.pl)) (args := #[.slice ax_pl x.pl.length kx_pl, .slice ay_pl y.pl.length ky_pl]) (fun E => ((wanted_of rfl rfl (E.sz 17 (by decide)) (E.d 12 4)).trans (beq_t _))) rfl Try.func18 (fun E hb => args2 ((E.q 14 2 hv1_14.out).1 hb) ((E.q 16 0 hv1_16.out).1 hb)) (fun hb => Same_B Hx1.out Hx2.out) ?_
  intro v1_17 u1_17 hw hm
  have hv1_17 := hid hw
  clear hw
  have zu1_17 := hm.size
  have Cx3 := hid (show Mod (fun _ => False) w1 u1_17 from hm)
  clear hm
  refine QSeq.pure rfl (.bool (((x.ix == y.ix) && (eqb x.nc y.nc)) && (eqb x.pl y.pl))) (fun E => ex_pickE rfl (E.d 12 5) rfl rfl (and_val fun hb => (E.q 17 0 hv1_17.out).1 hb)) ?_
  refine QSeq.pure rfl (.bool (((x.ix == y.ix) && (eqb x.nc y.nc)) && (eqb x.pl y.pl))) (fun E => ex_assign rfl (E.d 18 0)) ?_
  clear hv1_6 hv1_7 hv1_8 hv1_9 hv1_10 hv1_13 hv1_14 hv1_15 hv1_16 hv1_17
  refine QSeq.nil (t' := [_, _, _, _, _, _, _, _, _, _, _, _, _, _, _, _, _, _, _, _]) rfl ?_
  have ha0 := HA0.out
  subst ha0
  clear HA0 hsz0 oe2 oe3
  simp only [putAll, Act.put, List.setIfInBounds_toArray, List.set_cons_zero, List.set_cons_succ]
  go_wp2
  go_ret
  exact ⟨ret_bool (op_eqb x y), (HM0.out.trans Cx3.out (fun _ _ h => h.elim))⟩
set_option maxHeartbeats 4000000 in
theorem EqL_Op : EqsL OpR 87 := by
  intro R R2 v v2 l m w hs ht hB hB2
  obtain ⟨ao, cap, rfl⟩ := hs.shape
  obtain ⟨bo, bcap, rfl⟩ := ht.shape
  have hlm : l.length ≤ maxLen := hs.bd
  rw [maxLen_val] at hlm
  have HS := Lib.hid hs
  have HT := Lib.hid ht
  have HBR := Lib.hid hB
  have HBT := Lib.hid hB2
  clear hs ht hB hB2
  go_enter Try.func87, Try.ntmps87
  go_upto_region 1 with (fail)
  have HM0 := hid (Mod.refl (fun _ => False) w)
  by_cases hl : l.length = m.length
  rotate_left
  · skip
    go_upto_region 1 with (fail)
    generalize ha0 : Act.mk _ _ = a0
    have oe0 : a0.eval (.tmp 0) = .slice ao l.length cap := by rw [← ha0]; rfl
    have oe1 : a0.eval (.tmp 1) = .slice bo m.length bcap := by rw [← ha0]; rfl
    have hsz0 : a0.tmps.size = 27 := by rw [← ha0]; rfl
    have HA0 := hid ha0
    clear ha0
    refine wp_region_S 27 hsz0 [6, 7, 8, 9, 10] [0, 1, 2, 3, 4] ?_
    refine QSeq.pure rfl (.slice ao l.length cap) (fun E => ex_move rfl (E.v oe0)) ?_
    refine QSeq.pure rfl (.int .i64 l.length) (fun E => ex_lenS rfl (E.d 0 0) Try.underlying57) ?_
    refine QSeq.pure rfl (.slice bo m.length bcap) (fun E => ex_move rfl (E.v oe1)) ?_
    refine QSeq.pure rfl (.int .i64 m.length) (fun E => ex_lenS rfl (E.d 2 0) Try.underlying57) ?_
    refine QSeq.pure rfl (.bool true) (fun E => ex_binE rfl (E.d 1 2) (E.d 3 0) (guard_ints _ _ _ _ _ _) (run_neq_i _ _ _ Try.underlying3) (congrArg Value.bool (ne_tt (by omega)))) ?_
    refine QSeq.nil (t' := [_, _, _, _, _]) rfl ?_
    have ha0 := HA0.out
    subst ha0
    clear HA0 hsz0 oe0 oe1
    simp only [putAll, Act.put, List.setIfInBounds_toArray, List.set_cons_zero, List.set_cons_succ]
    go_upto_region 2 with (fail)
    generalize ha0 : Act.mk _ _ = a0
    have hsz0 : a0.tmps.size = 27 := by rw [← ha0]; rfl
    have HA0 := hid ha0
    clear ha0
    refine wp_region_S 27 hsz0 [4] [0] ?_
    refine QSeq.pure rfl (.bool false) (fun E => ex_assign rfl rfl) ?_
    refine QSeq.nil (t' := [_]) rfl ?_
    have ha0 := HA0.out
    subst ha0
    clear HA0 hsz0
    simp only [putAll, Act.put, List.setIfInBounds_toArray, List.set_cons_zero, List.set_cons_succ]
    go_wp2
    go_ret
    exact ⟨ret_bool (eqb_ne fun e => hl (by rw [e])).symm, HM0.out⟩
  · skip
    go_upto_region 1 with (fail)
    generalize ha0 : Act.mk _ _ = a0
    have oe0 : a0.eval (.tmp 0) = .slice ao l.length cap := by rw [← ha0]; rfl
    have oe1 : a0.eval (.tmp 1) = .slice bo m.length bcap := by rw [← ha0]; rfl
    have hsz0 : a0.tmps.size = 27 := by rw [← ha0]; rfl
    have HA0 := hid ha0
    clear ha0
    refine wp_region_S 27 hsz0 [6, 7, 8, 9, 10] [0, 1, 2, 3, 4] ?_
    refine QSeq.pure rfl (.slice ao l.length cap) (fun E => ex_move rfl (E.v oe0)) ?_
    refine QSeq.pure rfl (.int .i64 l.length) (fun E => ex_lenS rfl (E.d 0 0) Try.underlying57) ?_
    refine QSeq.pure rfl (.slice bo m.length bcap) (fun E => ex_move rfl (E.v oe1)) ?_
    refine QSeq.pure rfl (.int .i64 m.length) (fun E => ex_lenS rfl (E.d 2 0) Try.underlying57) ?_
    refine QSeq.pure rfl (.bool false) (fun E => ex_binE rfl (E.d 1 2) (E.d 3 0) (guard_ints _ _ _ _ _ _) (run_neq_i _ _ _ Try.underlying3) (congrArg Value.bool (ne_ff (by omega)))) ?_
    refine QSeq.nil (t' := [_, _, _, _, _]) rfl ?_
    have ha0 := HA0.out
    subst ha0
    clear HA0 hsz0 oe0 oe1
    simp only [putAll, Act.put, List.setIfInBounds_toArray, List.set_cons_zero, List.set_cons_succ]
    go_upto_region 3 with (fail)
    generalize ha0 : Act.mk _ _ = a0
    have oe0 : a0.eval (.tmp 0) = .slice ao l.length cap := by rw [← ha0]; rfl
    have hsz0 : a0.tmps.size = 27 := by rw [← ha0]; rfl
    have HA0 := hid ha0
    clear ha0
    refine wp_region_S 27 hsz0 [11, 12, 13] [0, 1, 2] ?_
    refine QSeq.pure rfl (.slice ao l.length cap) (fun E => ex_move rfl (E.v oe0)) ?_
    refine QSeq.pure rfl (.int .i64 l.length) (fun E => ex_lenS rfl (E.d 0 0) Try.underlying57) ?_
    refine QSeq.pure rfl (.int .i64 0) (fun E => ex_move rfl rfl) ?_
    refine QSeq.nil (t' := [_, _, _]) rfl ?_
    have ha0 := HA0.out
    subst ha0
    clear HA0 hsz0 oe0
    simp only [putAll, Act.put, List.setIfInBounds_toArray, List.set_cons_zero, List.set_cons_succ]
    have HLE := Lib.hid hl
    clear hl
    go_wp2
    go_loopw [13, 5] (fun ti t5 wr => ∃ k : Nat, ti = .int .i64 (k : Int) ∧ k ≤ l.length ∧ l.take k = m.take k ∧ w.heap.size ≤ wr.heap.size ∧ RdS OpR R wr (.slice ao l.length cap) l ∧ RdS OpR R2 wr (.slice bo m.length bcap) m ∧ Mod (fun _ => False) w wr) (fun ti t5 _ => l.length - (intOf ti).toNat)
    case atStart => exact ⟨0, rfl, Nat.zero_le _, rfl, Nat.le_refl _, HS.out, HT.out, HM0.out⟩
    case round =>
      obtain ⟨k, rfl, hk, htk, hz, hs, ht, hm⟩ := hrel
      obtain ⟨wl, rfl⟩ : ∃ x, x = wr := ⟨_, rfl⟩
      have HS2 := Lib.hid hs
      have HT2 := Lib.hid ht
      have HML := Lib.hid hm
      have HTK := Lib.hid htk
      clear hs ht hm htk HS HT HM0
      by_cases hlt : k < l.length
      · have hlt2 : k < m.length := by have := HLE.out; omega
        go_upto_region 4 with (fail)
        generalize ha0 : Act.mk _ _ = a0
        have oe12 : a0.eval (.tmp 12) = .int .i64 (l.length : Int) := by rw [← ha0]; rfl
        have oe13 : a0.eval (.tmp 13) = .int .i64 ((k : Nat) : Int) := by rw [← ha0]; rfl
        have hsz0 : a0.tmps.size = 27 := by rw [← ha0]; rfl
        have HA0 := hid ha0
        clear ha0
        refine wp_region_S 27 hsz0 [14] [0] ?_
        refine QSeq.pure rfl (.bool true) (fun E => ex_binE rfl (E.v oe13) (E.v oe12) (guard_ints _ _ _ _ _ _) (run_lss_i _ _ _ Try.underlying3) (congrArg Value.bool (decide_eq_true (by omega)))) ?_
        refine QSeq.nil (t' := [_]) rfl ?_
        have ha0 := HA0.out
        subst ha0
        clear HA0 hsz0 oe12 oe13
        simp only [putAll, Act.put, List.setIfInBounds_toArray, List.set_cons_zero, List.set_cons_succ]
        go_upto_region 5 with (fail)
        generalize ha0 : Act.mk _ _ = a0
        have oe13 : a0.eval (.tmp 13) = .int .i64 ((k : Nat) : Int) := by rw [← ha0]; rfl
        have hsz0 : a0.tmps.size = 27 := by rw [← ha0]; rfl
        have HA0 := hid ha0
        clear ha0
        refine wp_region_S 27 hsz0 [15, 5] [0, 1] ?_
        refine QSeq.pure rfl (.int .i64 ((k : Nat) : Int)) (fun E => ex_move rfl (E.v oe13)) ?_
        refine QSeq.pure rfl (.int .i64 ((k : Nat) : Int)) (fun E => ex_assign rfl (E.d 0 0)) ?_
        refine QSeq.nil (t' := [_, _]) rfl ?_
        have ha0 := HA0.out
        subst ha0
        clear HA0 hsz0 oe13
        simp only [putAll, Act.put, List.setIfInBounds_toArray, List.set_cons_zero, List.set_cons_succ]
        have hat := HS2.out.at hlt
        obtain ⟨g1, o1, c1, eao, hrg, hrd, hcs⟩ := hat
        subst eao
        obtain ⟨x, hx⟩ : ∃ z, z = l[k] := ⟨_, rfl⟩
        rw [← hx] at hrd
        have HX1 := Lib.hid hx
        have hcl : c1.length = 34 := OpR.len hrd
        have HCL1 := Lib.hid hcl
        have HAT1 := hid (show CellsAt R wl g1 (o1 + k * 34) c1 from ⟨hrg, hcs⟩)
        have HRD1 := Lib.hid hrd
        clear hcl hcs hrd hrg hx
        have hat := HT2.out.at hlt2
        obtain ⟨g2, o2, c2, eao, hrg, hrd, hcs⟩ := hat
        subst eao
        obtain ⟨y, hy⟩ : ∃ z, z = m[k] := ⟨_, rfl⟩
        rw [← hy] at hrd
        have HX2 := Lib.hid hy
        have hcl : c2.length = 34 := OpR.len hrd
        have HCL2 := Lib.hid hcl
        have HAT2 := hid (show CellsAt R2 wl g2 (o2 + k * 34) c2 from ⟨hrg, hcs⟩)
        have HRD2 := Lib.hid hrd
        clear hcl hcs hrd hrg hy
        obtain ⟨b, hb⟩ : ∃ b, b = eqb x y := ⟨_, rfl⟩
        have HB := Lib.hid hb
        clear hb
        go_upto_region 6 with (fail)
        generalize ha0 : Act.mk _ _ = a0
        have oe0 : a0.eval (.tmp 0) = .slice (some ⟨g1, o1, none⟩) l.length cap := by rw [← ha0]; rfl
        have oe1 : a0.eval (.tmp 1) = .slice (some ⟨g2, o2, none⟩) m.length bcap := by rw [← ha0]; rfl
        have oe5 : a0.eval (.tmp 5) = .int .i64 ((k : Nat) : Int) := by rw [← ha0]; rfl
        have hsz0 : a0.tmps.size = 27 := by rw [← ha0]; rfl
        have HA0 := hid ha0
        clear ha0
        refine wp_region_Q0 27 hsz0 [16, 17, 18, 19, 20, 21, 22, 23, 24, 25] [qi (.slice (some ⟨g1, o1, none⟩) l.length cap), qi (.int .i64 ((k : Nat) : Int)), qi (.pointer (some ⟨g1, o1 + k * 34, none⟩)), qi (.agg c1.toArray), qi (.slice (some ⟨g2, o2, none⟩) m.length bcap), qi (.int .i64 ((k : Nat) : Int)), qi (.pointer (some ⟨g2, o2 + k * 34, none⟩)), qi (.agg c2.toArray), qi (.bool b), qi (.bool (!b))] ⟨qi_stable, qi_stable, qi_stable, qi_stable, qi_stable, qi_stable, qi_stable, qi_stable, qi_stable, qi_stable, trivial⟩ [8] ⟨?_, ?_, ?_, ?_, ?_, ?_, ?_, ?_, ?_, ?_, trivial⟩ ?_
        · exact stq (fun E => ex_move rfl (E.v oe0))
        · exact stq (fun E => ex_move rfl (E.v oe5))
        · exact stq (fun E => ex_idxS (i := k) (s := 34) rfl Try.underlying57 (by kernel_rfl) (E.d 0) (E.d 1) (by first | exact hlt | exact hlt2))
        · exact stq (fun E => ex_loadA rfl Try.underlying87 rfl (off := o1 + k * 34) (cs := c1) (by rw [HCL1.out]; kernel_rfl) (E.d 2) (fun j u hu => ((HAT1.out.mod E.m.old (by intro k h1 h2; have hb := HBR.out k h1; omega))).2 j u hu))
        · exact stq (fun E => ex_move rfl (E.v oe1))
        · exact stq (fun E => ex_move rfl (E.v oe5))
        · exact stq (fun E => ex_idxS (i := k) (s := 34) rfl Try.underlying57 (by kernel_rfl) (E.d 4) (E.d 5) (by first | exact hlt | exact hlt2))
        · exact stq (fun E => ex_loadA rfl Try.underlying87 rfl (off := o2 + k * 34) (cs := c2) (by rw [HCL2.out]; kernel_rfl) (E.d 6) (fun j u hu => ((HAT2.out.mod E.m.old (by intro k h1 h2; have hb := HBT.out k h1; omega))).2 j u hu))
        · exact stepq_chain rfl
        · exact stq (fun E => ex_not rfl (E.d 8))
        intro u6_0 hr
        have zu6_0 := hr.size
        have Cx1 := hid (hr.new (S := (fun _ => False)))
        clear hr
        refine QChain.go fun Z act E => ?_
        refine qc_callF (args := #[.agg c1.toArray, .agg c2.toArray]) rfl (wanted_none rfl) rfl Try.func121 (args2 (E.d 3) (E.d 7)) (HB.out.symm ▸ Eq_Op _ _ _ _ _ _ _ (HRD1.out.mod Cx1.out (fun _ _ h => h)) (HRD2.out.mod Cx1.out (fun _ _ h => h)) (by intro k h1; have hb := HBR.out k h1; omega) (by intro k h1; have hb := HBT.out k h1; omega)) ?_
        rintro e u6_1a ⟨rfl, hm⟩
        have zu6_1a := hm.size
        refine ⟨_, rfl, hm.mono (fun _ _ h => h.elim), (fun _ => rfl), ?_⟩
        intro u6_1 hr
        have zu6_1 := hr.size
        have Cx2 := hid (Cx1.out.go hm hr)
        clear Cx1 hm hr Z act E
        refine QChain.nil fun vs hl hzz hrows hne => ?_
        obtain ⟨Z, hYZ, hZb, hV⟩ := hzz
        have f0 := fvi hV hl 0
        have f1 := fvi hV hl 1
        have f4 := fvi hV hl 4
        have f5 := fvi hV hl 5
        have f8 := fvi hV hl 8
        have f9 := fvi hV hl 9
        rw [show vs = [gw vs 0, gw vs 1, gw vs 2, gw vs 3, gw vs 4, gw vs 5, gw vs 6, gw vs 7, gw vs 8, gw vs 9] from (gw_eta hl).trans rfl]
        have ha0 := HA0.out
        subst ha0
        clear HA0 hV hYZ hZb hsz0 hrows hne oe0 oe1 oe5
        simp only [putAll, Act.put, List.setIfInBounds_toArray, List.set_cons_zero, List.set_cons_succ, f0, f1, f4, f5, f8, f9]
        clear hl f0 f1 f4 f5 f8 f9
        cases b with
        | false =>
          go_upto_region 7 with (fail)
          generalize ha0 : Act.mk _ _ = a0
          have hsz0 : a0.tmps.size = 27 := by rw [← ha0]; rfl
          have HA0 := hid ha0
          clear ha0
          refine wp_region_S 27 hsz0 [4] [0] ?_
          refine QSeq.pure rfl (.bool false) (fun E => ex_assign rfl rfl) ?_
          refine QSeq.nil (t' := [_]) rfl ?_
          have ha0 := HA0.out
          subst ha0
          clear HA0 hsz0
          simp only [putAll, Act.put, List.setIfInBounds_toArray, List.set_cons_zero, List.set_cons_succ]
          go_wp2
          go_ret
          exact ⟨ret_bool (take_ne hlt hlt2 (fun e => by have h := HB.out; rw [HX1.out, HX2.out, e, eqb_rfl] at h; cases h)).symm, (HML.out.trans Cx2.out (fun _ _ h => h.elim))⟩
        | true =>
          go_upto_region 8 with (fail)
          generalize ha0 : Act.mk _ _ = a0
          have oe13 : a0.eval (.tmp 13) = .int .i64 ((k : Nat) : Int) := by rw [← ha0]; rfl
          have hsz0 : a0.tmps.size = 27 := by rw [← ha0]; rfl
          have HA0 := hid ha0
          clear ha0
          refine wp_region_S 27 hsz0 [26, 13] [0, 1] ?_
          refine QSeq.pure rfl (.int .i64 (((k : Nat) : Int) + 1)) (fun E => ex_binE rfl (E.y 1 oe13) rfl (guard_ints _ _ _ _ _ _) (run_add_i _ _ Try.underlying3) (congrArg (Value.int .i64) (IntWalk.i64_in _ (by omega)))) ?_
          refine QSeq.pure rfl (.int .i64 (((k : Nat) : Int) + 1)) (fun E => ex_move rfl (E.d 0 0)) ?_
          refine QSeq.nil (t' := [_, _]) rfl ?_
          have ha0 := HA0.out
          subst ha0
          clear HA0 hsz0 oe13
          simp only [putAll, Act.put, List.setIfInBounds_toArray, List.set_cons_zero, List.set_cons_succ]
          go_wp2
          go_roundw
          case rel => exact ⟨k + 1, by go_num, by omega, take_succ2 hlt hlt2 HTK.out (by have h := eqb_iff.1 HB.out.symm; rw [HX1.out, HX2.out] at h; exact h), by omega, (HS2.out.mod Cx2.out (fun _ _ h => h)), (HT2.out.mod Cx2.out (fun _ _ h => h)), (HML.out.trans Cx2.out (fun _ _ h => h.elim))⟩
          case measure => simp [intOf] <;> omega
      · skip
        go_upto_region 4 with (fail)
        generalize ha0 : Act.mk _ _ = a0
        have oe12 : a0.eval (.tmp 12) = .int .i64 (l.length : Int) := by rw [← ha0]; rfl
        have oe13 : a0.eval (.tmp 13) = .int .i64 ((k : Nat) : Int) := by rw [← ha0]; rfl
        have hsz0 : a0.tmps.size = 27 := by rw [← ha0]; rfl
        have HA0 := hid ha0
        clear ha0
        refine wp_region_S 27 hsz0 [14] [0] ?_
        refine QSeq.pure rfl (.bool false) (fun E => ex_binE rfl (E.v oe13) (E.v oe12) (guard_ints _ _ _ _ _ _) (run_lss_i _ _ _ Try.underlying3) (congrArg Value.bool (decide_eq_false (by omega)))) ?_
        refine QSeq.nil (t' := [_]) rfl ?_
        have ha0 := HA0.out
        subst ha0
        clear HA0 hsz0 oe12 oe13
        simp only [putAll, Act.put, List.setIfInBounds_toArray, List.set_cons_zero, List.set_cons_succ]
        go_upto_region 9 with (fail)
        generalize ha0 : Act.mk _ _ = a0
        have hsz0 : a0.tmps.size = 27 := by rw [← ha0]; rfl
        have HA0 := hid ha0
        clear ha0
        refine wp_region_S 27 hsz0 [4] [0] ?_
        refine QSeq.pure rfl (.bool true) (fun E => ex_assign rfl rfl) ?_
        refine QSeq.nil (t' := [_]) rfl ?_
        have ha0 := HA0.out
        subst ha0
        clear HA0 hsz0
        simp only [putAll, Act.put, List.setIfInBounds_toArray, List.set_cons_zero, List.set_cons_succ]
        go_wp2
        go_ret
        exact ⟨ret_bool (take_all (by omega) (by have := HLE.out; omega) HTK.out).symm, HML.out⟩
end Go.Proofs.Ytknpapcfhnhheaa
