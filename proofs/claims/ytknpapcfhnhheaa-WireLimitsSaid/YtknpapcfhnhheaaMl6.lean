/- WireLimits: for every two readings the law returns true. No condition. -/
import Derived.Test.YtknpapcfhnhheaaMl5
import Derived.Deep.CutBlock
import Derived.ProofKit
import Derived.OpenShut
import Derived.ChangeOld
set_option maxRecDepth 100000
set_option linter.unusedVariables false
/- WireLimits: the walk. -/
namespace Go.Proofs.Ytknpapcfhnhheaa
open Go Go.RowKit Go.Gv

theorem Eqs.same {α : Type} {A : Rep α} {F : FuncId} (h : Eqs A F) {R R2 : Nat → Prop} {cs ds : List Value} {x : α} {w : World} (h1 : A.rd R w cs x) (h2 : A.rd R2 w ds x) (h3 : ∀ k, R k → k < w.heap.size) (h4 : ∀ k, R2 k → k < w.heap.size) :
    Calls Try.prog F #[.agg cs.toArray, .agg ds.toArray] w fun e w' => e = .returned (.bool true) ∧ Mod (fun _ => False) w w' :=
  (h R R2 cs ds x x w h1 h2 h3 h4).mono fun e w' ⟨he, hm⟩ => ⟨by rw [he, eqb_rfl], hm⟩

theorem RdR_none (R : Nat → Prop) (w : World) : RdR R 0 w (.slice none 0 0) [] := ⟨⟨(fun b hb => by cases hb), Rd.nil _ _⟩, (fun h => by simp at h), Nat.le_refl _⟩
def opC (ix : Int) (v : Value) : List Value := [.int .i64 ix, v, .int .u8 0, .int .u8 0, .int .u8 0, .int .u8 0, .int .u8 0, .int .u8 0, .int .u8 0, .int .u8 0, .int .u8 0, .int .u8 0, .int .u8 0, .int .u8 0, .int .u8 0, .int .u8 0, .int .u8 0, .int .u8 0, .int .u8 0, .int .u8 0, .int .u8 0, .int .u8 0, .int .u8 0, .int .u8 0, .int .u8 0, .int .u8 0, .int .u8 0, .int .u8 0, .int .u8 0, .int .u8 0, .int .u8 0, .int .u8 0, .int .u8 0, .int .u8 0]
theorem okz : I64 1 ∧ 2 < U64 := ⟨by unfold I64; decide, by unfold U64; decide⟩
theorem qc_makeB {ops : Array Oper} {i : Nat} {o : Oper} {a : Act} {w : World} {KQ : Value → World → Prop} {Q : Exit → Act → World → Prop} {l c : Operand} (ho : ops[i]? = some o) (hw : Region.wanted o (yielded ops a.tmps) = true) (hop : o.op = Op.makeSlice 38 l c) {n : Nat}
    (hl : a.eval l = .int .i64 (n : Int)) (hc : a.eval c = .int .i64 (n : Int)) (hn : n ≤ 900000) (h : ∀ w', Cs w' w.heap.size ((List.replicate n (0 : Int)).map bv).toArray 5 → Mod (fun _ => False) w w' → KQ (.slice (some ⟨w.heap.size, 0, none⟩) n n) w') :
    wpOp Try.prog ops Q i (fun a' w' => ∃ v, a' = a.put o.dst v ∧ KQ v w') a w := by
  obtain ⟨i0, hi, hz0, hz1, hz2⟩ := info_parts info_u8
  have hr := run_make (P := Try.prog) w 38 5 i0 (.int .u8 0) Try.underlying38 hi hz0 .i64 .i64 n n (by omega) (by omega) (by rw [hz2]; omega) (by omega)
  have e : madeCells (Value.int .u8 0).cells (((n : Int)).toNat * i0.size) = ((List.replicate n (0 : Int)).map bv).toArray := by
    apply Array.toList_inj.1
    rw [hz1, Nat.mul_one, Int.toNat_natCast]
    show (madeCells #[Value.int .u8 0] n).toList = _
    rw [toList_madeCells_one]
    simp
  rw [e, Int.toNat_natCast] at hr
  refine qc_run ho hw ?_ (h _ (Cs.new _ _ _) ((Mod.refl _ _).alloc _))
  unfold execOp
  simp only [hop, hl, hc]
  simp only [Sem.run_bind, hr, Result.andThen_ok, Sem.run_pure]
theorem range_snoc {α : Type} (f : Nat → α) (k : Nat) : (List.range k).map f ++ [f k] = (List.range (k + 1)).map f := by rw [List.range_succ, List.map_append]; rfl
theorem baL_len (k : Nat) {n : Nat} (hn : n ≤ 102) : (baB (baL k n)).length ≤ 900000 := by
  have e1 := encI_len0 1 (by unfold I64; decide)
  have e0 := encI_len0 0 (by unfold I64; decide)
  have e2 := (encN_len10 (n := 2) (by unfold U64; decide)).2
  have el : ∀ {α : Type} (f : α → List Int), (listB f []).length ≤ 10 := fun f => by simp only [listB, List.length_append, List.map_nil, List.flatten_nil, List.length_nil]; exact e0
  have eo : ∀ (i : Nat) (p : List Int), i ≤ 1000 → p.length ≤ 1000 → (opB ⟨i, p, zH⟩).length ≤ 1100 := fun i p hi hp => by
    have h1 := encI_len0 (i : Int) (by unfold I64; omega)
    have h2 := (encN_len10 (n := p.length) (by unfold U64; omega)).2
    simp only [opB, List.length_append, zH, List.length_replicate]; omega
  have et : ∀ i : Nat, i ≤ 1000 → (tbB (tbI i)).length ≤ 100 := fun i hi => by
    have h1 := encI_len0 (i : Int) (by unfold I64; omega)
    have h2 := el dnB
    simp only [tbB, tbI, List.length_append]; omega
  have ed : ∀ i : Nat, i ≤ 1000 → (dnB (dnI i)).length ≤ 100 := fun i hi => by
    have h1 := encI_len0 (i : Int) (by unfold I64; omega)
    simp only [dnB, dnI, sigB, List.length_append]; omega
  have lo := el opB
  have lt := el tbB
  have lp := el pmB
  unfold baL
  split
  · have := listB_len opB (N := 1100) (M := 102) (l := (List.range n).map opI) (by simpa using hn) (by decide) (fun a ha => by obtain ⟨i, hi, rfl⟩ := List.mem_map.1 ha; have := List.mem_range.1 hi; exact eo i [] (by omega) (by simp))
    simp only [baB, List.length_append]; omega
  · split
    · have := listB_len tbB (N := 100) (M := 102) (l := (List.range n).map tbI) (by simpa using hn) (by decide) (fun a ha => by obtain ⟨i, hi, rfl⟩ := List.mem_map.1 ha; have := List.mem_range.1 hi; exact et i (by omega))
      simp only [baB, List.length_append]; omega
    · split
      · have h1 := listB_len dnB (N := 100) (M := 102) (l := (List.range n).map dnI) (by simpa using hn) (by decide) (fun a ha => by obtain ⟨i, hi, rfl⟩ := List.mem_map.1 ha; have := List.mem_range.1 hi; exact ed i (by omega))
        have := listB_len tbB (N := 11000) (M := 1) (l := [⟨0, (List.range n).map dnI⟩]) (by simp) (by decide) (fun a ha => by rw [List.mem_singleton] at ha; subst ha; simp only [tbB, List.length_append]; omega)
        simp only [baB, List.length_append]; omega
      · have := listB_len opB (N := 1100) (M := 1) (l := [⟨0, List.replicate (n + 156) 0, zH⟩]) (by simp) (by decide) (fun a ha => by rw [List.mem_singleton] at ha; subst ha; exact eo 0 _ (by omega) (by simp; omega))
        simp only [baB, List.length_append]; omega

theorem RdR_made {R : Nat → Prop} {w : World} {g n : Nat} (h : Cs w g ((List.replicate n (0 : Int)).map bv).toArray 5) (hg : R g) (hn : n ≤ 900000) : RdR R (List.replicate n (0 : Int)).length w (.slice (some ⟨g, 0, none⟩) n n) (List.replicate n 0) := by
  refine ⟨⟨fun b hb => by rw [List.eq_of_mem_replicate hb]; decide, ?_⟩, fun _ g' hg' => by cases hg'; exact hg, Nat.le_refl _⟩
  rw [List.length_replicate]
  refine Rd.mk (Nat.le_refl _) (by rw [maxLen_val]; omega) (by simp) fun j u hu => ?_
  rw [Nat.zero_add, h.cell, List.getElem?_toArray]
  exact hu
set_option maxHeartbeats 8000000 in
theorem LLimits_any (n what : Int) (w : World) (hn : I64 n) (hwhat : I64 what) :
    Calls Try.prog 7 #[.int .i64 n, .int .i64 what] w fun e w' => e = .returned (.bool true) ∧ Mod (fun _ => False) w w' := by
  have HI := Lib.hid hwhat
  have HJ := Lib.hid hn
  clear hwhat hn
  go_enter Try.func7, Try.ntmps7
  go_upto_region 1 with (fail)
  have HM0 := hid (Mod.refl (fun _ => False) w)
  obtain ⟨N, hN, hN1, hN2⟩ : ∃ N : Nat, 98 + within n 5 = (N : Int) ∧ 98 ≤ N ∧ N ≤ 102 := ⟨(98 + within n 5).toNat, by have := within_range n 5 (by decide); omega, by have := within_range n 5 (by decide); omega, by have := within_range n 5 (by decide); omega⟩
  have HNE := Lib.hid hN
  have HN2 := hid (And.intro hN1 hN2)
  clear hN hN1 hN2
  go_upto_region 1 with (fail)
  refine wp_region_U 122 [14, 15, 16, 0] [0, 1, 2, 3] (fun a0 HA0 => ?_)
  have oe0 := ev HA0 0 rfl
  refine QSeq.pure rfl _ (fun E => ex_move rfl (E.y 3 oe0)) ?_
  refine QSeq.go fun act E => ?_
  refine qc_callF (args := #[.int .i64 n, .int .i64 5]) rfl (wanted_none rfl) rfl Try.func13 (args2 (E.d 0 0) rfl) (Within_any n 5 (by decide) (by decide) HJ.out _) ?_
  rintro e w2 ⟨rfl, hw2⟩
  obtain rfl : w = w2 := by first | exact hw2 | exact hw2.symm
  refine ⟨_, rfl, ?_⟩
  clear act E
  refine QSeq.pure rfl (.int .i64 ((N : Nat) : Int)) (fun E => ex_binE rfl rfl (E.d 1 0) (guard_ints _ _ _ _ _ _) (run_add_i _ _ Try.underlying3) (congrArg (Value.int .i64) ((congrArg IntKind.i64.wrap HNE.out).trans (IntWalk.i64_in _ (by have h9 := HN2.out; omega))))) ?_
  refine QSeq.pure rfl _ (fun E => ex_assign rfl (E.d 2 0)) ?_
  refine QSeq.nil (t' := [_, _, _, _]) rfl ?_
  obtain rfl := HA0.out
  clear HA0 oe0
  simp only [pz, Act.put, List.setIfInBounds_toArray, List.set_cons_zero, List.set_cons_succ]
  go_upto_region 2 with (fail)
  refine wp_region_U 122 [17, 5] [0, 1] (fun a0 HA0 => ?_)
  refine QSeq.call rfl rfl Try.func44 (NewWriter_Q _) (fun E => args0) ?_
  rintro e u2_0 ⟨g1, rfl, qwr1, hm⟩
  refine ⟨_, rfl, ?_⟩
  have Hx1 := hid qwr1
  have zu2_0 := hm.size
  have Cx2 := hid (show Mod (fun _ => False) w u2_0 from hm)
  clear hm
  clear qwr1
  refine QSeq.pure rfl _ (fun E => ex_assign rfl (E.d 0 0)) ?_
  refine QSeq.nil (t' := [_, _]) rfl ?_
  obtain rfl := HA0.out
  clear HA0
  simp only [pz, Act.put, List.setIfInBounds_toArray, List.set_cons_zero, List.set_cons_succ]
  go_upto_region 5 with (fail)
  refine wp_region_U 122 [20, 6, 124] [0, 1, 2] (fun a0 HA0 => ?_)
  refine QSeq.pure rfl (.agg #[.int .i64 1, .int .u64 2, .slice none 0 0, .slice none 0 0, .slice none 0 0]) (fun E => ex_build rfl (z := [.int .i64 0, .int .u64 0, .slice none 0 0, .slice none 0 0, .slice none 0 0]) (places := [(0, 1), (1, 1), (2, 1), (3, 1), (4, 1)]) (by kernel_rfl) (parts := [(0, .int .i64 1), (1, .int .u64 2)]) (by simp only [List.map_toArray, List.map_cons, List.map_nil]; try rfl) (r := [.int .i64 1, .int .u64 2, .slice none 0 0, .slice none 0 0, .slice none 0 0]) (by rfl)) ?_
  refine QSeq.go fun act E => ?_
  refine qc_alloc rfl (wanted_none rfl) rfl (z := [.int .i64 0, .int .u64 0, .slice none 0 0, .slice none 0 0, .slice none 0 0]) (by kernel_rfl) ?_
  intro u5_1 qB6 hm
  have zl5_1 := qB6.lt
  have Hx3 := hid qB6
  have zu5_1 := hm.size
  have Cx4 := hid (show Mod (fun _ => False) u2_0 u5_1 from hm)
  clear hm
  clear act E qB6
  refine QSeq.go fun act E => ?_
  have hlz : (([.int .i64 1, .int .u64 2, .slice none 0 0, .slice none 0 0, .slice none 0 0] : List Value)).length = List.length ([.int .i64 0, .int .u64 0, .slice none 0 0, .slice none 0 0, .slice none 0 0] : List Value) := rfl
  refine qc_store rfl (wanted_none rfl) rfl Hx3.out (off := 0) (vs := ([.int .i64 1, .int .u64 2, .slice none 0 0, .slice none 0 0, .slice none 0 0] : List Value)) (by rw [hlz]; kernel_rfl) (by intro u hu; simp at hu; rcases hu with rfl | rfl | rfl | rfl | rfl <;> rfl) (by rw [hlz]; exact Nat.le_of_eq (Nat.zero_add _)) (E.d 1 0) (ec (E.d 0 1)) ?_
  intro u5_2 qc0 hm
  have qB6 := qc0.eqv (b := (([.int .i64 1, .int .u64 2, .slice none 0 0, .slice none 0 0, .slice none 0 0] : List Value) : List Value).toArray) (lay_whole #[.int .i64 0, .int .u64 0, .slice none 0 0, .slice none 0 0, .slice none 0 0] _ (by rw [hlz]; rfl))
  clear qc0 hlz
  have Hx5 := hid qB6
  have zu5_2 := hm.size
  have HMu5_2 := hid hm
  have Cx6 := hid (Mod.goS (S' := (fun _ => False)) Cx4.out hm (fun _ h => h) (by intro k h0 h2; omega))
  clear hm Cx4
  clear act E qB6 Hx3
  clear HMu5_2
  refine QSeq.nil (t' := [_, _, _]) rfl ?_
  obtain rfl := HA0.out
  clear HA0
  simp only [pz, Act.put, List.setIfInBounds_toArray, List.set_cons_zero, List.set_cons_succ, List.set_nil]
  obtain ⟨bk, hbk⟩ : ∃ b : Bool, b = decide (((N : Nat) : Int) ≤ 100) := ⟨_, rfl⟩
  have HBK := Lib.hid hbk
  clear hbk
  go_upto_region 6 with (fail)
  refine wp_region_U 122 [21, 22, 7] [0, 1, 2] (fun a0 HA0 => ?_)
  have oe0 := ev HA0 0 rfl
  refine QSeq.pure rfl _ (fun E => ex_move rfl (E.v oe0)) ?_
  refine QSeq.pure rfl (.bool bk) (fun E => ex_binE rfl (E.d 0 0) rfl (guard_ints _ _ _ _ _ _) (run_leq_i _ _ _ Try.underlying3) (congrArg Value.bool HBK.out.symm)) ?_
  refine QSeq.pure rfl _ (fun E => ex_assign rfl (E.d 1 0)) ?_
  refine QSeq.nil (t' := [_, _, _]) rfl ?_
  obtain rfl := HA0.out
  clear HA0 oe0
  simp only [pz, Act.put, List.setIfInBounds_toArray, List.set_cons_zero, List.set_cons_succ]
  go_upto_region 7 with (fail)
  refine wp_region_U 122 [23, 24] [0, 1] (fun a0 HA0 => ?_)
  have oe1 := ev HA0 1 rfl
  refine QSeq.pure rfl _ (fun E => ex_move rfl (E.v oe1)) ?_
  refine QSeq.go fun act E => ?_
  refine qc_callF (args := #[.int .i64 what, .int .i64 4]) rfl (wanted_none rfl) rfl Try.func13 (args2 (E.d 0 0) rfl) (Within_any what 4 (by decide) (by decide) HI.out _) ?_
  rintro e w2 ⟨rfl, hw2⟩
  obtain rfl : u5_2 = w2 := by first | exact hw2 | exact hw2.symm
  refine ⟨_, rfl, ?_⟩
  clear act E
  refine QSeq.nil (t' := [_, _]) rfl ?_
  obtain rfl := HA0.out
  clear HA0 oe1
  simp only [pz, Act.put, List.setIfInBounds_toArray, List.set_cons_zero, List.set_cons_succ]
  go_upto_block 0 with (fail)
  go_cut [] from 26 (fun w' => ∃ (k : Nat) (dc : List Value), Cs w' (u2_0.heap.size) dc.toArray 60 ∧ BaR.rd (fun k => u5_2.heap.size ≤ k ∧ k < w'.heap.size) w' dc (baL k N) ∧ Mod (fun k => k = u2_0.heap.size) u5_2 w')
  case first =>
    have hmz := hid (Mod.refl (fun k => k = u2_0.heap.size) u5_2)
    by_cases h0 : within what 4 = 0
    · have K0 := Lib.hid h0
      clear h0
      go_upto_region 9 with (fail)
      refine wp_region_U 122 [36, 35] [0, 1] (fun a0 HA0 => ?_)
      have oe24 := ev HA0 24 rfl
      refine QSeq.pure rfl (.bool true) (fun E => ex_binE rfl (E.v oe24) rfl (guard_ints _ _ _ _ _ _) (run_eql_i _ _ _ Try.underlying3) (congrArg Value.bool (eq_tt K0.out))) ?_
      refine QSeq.pure rfl _ (fun E => ex_assign rfl (E.d 0 0)) ?_
      refine QSeq.nil (t' := [_, _]) rfl ?_
      obtain rfl := HA0.out
      clear HA0 oe24
      simp only [pz, Act.put, List.setIfInBounds_toArray, List.set_cons_zero, List.set_cons_succ]
      go_upto_region 10 with (fail)
      refine wp_region_U 122 [8] [0] (fun a0 HA0 => ?_)
      refine QSeq.pure rfl (.int .i64 0) (fun E => ex_assign rfl rfl) ?_
      refine QSeq.nil (t' := [_]) rfl ?_
      obtain rfl := HA0.out
      clear HA0
      simp only [pz, Act.put, List.setIfInBounds_toArray, List.set_cons_zero, List.set_cons_succ]
      go_wp2
      go_loopw [8] (fun ti wr => ∃ (k : Nat) (v : Value), ti = .int .i64 (k : Int) ∧ k ≤ N ∧ u5_2.heap.size ≤ wr.heap.size ∧ Cs wr (u2_0.heap.size) #[.int .i64 1, .int .u64 2, .slice none 0 0, v, .slice none 0 0] 60 ∧ OwS OpR 87 (fun k => u5_2.heap.size ≤ k ∧ k < wr.heap.size) (fun k => u5_2.heap.size ≤ k ∧ k < wr.heap.size) wr v ((List.range k).map opI) ∧ Mod (fun k => (k = u2_0.heap.size)) u5_2 wr) (fun ti _ => N - (intOf ti).toNat)
      case atStart => exact ⟨0, .slice none 0 0, rfl, Nat.zero_le _, Nat.le_refl _, Hx5.out, OwS.nil _ _ _ _ _, hmz.out⟩
      case round =>
        obtain ⟨k1, v, rfl, hk, hz, hb, ho, hm⟩ := hrel
        obtain ⟨wl1, rfl⟩ : ∃ x, x = wr := ⟨_, rfl⟩
        obtain ⟨ao, cap, rfl⟩ := ho.shape
        have HBX1 := Lib.hid hb
        have HOX1 := Lib.hid ho
        have HMX1 := Lib.hid hm
        clear hb ho hm Hx5 hmz
        by_cases hlt : k1 < N
        · skip
          go_upto_region 11 with (fail)
          refine wp_region_U 122 [37, 38, 39] [0, 1, 2] (fun a0 HA0 => ?_)
          have oe0 := ev HA0 0 rfl
          have oe8 := ev HA0 8 rfl
          refine QSeq.pure rfl _ (fun E => ex_move rfl (E.v oe8)) ?_
          refine QSeq.pure rfl _ (fun E => ex_move rfl (E.v oe0)) ?_
          refine QSeq.pure rfl (.bool true) (fun E => ex_binE rfl (E.d 0 1) (E.d 1 0) (guard_ints _ _ _ _ _ _) (run_lss_i _ _ _ Try.underlying3) (congrArg Value.bool (decide_eq_true (by omega)))) ?_
          refine QSeq.nil (t' := [_, _, _]) rfl ?_
          obtain rfl := HA0.out
          clear HA0 oe0 oe8
          simp only [pz, Act.put, List.setIfInBounds_toArray, List.set_cons_zero, List.set_cons_succ]
          go_upto_region 13 with (fail)
          refine wp_region_U 122 [42, 43, 44, 45, 46, 47, 48, 129] [0, 1, 2, 3, 4, 5, 6, 7] (fun a0 HA0 => ?_)
          have oe6 := ev HA0 6 rfl
          have oe8 := ev HA0 8 rfl
          refine QSeq.pure rfl (.pointer (some ⟨u2_0.heap.size, 3, none⟩)) (fun E => ex_field rfl Try.underlying60 rfl (by kernel_rfl) (E.v oe6)) ?_
          refine QSeq.pure rfl _ (fun E => ex_load1 rfl Try.underlying57 rfl (E.d 0 0) (Cs.lit1 HBX1.out rfl)) ?_
          refine QSeq.pure rfl _ (fun E => ex_move rfl (E.v oe8)) ?_
          refine QSeq.go fun act E => ?_
          refine qc_run rfl (wanted_none rfl) (v := .agg ((opC (((k1 : Nat) : Int)) (.slice none 0 0)) : List Value).toArray) (ex_build rfl (z := [.int .i64 0, .slice none 0 0, .int .u8 0, .int .u8 0, .int .u8 0, .int .u8 0, .int .u8 0, .int .u8 0, .int .u8 0, .int .u8 0, .int .u8 0, .int .u8 0, .int .u8 0, .int .u8 0, .int .u8 0, .int .u8 0, .int .u8 0, .int .u8 0, .int .u8 0, .int .u8 0, .int .u8 0, .int .u8 0, .int .u8 0, .int .u8 0, .int .u8 0, .int .u8 0, .int .u8 0, .int .u8 0, .int .u8 0, .int .u8 0, .int .u8 0, .int .u8 0, .int .u8 0, .int .u8 0]) (places := [(0, 1), (1, 1), (2, 32)]) (by kernel_rfl) (parts := [(0, .int .i64 ((k1 : Nat) : Int))]) (by simp only [List.map_toArray, List.map_cons, List.map_nil, show act.eval (.tmp 44) = .int .i64 ((k1 : Nat) : Int) from (E.d 2 0)]; try rfl) (r := (opC (((k1 : Nat) : Int)) (.slice none 0 0))) (by rfl)) ?_
          clear act E
          refine QSeq.go fun act E => ?_
          refine qc_buildS (e := 87) (cs := (opC (((k1 : Nat) : Int)) (.slice none 0 0))) (zc := [.int .i64 0, .slice none 0 0, .int .u8 0, .int .u8 0, .int .u8 0, .int .u8 0, .int .u8 0, .int .u8 0, .int .u8 0, .int .u8 0, .int .u8 0, .int .u8 0, .int .u8 0, .int .u8 0, .int .u8 0, .int .u8 0, .int .u8 0, .int .u8 0, .int .u8 0, .int .u8 0, .int .u8 0, .int .u8 0, .int .u8 0, .int .u8 0, .int .u8 0, .int .u8 0, .int .u8 0, .int .u8 0, .int .u8 0, .int .u8 0, .int .u8 0, .int .u8 0, .int .u8 0, .int .u8 0]) (sz := 34) rfl (wanted_none rfl) rfl Try.underlying57 (by kernel_rfl) rfl (by decide) (by decide) (E.d 3 0) rfl ?_
          intro u13_4 qrow hm
          have zl13_4 := qrow.lt
          have Hx7 := hid qrow
          have zu13_4 := hm.size
          have Cx8 := hid (show Mod (fun _ => False) wl1 u13_4 from hm)
          clear hm
          clear act E qrow
          refine QSeq.go fun act E => ?_
          refine qc_appS (A := OpR) (e := 87) rfl (wanted_none rfl) rfl (.agg #[.int .i64 0, .slice none 0 0, .int .u8 0, .int .u8 0, .int .u8 0, .int .u8 0, .int .u8 0, .int .u8 0, .int .u8 0, .int .u8 0, .int .u8 0, .int .u8 0, .int .u8 0, .int .u8 0, .int .u8 0, .int .u8 0, .int .u8 0, .int .u8 0, .int .u8 0, .int .u8 0, .int .u8 0, .int .u8 0, .int .u8 0, .int .u8 0, .int .u8 0, .int .u8 0, .int .u8 0, .int .u8 0, .int .u8 0, .int .u8 0, .int .u8 0, .int .u8 0, .int .u8 0, .int .u8 0]) 64 Try.underlying57 info_Op (by rfl) (of_decide_eq_true (by kernel_rfl)) (E.d 1 3) (E.d 4 0) ((HOX1.out.mod Cx8.out (fun _ _ h => h) (fun _ _ h => h))) (RdS.single (R := (fun k => (k = wl1.heap.size))) Hx7.out (show OpR.rd _ _ (opC (((k1 : Nat) : Int)) (.slice none 0 0)) (opI k1) from ⟨_, rfl, ⟨(show I64 ((k1 : Nat) : Int) by have h9 := HN2.out; unfold I64; omega), HK_zero⟩, RdR_none _ _⟩) rfl) (by intro k h1 h2; omega) (by have h9 := HN2.out; simp only [List.length_map, List.length_range, List.length_cons, List.length_nil]; omega) (by have h9 := HN2.out; rw [maxLen_val]; simp only [List.length_map, List.length_range, List.length_cons, List.length_nil]; omega) ?_
          intro ao5 cap5 u13_5 qown hm
          have Hx9 := hid (qown.widen (R' := (fun k => (New u5_2 wl1 k) ∨ (New u13_4 u13_5 k))) (E' := (fun k => (New u5_2 wl1 k) ∨ (k = wl1.heap.size))) (fun _ h => h) (by intro k h1; rcases h1 with h1 | h1 <;> first | omega | exact h1.elim | exact Or.inl h1 | exact Or.inr (h1)))
          have zu13_5 := hm.size
          have HMu13_5 := hid hm
          have Cx10 := hid (Mod.goS (S' := (fun k => (New u5_2 wl1 k))) Cx8.out hm (fun _ h => h.elim) (by intro k h0 h2; exact h2))
          clear hm Cx8
          clear act E qown HOX1
          refine QSeq.pure rfl (.pointer (some ⟨u2_0.heap.size, 3, none⟩)) (fun E => ex_field rfl Try.underlying60 rfl (by kernel_rfl) (E.v oe6)) ?_
          refine QSeq.go fun act E => ?_
          refine qc_store rfl (wanted_none rfl) rfl (HBX1.out.mod Cx10.out (by intro h2; omega)) (off := 3) (vs := [Value.slice ao5 (((List.range k1).map opI).length + 1) cap5]) (by kernel_rfl) one1 (by simp) (E.d 6 0) (ec (E.d 5 1)) ?_
          intro u13_7 qc0 hm
          have qB6 := qc0.eqv (b := #[.int .i64 1, .int .u64 2, .slice none 0 0, Value.slice ao5 (((List.range k1).map opI).length + 1) cap5, .slice none 0 0]) rfl
          clear qc0
          have Hx11 := hid qB6
          have zu13_7 := hm.size
          have HMu13_7 := hid hm
          have Cx12 := hid (Mod.goS (S' := (fun k => (New u5_2 wl1 k) ∨ (k = u2_0.heap.size))) Cx10.out hm (fun _ h => Or.inl h) (by intro k h0 h2; exact Or.inr (h2)))
          clear hm Cx10
          clear act E qB6 HBX1
          have Hx13 := hid (Hx9.out.mod HMu13_7.out (by intro k h1 h2; omega) (by intro k h1 h2; omega))
          have Hx14 := hid ((Hx7.out.mod HMu13_5.out (by intro h2; omega)).mod HMu13_7.out (by intro h2; omega))
          clear Hx9 Hx7 HMu13_5 HMu13_7
          refine QSeq.nil (t' := [_, _, _, _, _, _, _, _]) rfl ?_
          obtain rfl := HA0.out
          clear HA0 oe6 oe8
          simp only [pz, Act.put, List.setIfInBounds_toArray, List.set_cons_zero, List.set_cons_succ, List.set_nil]
          go_upto_region 12 with (fail)
          refine wp_region_U 122 [40, 41, 8] [0, 1, 2] (fun a0 HA0 => ?_)
          have oe8 := ev HA0 8 rfl
          refine QSeq.pure rfl _ (fun E => ex_move rfl (E.y 2 oe8)) ?_
          refine QSeq.pure rfl (.int .i64 (((k1 : Nat) : Int) + 1)) (fun E => ex_binE rfl (E.d 0 0) rfl (guard_ints _ _ _ _ _ _) (run_add_i _ _ Try.underlying3) (congrArg (Value.int .i64) (IntWalk.i64_in _ (by have h9 := HN2.out; omega)))) ?_
          refine QSeq.pure rfl _ (fun E => ex_assign rfl (E.d 1 0)) ?_
          refine QSeq.nil (t' := [_, _, _]) rfl ?_
          obtain rfl := HA0.out
          clear HA0 oe8
          simp only [pz, Act.put, List.setIfInBounds_toArray, List.set_cons_zero, List.set_cons_succ]
          have hq := Hx13.out
          rw [range_snoc] at hq
          have HQ := Lib.hid hq
          clear hq
          go_wp2
          go_roundw
          case rel => exact ⟨k1 + 1, _, by go_num, by omega, by omega, Hx11.out, HQ.out.widen (by intro k h1; (try dsimp only at h1 ⊢); omega) (by intro k h1; (try dsimp only at h1 ⊢); omega), (HMX1.out.trans Cx12.out (by intro k h1 h2; rcases h2 with h2 | h2 <;> first | exact h2 | omega))⟩
          case measure => simp [intOf]; omega
        · skip
          go_upto_region 11 with (fail)
          refine wp_region_U 122 [37, 38, 39] [0, 1, 2] (fun a0 HA0 => ?_)
          have oe0 := ev HA0 0 rfl
          have oe8 := ev HA0 8 rfl
          refine QSeq.pure rfl _ (fun E => ex_move rfl (E.v oe8)) ?_
          refine QSeq.pure rfl _ (fun E => ex_move rfl (E.v oe0)) ?_
          refine QSeq.pure rfl (.bool false) (fun E => ex_binE rfl (E.d 0 1) (E.d 1 0) (guard_ints _ _ _ _ _ _) (run_lss_i _ _ _ Try.underlying3) (congrArg Value.bool (decide_eq_false (by omega)))) ?_
          refine QSeq.nil (t' := [_, _, _]) rfl ?_
          obtain rfl := HA0.out
          clear HA0 oe0 oe8
          simp only [pz, Act.put, List.setIfInBounds_toArray, List.set_cons_zero, List.set_cons_succ]
          obtain rfl : k1 = N := by omega
          go_wp2_with fail
          go_meet
          case rel => exact ⟨0, [.int .i64 1, .int .u64 2, .slice none 0 0, Value.slice ao ((List.range k1).map opI).length cap, .slice none 0 0], HBX1.out, (show BaR.rd _ _ _ (Ba.mk 1 2 [] ((List.range k1).map opI) []) from ⟨_, _, _, rfl, okz, RdS.nil _ _ _, HOX1.out.rd.widen (by intro k h1; (try dsimp only at h1 ⊢); omega), RdS.nil _ _ _⟩), HMX1.out⟩
    · have K0 := Lib.hid h0
      clear h0
      go_upto_region 9 with (fail)
      refine wp_region_U 122 [36, 35] [0, 1] (fun a0 HA0 => ?_)
      have oe24 := ev HA0 24 rfl
      refine QSeq.pure rfl (.bool false) (fun E => ex_binE rfl (E.v oe24) rfl (guard_ints _ _ _ _ _ _) (run_eql_i _ _ _ Try.underlying3) (congrArg Value.bool (eq_ff K0.out))) ?_
      refine QSeq.pure rfl _ (fun E => ex_assign rfl (E.d 0 0)) ?_
      refine QSeq.nil (t' := [_, _]) rfl ?_
      obtain rfl := HA0.out
      clear HA0 oe24
      simp only [pz, Act.put, List.setIfInBounds_toArray, List.set_cons_zero, List.set_cons_succ]
      by_cases h1 : within what 4 = 1
      · have K1 := Lib.hid h1
        clear h1
        go_upto_region 14 with (fail)
        refine wp_region_U 122 [50, 49] [0, 1] (fun a0 HA0 => ?_)
        have oe24 := ev HA0 24 rfl
        refine QSeq.pure rfl (.bool true) (fun E => ex_binE rfl (E.v oe24) rfl (guard_ints _ _ _ _ _ _) (run_eql_i _ _ _ Try.underlying3) (congrArg Value.bool (eq_tt K1.out))) ?_
        refine QSeq.pure rfl _ (fun E => ex_assign rfl (E.d 0 0)) ?_
        refine QSeq.nil (t' := [_, _]) rfl ?_
        obtain rfl := HA0.out
        clear HA0 oe24
        simp only [pz, Act.put, List.setIfInBounds_toArray, List.set_cons_zero, List.set_cons_succ]
        go_upto_region 15 with (fail)
        refine wp_region_U 122 [9] [0] (fun a0 HA0 => ?_)
        refine QSeq.pure rfl (.int .i64 0) (fun E => ex_assign rfl rfl) ?_
        refine QSeq.nil (t' := [_]) rfl ?_
        obtain rfl := HA0.out
        clear HA0
        simp only [pz, Act.put, List.setIfInBounds_toArray, List.set_cons_zero, List.set_cons_succ]
        go_wp2
        go_loopw [9] (fun ti wr => ∃ (k : Nat) (v : Value), ti = .int .i64 (k : Int) ∧ k ≤ N ∧ u5_2.heap.size ≤ wr.heap.size ∧ Cs wr (u2_0.heap.size) #[.int .i64 1, .int .u64 2, .slice none 0 0, .slice none 0 0, v] 60 ∧ OwS TbR 90 (fun k => u5_2.heap.size ≤ k ∧ k < wr.heap.size) (fun k => u5_2.heap.size ≤ k ∧ k < wr.heap.size) wr v ((List.range k).map tbI) ∧ Mod (fun k => (k = u2_0.heap.size)) u5_2 wr) (fun ti _ => N - (intOf ti).toNat)
        case atStart => exact ⟨0, .slice none 0 0, rfl, Nat.zero_le _, Nat.le_refl _, Hx5.out, OwS.nil _ _ _ _ _, hmz.out⟩
        case round =>
          obtain ⟨k2, v, rfl, hk, hz, hb, ho, hm⟩ := hrel
          obtain ⟨wl2, rfl⟩ : ∃ x, x = wr := ⟨_, rfl⟩
          obtain ⟨ao, cap, rfl⟩ := ho.shape
          have HBX2 := Lib.hid hb
          have HOX2 := Lib.hid ho
          have HMX2 := Lib.hid hm
          clear hb ho hm Hx5 hmz
          by_cases hlt : k2 < N
          · skip
            go_upto_region 16 with (fail)
            refine wp_region_U 122 [51, 52, 53] [0, 1, 2] (fun a0 HA0 => ?_)
            have oe0 := ev HA0 0 rfl
            have oe9 := ev HA0 9 rfl
            refine QSeq.pure rfl _ (fun E => ex_move rfl (E.v oe9)) ?_
            refine QSeq.pure rfl _ (fun E => ex_move rfl (E.v oe0)) ?_
            refine QSeq.pure rfl (.bool true) (fun E => ex_binE rfl (E.d 0 1) (E.d 1 0) (guard_ints _ _ _ _ _ _) (run_lss_i _ _ _ Try.underlying3) (congrArg Value.bool (decide_eq_true (by omega)))) ?_
            refine QSeq.nil (t' := [_, _, _]) rfl ?_
            obtain rfl := HA0.out
            clear HA0 oe0 oe9
            simp only [pz, Act.put, List.setIfInBounds_toArray, List.set_cons_zero, List.set_cons_succ]
            go_upto_region 18 with (fail)
            refine wp_region_U 122 [56, 57, 58, 59, 60, 61, 62, 129] [0, 1, 2, 3, 4, 5, 6, 7] (fun a0 HA0 => ?_)
            have oe6 := ev HA0 6 rfl
            have oe9 := ev HA0 9 rfl
            refine QSeq.pure rfl (.pointer (some ⟨u2_0.heap.size, 4, none⟩)) (fun E => ex_field rfl Try.underlying60 rfl (by kernel_rfl) (E.v oe6)) ?_
            refine QSeq.pure rfl _ (fun E => ex_load1 rfl Try.underlying58 rfl (E.d 0 0) (Cs.lit1 HBX2.out rfl)) ?_
            refine QSeq.pure rfl _ (fun E => ex_move rfl (E.v oe9)) ?_
            refine QSeq.go fun act E => ?_
            refine qc_run rfl (wanted_none rfl) (v := .agg #[.int .i64 ((k2 : Nat) : Int), .slice none 0 0]) (ex_build rfl (z := [.int .i64 0, .slice none 0 0]) (places := [(0, 1), (1, 1)]) (by kernel_rfl) (parts := [(0, .int .i64 ((k2 : Nat) : Int))]) (by simp only [List.map_toArray, List.map_cons, List.map_nil, show act.eval (.tmp 58) = .int .i64 ((k2 : Nat) : Int) from (E.d 2 0)]; try rfl) (r := [.int .i64 ((k2 : Nat) : Int), .slice none 0 0]) (by rfl)) ?_
            clear act E
            refine QSeq.go fun act E => ?_
            refine qc_buildS (e := 90) (cs := [.int .i64 ((k2 : Nat) : Int), .slice none 0 0]) (zc := [.int .i64 0, .slice none 0 0]) (sz := 2) rfl (wanted_none rfl) rfl Try.underlying58 (by kernel_rfl) rfl (by decide) (by decide) (E.d 3 0) rfl ?_
            intro u18_4 qrow hm
            have zl18_4 := qrow.lt
            have Hx15 := hid qrow
            have zu18_4 := hm.size
            have Cx16 := hid (show Mod (fun _ => False) wl2 u18_4 from hm)
            clear hm
            clear act E qrow
            refine QSeq.go fun act E => ?_
            refine qc_appS (A := TbR) (e := 90) rfl (wanted_none rfl) rfl (.agg #[.int .i64 0, .slice none 0 0]) 32 Try.underlying58 info_Tb (by rfl) (of_decide_eq_true (by kernel_rfl)) (E.d 1 3) (E.d 4 0) ((HOX2.out.mod Cx16.out (fun _ _ h => h) (fun _ _ h => h))) (RdS.single (R := (fun k => (k = wl2.heap.size))) Hx15.out (show TbR.rd _ _ [.int .i64 ((k2 : Nat) : Int), .slice none 0 0] (tbI k2) from ⟨_, rfl, (show I64 ((k2 : Nat) : Int) by have h9 := HN2.out; unfold I64; omega), RdS.nil _ _ _⟩) rfl) (by intro k h1 h2; omega) (by have h9 := HN2.out; simp only [List.length_map, List.length_range, List.length_cons, List.length_nil]; omega) (by have h9 := HN2.out; rw [maxLen_val]; simp only [List.length_map, List.length_range, List.length_cons, List.length_nil]; omega) ?_
            intro ao5 cap5 u18_5 qown hm
            have Hx17 := hid (qown.widen (R' := (fun k => (New u5_2 wl2 k) ∨ (New u18_4 u18_5 k))) (E' := (fun k => (New u5_2 wl2 k) ∨ (k = wl2.heap.size))) (fun _ h => h) (by intro k h1; rcases h1 with h1 | h1 <;> first | omega | exact h1.elim | exact Or.inl h1 | exact Or.inr (h1)))
            have zu18_5 := hm.size
            have HMu18_5 := hid hm
            have Cx18 := hid (Mod.goS (S' := (fun k => (New u5_2 wl2 k))) Cx16.out hm (fun _ h => h.elim) (by intro k h0 h2; exact h2))
            clear hm Cx16
            clear act E qown HOX2
            refine QSeq.pure rfl (.pointer (some ⟨u2_0.heap.size, 4, none⟩)) (fun E => ex_field rfl Try.underlying60 rfl (by kernel_rfl) (E.v oe6)) ?_
            refine QSeq.go fun act E => ?_
            refine qc_store rfl (wanted_none rfl) rfl (HBX2.out.mod Cx18.out (by intro h2; omega)) (off := 4) (vs := [Value.slice ao5 (((List.range k2).map tbI).length + 1) cap5]) (by kernel_rfl) one1 (by simp) (E.d 6 0) (ec (E.d 5 1)) ?_
            intro u18_7 qc0 hm
            have qB6 := qc0.eqv (b := #[.int .i64 1, .int .u64 2, .slice none 0 0, .slice none 0 0, Value.slice ao5 (((List.range k2).map tbI).length + 1) cap5]) rfl
            clear qc0
            have Hx19 := hid qB6
            have zu18_7 := hm.size
            have HMu18_7 := hid hm
            have Cx20 := hid (Mod.goS (S' := (fun k => (New u5_2 wl2 k) ∨ (k = u2_0.heap.size))) Cx18.out hm (fun _ h => Or.inl h) (by intro k h0 h2; exact Or.inr (h2)))
            clear hm Cx18
            clear act E qB6 HBX2
            have Hx21 := hid (Hx17.out.mod HMu18_7.out (by intro k h1 h2; omega) (by intro k h1 h2; omega))
            have Hx22 := hid ((Hx15.out.mod HMu18_5.out (by intro h2; omega)).mod HMu18_7.out (by intro h2; omega))
            clear Hx17 Hx15 HMu18_5 HMu18_7
            refine QSeq.nil (t' := [_, _, _, _, _, _, _, _]) rfl ?_
            obtain rfl := HA0.out
            clear HA0 oe6 oe9
            simp only [pz, Act.put, List.setIfInBounds_toArray, List.set_cons_zero, List.set_cons_succ, List.set_nil]
            go_upto_region 17 with (fail)
            refine wp_region_U 122 [54, 55, 9] [0, 1, 2] (fun a0 HA0 => ?_)
            have oe9 := ev HA0 9 rfl
            refine QSeq.pure rfl _ (fun E => ex_move rfl (E.y 2 oe9)) ?_
            refine QSeq.pure rfl (.int .i64 (((k2 : Nat) : Int) + 1)) (fun E => ex_binE rfl (E.d 0 0) rfl (guard_ints _ _ _ _ _ _) (run_add_i _ _ Try.underlying3) (congrArg (Value.int .i64) (IntWalk.i64_in _ (by have h9 := HN2.out; omega)))) ?_
            refine QSeq.pure rfl _ (fun E => ex_assign rfl (E.d 1 0)) ?_
            refine QSeq.nil (t' := [_, _, _]) rfl ?_
            obtain rfl := HA0.out
            clear HA0 oe9
            simp only [pz, Act.put, List.setIfInBounds_toArray, List.set_cons_zero, List.set_cons_succ]
            have hq := Hx21.out
            rw [range_snoc] at hq
            have HQ := Lib.hid hq
            clear hq
            go_wp2
            go_roundw
            case rel => exact ⟨k2 + 1, _, by go_num, by omega, by omega, Hx19.out, HQ.out.widen (by intro k h1; (try dsimp only at h1 ⊢); omega) (by intro k h1; (try dsimp only at h1 ⊢); omega), (HMX2.out.trans Cx20.out (by intro k h1 h2; rcases h2 with h2 | h2 <;> first | exact h2 | omega))⟩
            case measure => simp [intOf]; omega
          · skip
            go_upto_region 16 with (fail)
            refine wp_region_U 122 [51, 52, 53] [0, 1, 2] (fun a0 HA0 => ?_)
            have oe0 := ev HA0 0 rfl
            have oe9 := ev HA0 9 rfl
            refine QSeq.pure rfl _ (fun E => ex_move rfl (E.v oe9)) ?_
            refine QSeq.pure rfl _ (fun E => ex_move rfl (E.v oe0)) ?_
            refine QSeq.pure rfl (.bool false) (fun E => ex_binE rfl (E.d 0 1) (E.d 1 0) (guard_ints _ _ _ _ _ _) (run_lss_i _ _ _ Try.underlying3) (congrArg Value.bool (decide_eq_false (by omega)))) ?_
            refine QSeq.nil (t' := [_, _, _]) rfl ?_
            obtain rfl := HA0.out
            clear HA0 oe0 oe9
            simp only [pz, Act.put, List.setIfInBounds_toArray, List.set_cons_zero, List.set_cons_succ]
            obtain rfl : k2 = N := by omega
            go_wp2_with fail
            go_meet
            case rel => exact ⟨1, [.int .i64 1, .int .u64 2, .slice none 0 0, .slice none 0 0, Value.slice ao ((List.range k2).map tbI).length cap], HBX2.out, (show BaR.rd _ _ _ (Ba.mk 1 2 [] [] ((List.range k2).map tbI)) from ⟨_, _, _, rfl, okz, RdS.nil _ _ _, RdS.nil _ _ _, HOX2.out.rd.widen (by intro k h1; (try dsimp only at h1 ⊢); omega)⟩), HMX2.out⟩
      · have K1 := Lib.hid h1
        clear h1
        go_upto_region 14 with (fail)
        refine wp_region_U 122 [50, 49] [0, 1] (fun a0 HA0 => ?_)
        have oe24 := ev HA0 24 rfl
        refine QSeq.pure rfl (.bool false) (fun E => ex_binE rfl (E.v oe24) rfl (guard_ints _ _ _ _ _ _) (run_eql_i _ _ _ Try.underlying3) (congrArg Value.bool (eq_ff K1.out))) ?_
        refine QSeq.pure rfl _ (fun E => ex_assign rfl (E.d 0 0)) ?_
        refine QSeq.nil (t' := [_, _]) rfl ?_
        obtain rfl := HA0.out
        clear HA0 oe24
        simp only [pz, Act.put, List.setIfInBounds_toArray, List.set_cons_zero, List.set_cons_succ]
        by_cases h2 : within what 4 = 2
        · have K2 := Lib.hid h2
          clear h2
          go_upto_region 19 with (fail)
          refine wp_region_U 122 [64, 63] [0, 1] (fun a0 HA0 => ?_)
          have oe24 := ev HA0 24 rfl
          refine QSeq.pure rfl (.bool true) (fun E => ex_binE rfl (E.v oe24) rfl (guard_ints _ _ _ _ _ _) (run_eql_i _ _ _ Try.underlying3) (congrArg Value.bool (eq_tt K2.out))) ?_
          refine QSeq.pure rfl _ (fun E => ex_assign rfl (E.d 0 0)) ?_
          refine QSeq.nil (t' := [_, _]) rfl ?_
          obtain rfl := HA0.out
          clear HA0 oe24
          simp only [pz, Act.put, List.setIfInBounds_toArray, List.set_cons_zero, List.set_cons_succ]
          go_upto_region 20 with (fail)
          refine wp_region_U 122 [65, 10, 124] [0, 1, 2] (fun a0 HA0 => ?_)
          refine QSeq.pure rfl (.agg #[.int .i64 0, .slice none 0 0]) (fun E => ex_build0 rfl (r := #[.int .i64 0, .slice none 0 0]) (by kernel_rfl)) ?_
          refine QSeq.go fun act E => ?_
          refine qc_alloc rfl (wanted_none rfl) rfl (z := [.int .i64 0, .slice none 0 0]) (by kernel_rfl) ?_
          intro u20_1 qB10 hm
          have zl20_1 := qB10.lt
          have Hx23 := hid qB10
          have zu20_1 := hm.size
          have Cx24 := hid (show Mod (fun _ => False) u5_2 u20_1 from hm)
          clear hm
          clear act E qB10
          refine QSeq.go fun act E => ?_
          have hlz : (([.int .i64 0, .slice none 0 0] : List Value)).length = List.length ([.int .i64 0, .slice none 0 0] : List Value) := rfl
          refine qc_store rfl (wanted_none rfl) rfl Hx23.out (off := 0) (vs := ([.int .i64 0, .slice none 0 0] : List Value)) (by rw [hlz]; kernel_rfl) (by intro u hu; simp at hu; rcases hu with rfl | rfl <;> rfl) (by rw [hlz]; exact Nat.le_of_eq (Nat.zero_add _)) (E.d 1 0) (ec (E.d 0 1)) ?_
          intro u20_2 qc0 hm
          have qB10 := qc0.eqv (b := (([.int .i64 0, .slice none 0 0] : List Value) : List Value).toArray) (lay_whole #[.int .i64 0, .slice none 0 0] _ (by rw [hlz]; rfl))
          clear qc0 hlz
          have Hx25 := hid qB10
          have zu20_2 := hm.size
          have HMu20_2 := hid hm
          have Cx26 := hid (Mod.goS (S' := (fun _ => False)) Cx24.out hm (fun _ h => h) (by intro k h0 h2; omega))
          clear hm Cx24
          clear act E qB10 Hx23
          clear HMu20_2
          refine QSeq.nil (t' := [_, _, _]) rfl ?_
          obtain rfl := HA0.out
          clear HA0
          simp only [pz, Act.put, List.setIfInBounds_toArray, List.set_cons_zero, List.set_cons_succ, List.set_nil]
          go_upto_region 21 with (fail)
          refine wp_region_U 122 [11] [0] (fun a0 HA0 => ?_)
          refine QSeq.pure rfl (.int .i64 0) (fun E => ex_assign rfl rfl) ?_
          refine QSeq.nil (t' := [_]) rfl ?_
          obtain rfl := HA0.out
          clear HA0
          simp only [pz, Act.put, List.setIfInBounds_toArray, List.set_cons_zero, List.set_cons_succ]
          go_wp2
          go_loopw [11] (fun ti wr => ∃ (k : Nat) (v : Value), ti = .int .i64 (k : Int) ∧ k ≤ N ∧ u20_2.heap.size ≤ wr.heap.size ∧ Cs wr (u5_2.heap.size) #[.int .i64 0, v] 90 ∧ OwS DnR 34 (fun k => u20_2.heap.size ≤ k ∧ k < wr.heap.size) (fun k => u20_2.heap.size ≤ k ∧ k < wr.heap.size) wr v ((List.range k).map dnI) ∧ Cs wr (u2_0.heap.size) #[.int .i64 1, .int .u64 2, .slice none 0 0, .slice none 0 0, .slice none 0 0] 60 ∧ Mod (fun k => (k = u2_0.heap.size)) u5_2 wr) (fun ti _ => N - (intOf ti).toNat)
          case atStart => exact ⟨0, .slice none 0 0, rfl, Nat.zero_le _, Nat.le_refl _, Hx25.out, OwS.nil _ _ _ _ _, (Hx5.out.mod Cx26.out (fun h => h)), (hmz.out.trans Cx26.out (fun _ _ h => h.elim))⟩
          case round =>
            obtain ⟨k3, v, rfl, hk, hz, hb, ho, hx_0, hm⟩ := hrel
            obtain ⟨wl3, rfl⟩ : ∃ x, x = wr := ⟨_, rfl⟩
            obtain ⟨ao, cap, rfl⟩ := ho.shape
            have HBX3 := Lib.hid hb
            have HOX3 := Lib.hid ho
            have HMX3 := Lib.hid hm
            have HKX3_0 := Lib.hid hx_0
            clear hb ho hm hx_0 Hx5 hmz Hx25
            by_cases hlt : k3 < N
            · skip
              go_upto_region 22 with (fail)
              refine wp_region_U 122 [66, 67, 68] [0, 1, 2] (fun a0 HA0 => ?_)
              have oe0 := ev HA0 0 rfl
              have oe11 := ev HA0 11 rfl
              refine QSeq.pure rfl _ (fun E => ex_move rfl (E.v oe11)) ?_
              refine QSeq.pure rfl _ (fun E => ex_move rfl (E.v oe0)) ?_
              refine QSeq.pure rfl (.bool true) (fun E => ex_binE rfl (E.d 0 1) (E.d 1 0) (guard_ints _ _ _ _ _ _) (run_lss_i _ _ _ Try.underlying3) (congrArg Value.bool (decide_eq_true (by omega)))) ?_
              refine QSeq.nil (t' := [_, _, _]) rfl ?_
              obtain rfl := HA0.out
              clear HA0 oe0 oe11
              simp only [pz, Act.put, List.setIfInBounds_toArray, List.set_cons_zero, List.set_cons_succ]
              go_upto_region 24 with (fail)
              refine wp_region_U 122 [71, 72, 73, 74, 75, 76, 77, 129] [0, 1, 2, 3, 4, 5, 6, 7] (fun a0 HA0 => ?_)
              have oe10 := ev HA0 10 rfl
              have oe11 := ev HA0 11 rfl
              refine QSeq.pure rfl (.pointer (some ⟨u5_2.heap.size, 1, none⟩)) (fun E => ex_field rfl Try.underlying90 rfl (by kernel_rfl) (E.v oe10)) ?_
              refine QSeq.pure rfl _ (fun E => ex_load1 rfl Try.underlying88 rfl (E.d 0 0) (Cs.lit1 HBX3.out rfl)) ?_
              refine QSeq.pure rfl _ (fun E => ex_move rfl (E.v oe11)) ?_
              refine QSeq.go fun act E => ?_
              refine qc_run rfl (wanted_none rfl) (v := .agg #[.int .i64 0, .int .i64 ((k3 : Nat) : Int), .int .i64 0, .int .i64 0]) (ex_build rfl (z := [.int .i64 0, .int .i64 0, .int .i64 0, .int .i64 0]) (places := [(0, 1), (1, 1), (2, 2)]) (by kernel_rfl) (parts := [(1, .int .i64 ((k3 : Nat) : Int))]) (by simp only [List.map_toArray, List.map_cons, List.map_nil, show act.eval (.tmp 73) = .int .i64 ((k3 : Nat) : Int) from (E.d 2 0)]; try rfl) (r := [.int .i64 0, .int .i64 ((k3 : Nat) : Int), .int .i64 0, .int .i64 0]) (by rfl)) ?_
              clear act E
              refine QSeq.go fun act E => ?_
              refine qc_buildS (e := 34) (cs := [.int .i64 0, .int .i64 ((k3 : Nat) : Int), .int .i64 0, .int .i64 0]) (zc := [.int .i64 0, .int .i64 0, .int .i64 0, .int .i64 0]) (sz := 4) rfl (wanted_none rfl) rfl Try.underlying88 (by kernel_rfl) rfl (by decide) (by decide) (E.d 3 0) rfl ?_
              intro u24_4 qrow hm
              have zl24_4 := qrow.lt
              have Hx27 := hid qrow
              have zu24_4 := hm.size
              have Cx28 := hid (show Mod (fun _ => False) wl3 u24_4 from hm)
              clear hm
              clear act E qrow
              refine QSeq.go fun act E => ?_
              refine qc_appS (A := DnR) (e := 34) rfl (wanted_none rfl) rfl (.agg #[.int .i64 0, .int .i64 0, .int .i64 0, .int .i64 0]) 32 Try.underlying88 info_Dn (by rfl) (of_decide_eq_true (by kernel_rfl)) (E.d 1 3) (E.d 4 0) ((HOX3.out.mod Cx28.out (fun _ _ h => h) (fun _ _ h => h))) (RdS.single (R := (fun k => (k = wl3.heap.size))) Hx27.out (show DnR.rd _ _ [.int .i64 0, .int .i64 ((k3 : Nat) : Int), .int .i64 0, .int .i64 0] (dnI k3) from ⟨rfl, ⟨I64_0, (show I64 ((k3 : Nat) : Int) by have h9 := HN2.out; unfold I64; omega), I64_0, I64_0⟩⟩) rfl) (by intro k h1 h2; omega) (by have h9 := HN2.out; simp only [List.length_map, List.length_range, List.length_cons, List.length_nil]; omega) (by have h9 := HN2.out; rw [maxLen_val]; simp only [List.length_map, List.length_range, List.length_cons, List.length_nil]; omega) ?_
              intro ao7 cap7 u24_5 qown hm
              have Hx29 := hid (qown.widen (R' := (fun k => (New u20_2 wl3 k) ∨ (New u24_4 u24_5 k))) (E' := (fun k => (New u20_2 wl3 k) ∨ (k = wl3.heap.size))) (fun _ h => h) (by intro k h1; rcases h1 with h1 | h1 <;> first | omega | exact h1.elim | exact Or.inl h1 | exact Or.inr (h1)))
              have zu24_5 := hm.size
              have HMu24_5 := hid hm
              have Cx30 := hid (Mod.goS (S' := (fun k => (New u20_2 wl3 k))) Cx28.out hm (fun _ h => h.elim) (by intro k h0 h2; exact h2))
              clear hm Cx28
              clear act E qown HOX3
              refine QSeq.pure rfl (.pointer (some ⟨u5_2.heap.size, 1, none⟩)) (fun E => ex_field rfl Try.underlying90 rfl (by kernel_rfl) (E.v oe10)) ?_
              refine QSeq.go fun act E => ?_
              refine qc_store rfl (wanted_none rfl) rfl (HBX3.out.mod Cx30.out (by intro h2; omega)) (off := 1) (vs := [Value.slice ao7 (((List.range k3).map dnI).length + 1) cap7]) (by kernel_rfl) one1 (by simp) (E.d 6 0) (ec (E.d 5 1)) ?_
              intro u24_7 qc0 hm
              have qB10 := qc0.eqv (b := #[.int .i64 0, Value.slice ao7 (((List.range k3).map dnI).length + 1) cap7]) rfl
              clear qc0
              have Hx31 := hid qB10
              have zu24_7 := hm.size
              have HMu24_7 := hid hm
              have Cx32 := hid (Mod.goS (S' := (fun k => (New u20_2 wl3 k) ∨ (k = u5_2.heap.size))) Cx30.out hm (fun _ h => Or.inl h) (by intro k h0 h2; exact Or.inr (h2)))
              clear hm Cx30
              clear act E qB10 HBX3
              have Hx33 := hid (Hx29.out.mod HMu24_7.out (by intro k h1 h2; omega) (by intro k h1 h2; omega))
              have Hx34 := hid ((Hx27.out.mod HMu24_5.out (by intro h2; omega)).mod HMu24_7.out (by intro h2; omega))
              clear Hx29 Hx27 HMu24_5 HMu24_7
              refine QSeq.nil (t' := [_, _, _, _, _, _, _, _]) rfl ?_
              obtain rfl := HA0.out
              clear HA0 oe10 oe11
              simp only [pz, Act.put, List.setIfInBounds_toArray, List.set_cons_zero, List.set_cons_succ, List.set_nil]
              go_upto_region 23 with (fail)
              refine wp_region_U 122 [69, 70, 11] [0, 1, 2] (fun a0 HA0 => ?_)
              have oe11 := ev HA0 11 rfl
              refine QSeq.pure rfl _ (fun E => ex_move rfl (E.y 2 oe11)) ?_
              refine QSeq.pure rfl (.int .i64 (((k3 : Nat) : Int) + 1)) (fun E => ex_binE rfl (E.d 0 0) rfl (guard_ints _ _ _ _ _ _) (run_add_i _ _ Try.underlying3) (congrArg (Value.int .i64) (IntWalk.i64_in _ (by have h9 := HN2.out; omega)))) ?_
              refine QSeq.pure rfl _ (fun E => ex_assign rfl (E.d 1 0)) ?_
              refine QSeq.nil (t' := [_, _, _]) rfl ?_
              obtain rfl := HA0.out
              clear HA0 oe11
              simp only [pz, Act.put, List.setIfInBounds_toArray, List.set_cons_zero, List.set_cons_succ]
              have hq := Hx33.out
              rw [range_snoc] at hq
              have HQ := Lib.hid hq
              clear hq
              go_wp2
              go_roundw
              case rel => exact ⟨k3 + 1, _, by go_num, by omega, by omega, Hx31.out, HQ.out.widen (by intro k h1; (try dsimp only at h1 ⊢); omega) (by intro k h1; (try dsimp only at h1 ⊢); omega), (HKX3_0.out.mod Cx32.out (by intro h2; omega)), (HMX3.out.trans Cx32.out (by intro k h1 h2; rcases h2 with h2 | h2 <;> first | exact h2 | omega))⟩
              case measure => simp [intOf]; omega
            · skip
              go_upto_region 22 with (fail)
              refine wp_region_U 122 [66, 67, 68] [0, 1, 2] (fun a0 HA0 => ?_)
              have oe0 := ev HA0 0 rfl
              have oe11 := ev HA0 11 rfl
              refine QSeq.pure rfl _ (fun E => ex_move rfl (E.v oe11)) ?_
              refine QSeq.pure rfl _ (fun E => ex_move rfl (E.v oe0)) ?_
              refine QSeq.pure rfl (.bool false) (fun E => ex_binE rfl (E.d 0 1) (E.d 1 0) (guard_ints _ _ _ _ _ _) (run_lss_i _ _ _ Try.underlying3) (congrArg Value.bool (decide_eq_false (by omega)))) ?_
              refine QSeq.nil (t' := [_, _, _]) rfl ?_
              obtain rfl := HA0.out
              clear HA0 oe0 oe11
              simp only [pz, Act.put, List.setIfInBounds_toArray, List.set_cons_zero, List.set_cons_succ]
              obtain rfl : k3 = N := by omega
              go_upto_region 25 with (fail)
              refine wp_region_U 122 [78, 79, 80, 81, 82, 83, 128] [0, 1, 2, 3, 4, 5, 6] (fun a0 HA0 => ?_)
              have oe6 := ev HA0 6 rfl
              have oe10 := ev HA0 10 rfl
              refine QSeq.pure rfl (.pointer (some ⟨u2_0.heap.size, 4, none⟩)) (fun E => ex_field rfl Try.underlying60 rfl (by kernel_rfl) (E.v oe6)) ?_
              refine QSeq.pure rfl _ (fun E => ex_load1 rfl Try.underlying58 rfl (E.d 0 0) (Cs.lit1 HKX3_0.out rfl)) ?_
              refine QSeq.pure rfl _ (fun E => ex_loadA rfl Try.underlying90 rfl (off := 0) (cs := [.int .i64 0, Value.slice ao ((List.range k3).map dnI).length cap]) (by kernel_rfl) (E.v oe10) (Cs.whole HBX3.out)) ?_
              refine QSeq.go fun act E => ?_
              refine qc_buildS (e := 90) (cs := [.int .i64 0, Value.slice ao ((List.range k3).map dnI).length cap]) (zc := [.int .i64 0, .slice none 0 0]) (sz := 2) rfl (wanted_none rfl) rfl Try.underlying58 (by kernel_rfl) rfl (by decide) (by decide) (E.d 2 0) rfl ?_
              intro u25_3 qrow hm
              have zl25_3 := qrow.lt
              have Hx35 := hid qrow
              have zu25_3 := hm.size
              have Cx36 := hid (show Mod (fun _ => False) wl3 u25_3 from hm)
              clear hm
              clear act E qrow
              refine QSeq.go fun act E => ?_
              refine qc_appS (A := TbR) (e := 90) rfl (wanted_none rfl) rfl (.agg #[.int .i64 0, .slice none 0 0]) 32 Try.underlying58 info_Tb (by rfl) (of_decide_eq_true (by kernel_rfl)) (E.d 1 2) (E.d 3 0) (OwS.nil _ _ (fun _ => False) (fun _ => False) _) (RdS.single (R := (fun k => (New u20_2 wl3 k) ∨ (k = wl3.heap.size))) Hx35.out (show TbR.rd _ _ [.int .i64 0, Value.slice ao ((List.range k3).map dnI).length cap] (Tb.mk 0 ((List.range k3).map dnI)) from ⟨_, rfl, I64_0, (HOX3.out.mod Cx36.out (fun _ _ h => h) (fun _ _ h => h)).rd.widen (by intro k h1; (try dsimp only at h1 ⊢); omega)⟩) (by right; rfl)) (fun _ _ h => h) (by simp only [List.length_nil, List.length_cons]; omega) (by rw [maxLen_val]; simp only [List.length_nil, List.length_cons]; omega) ?_
              intro ao7 cap7 u25_4 qown2 hm
              have Hx37 := hid (qown2.widen (R' := (fun k => (New u25_3 u25_4 k))) (E' := (fun k => (New u20_2 wl3 k) ∨ (k = wl3.heap.size))) (fun _ h => h.elim (fun h => h.elim) (fun h => h)) (by intro k h1; rcases h1 with h1 | (h1 | h1) <;> first | omega | exact h1.elim | exact Or.inl h1 | exact Or.inr (h1)))
              have zu25_4 := hm.size
              have HMu25_4 := hid hm
              have Cx38 := hid (Cx36.out.goE hm)
              clear hm Cx36
              clear act E qown2
              refine QSeq.pure rfl (.pointer (some ⟨u2_0.heap.size, 4, none⟩)) (fun E => ex_field rfl Try.underlying60 rfl (by kernel_rfl) (E.v oe6)) ?_
              refine QSeq.go fun act E => ?_
              refine qc_store rfl (wanted_none rfl) rfl (HKX3_0.out.mod Cx38.out (fun h => h)) (off := 4) (vs := [Value.slice ao7 (0 + 1) cap7]) (by kernel_rfl) one1 (by simp) (E.d 5 0) (ec (E.d 4 1)) ?_
              intro u25_6 qc0 hm
              have qB6 := qc0.eqv (b := #[.int .i64 1, .int .u64 2, .slice none 0 0, .slice none 0 0, Value.slice ao7 (0 + 1) cap7]) rfl
              clear qc0
              have Hx39 := hid qB6
              have zu25_6 := hm.size
              have HMu25_6 := hid hm
              have Cx40 := hid (Mod.goS (S' := (fun k => (k = u2_0.heap.size))) Cx38.out hm (fun _ h => h.elim) (by intro k h0 h2; exact h2))
              clear hm Cx38
              clear act E qB6 HKX3_0
              have Hx41 := hid ((Hx35.out.mod HMu25_4.out (fun h => h)).mod HMu25_6.out (by intro h2; omega))
              have Hx42 := hid (Hx37.out.mod HMu25_6.out (by intro k h1 h2; omega) (by intro k h1 h2; omega))
              clear Hx35 Hx37 HMu25_4 HMu25_6
              refine QSeq.nil (t' := [_, _, _, _, _, _, _]) rfl ?_
              obtain rfl := HA0.out
              clear HA0 oe6 oe10
              simp only [pz, Act.put, List.setIfInBounds_toArray, List.set_cons_zero, List.set_cons_succ, List.set_nil]
              go_wp2_with fail
              go_meet
              case rel => exact ⟨2, [.int .i64 1, .int .u64 2, .slice none 0 0, .slice none 0 0, Value.slice ao7 (0 + 1) cap7], Hx39.out, (show BaR.rd _ _ _ (Ba.mk 1 2 [] [] [(Tb.mk 0 ((List.range k3).map dnI))]) from ⟨_, _, _, rfl, okz, RdS.nil _ _ _, RdS.nil _ _ _, Hx42.out.rd.widen (by intro k h1; (try dsimp only at h1 ⊢); omega)⟩), (HMX3.out.trans Cx40.out (fun _ _ h => h))⟩
        · have K2 := Lib.hid h2
          clear h2
          go_upto_region 19 with (fail)
          refine wp_region_U 122 [64, 63] [0, 1] (fun a0 HA0 => ?_)
          have oe24 := ev HA0 24 rfl
          refine QSeq.pure rfl (.bool false) (fun E => ex_binE rfl (E.v oe24) rfl (guard_ints _ _ _ _ _ _) (run_eql_i _ _ _ Try.underlying3) (congrArg Value.bool (eq_ff K2.out))) ?_
          refine QSeq.pure rfl _ (fun E => ex_assign rfl (E.d 0 0)) ?_
          refine QSeq.nil (t' := [_, _]) rfl ?_
          obtain rfl := HA0.out
          clear HA0 oe24
          simp only [pz, Act.put, List.setIfInBounds_toArray, List.set_cons_zero, List.set_cons_succ]
          go_upto_region 8 with (fail)
          generalize ha0 : Act.mk _ _ = a0
          have oe0 : a0.eval (.tmp 0) = .int .i64 ((N : Nat) : Int) := by rw [← ha0]; rfl
          have oe6 : a0.eval (.tmp 6) = .pointer (some ⟨u2_0.heap.size, 0, none⟩) := by rw [← ha0]; rfl
          have hsz0 : a0.tmps.size = 122 := by rw [← ha0]; rfl
          have HA0 := hid ha0
          clear ha0
          refine wp_region_Q1 122 hsz0 [25, 26, 27, 28, 29, 30, 31, 32, 33, 34, 132] (fun k => (k = u2_0.heap.size)) (fun k j => (k = 4 ∧ ((j = u2_0.heap.size)))) (fun _ _ h => h.2) [qi (.pointer (some ⟨u2_0.heap.size, 3, none⟩)), qi (.slice none 0 0), qi (.int .i64 ((N : Nat) : Int)), qi (.int .i64 (((N : Nat) : Int) + 256)), qi (.int .i64 (((N + 156 : Nat) : Nat) : Int)), qv 0, qv 1, qv 2, qv 3, qi (.pointer (some ⟨u2_0.heap.size, 3, none⟩)), qv 4] ⟨qi_stable, qi_stable, qi_stable, qi_stable, qi_stable, qv_stable, qv_stable, qv_stable, qv_stable, qi_stable, qv_stable, trivial⟩ [5, 6, 7, 8, 10] ⟨?_, ?_, ?_, ?_, ?_, ?_, ?_, ?_, ?_, ?_, ?_, trivial⟩ ?_
          · exact stq (fun E => ex_field rfl Try.underlying60 rfl (by kernel_rfl) (E.v oe6))
          · refine stepq_env rfl rfl rfl fun _ _ _ _ _ _ hm0 _ _ hd hub _ => ?_
            have h0 := hd ⟨0, .data⟩ (by simp) rfl _ rfl
            refine qe_run rfl (wanted_none rfl) (ex_load1 rfl Try.underlying57 rfl h0 (Cs.lit1 (Hx5.out.mod hm0 (by intro h2; have hu := hub 4 10 rfl (by kernel_rfl); rcases h2 with ⟨h0, kk, hk, h2⟩ | h2 <;> omega)) rfl)) QE.refl ?_
            rfl
          · exact stq (fun E => ex_move rfl (E.v oe0))
          · exact stq (fun E => ex_binE rfl (E.d 2) rfl (guard_ints _ _ _ _ _ _) (run_add_i _ _ Try.underlying3) (congrArg (Value.int .i64) (IntWalk.i64_in _ (by have h9 := HN2.out; omega))))
          · exact stq (fun E => ex_binE rfl (E.d 3) rfl (guard_ints _ _ _ _ _ _) (run_sub_i _ _ Try.underlying3) (congrArg (Value.int .i64) ((IntWalk.i64_in _ (by have h9 := HN2.out; omega)).trans (show (((N : Nat) : Int) + 256) - 100 = (((N + 156 : Nat) : Nat) : Int) by omega))))
          · exact stepq_chain rfl
          · exact stepq_chain rfl
          · exact stepq_chain rfl
          · exact stepq_chain rfl
          · exact stq (fun E => ex_field rfl Try.underlying60 rfl (by kernel_rfl) (E.v oe6))
          · exact stepq_chain rfl
          intro u8_0 hr
          have zu8_0 := hr.size
          have Cx43 := hid (hr.new (S := (fun k => (k = u2_0.heap.size))))
          have Hx44 := hid (Hx5.out.mod hr (by intro h2; omega))
          clear Hx5
          clear hr
          refine QChain.go fun Z act E => ?_
          refine qc_makeB rfl (wanted_none rfl) rfl (n := N + 156) (E.d 4) (E.d 4) (by have h9 := HN2.out; omega) ?_
          intro u8_1a qpl hm
          have zl8_5 := qpl.lt
          have zu8_1a := hm.size
          refine ⟨hm.mono (fun _ _ h => h.elim), (fun _ => rfl), ?_⟩
          intro u8_1 hr
          have zu8_1 := hr.size
          have Hx45 := hid (qpl.mod hr (by intro h2; omega))
          have hmr := Mod.after hm hr
          have Hx46 := hid (Hx44.out.mod hmr (by intro h2; omega))
          clear Hx44
          clear hmr
          have Cx47 := hid (Cx43.out.go hm hr)
          clear Cx43 hm hr Z act E qpl
          refine QChain.go fun Z act E => ?_
          refine qc_run rfl (wanted_none rfl) (ex_build rfl (z := [.int .i64 0, .slice none 0 0, .int .u8 0, .int .u8 0, .int .u8 0, .int .u8 0, .int .u8 0, .int .u8 0, .int .u8 0, .int .u8 0, .int .u8 0, .int .u8 0, .int .u8 0, .int .u8 0, .int .u8 0, .int .u8 0, .int .u8 0, .int .u8 0, .int .u8 0, .int .u8 0, .int .u8 0, .int .u8 0, .int .u8 0, .int .u8 0, .int .u8 0, .int .u8 0, .int .u8 0, .int .u8 0, .int .u8 0, .int .u8 0, .int .u8 0, .int .u8 0, .int .u8 0, .int .u8 0]) (places := [(0, 1), (1, 1), (2, 32)]) (by kernel_rfl) (parts := [(1, .slice (some ⟨u8_0.heap.size, 0, none⟩) (N + 156) (N + 156))]) (by simp only [List.map_toArray, List.map_cons, List.map_nil, show act.eval (.tmp 30) = _ from (chv (v := .slice (some ⟨u8_0.heap.size, 0, none⟩) (N + 156) (N + 156)) (E.d 5))]; try rfl) (r := (opC 0 (Value.slice (some ⟨u8_0.heap.size, 0, none⟩) (N + 156) (N + 156)))) (by rfl)) ⟨Mod.refl _ _, (fun _ => rfl), ?_⟩
          intro u8_2 hr
          have zu8_2 := hr.size
          have Hx48 := hid (Hx46.out.mod hr (by intro h2; omega))
          have Hx49 := hid (Hx45.out.mod hr (by intro h2; omega))
          clear Hx46 Hx45
          have Cx50 := hid (Cx47.out.goR hr)
          clear Cx47 hr Z act E
          refine QChain.go fun Z act E => ?_
          refine qc_buildS (e := 87) (cs := (opC 0 (Value.slice (some ⟨u8_0.heap.size, 0, none⟩) (N + 156) (N + 156)))) (zc := [.int .i64 0, .slice none 0 0, .int .u8 0, .int .u8 0, .int .u8 0, .int .u8 0, .int .u8 0, .int .u8 0, .int .u8 0, .int .u8 0, .int .u8 0, .int .u8 0, .int .u8 0, .int .u8 0, .int .u8 0, .int .u8 0, .int .u8 0, .int .u8 0, .int .u8 0, .int .u8 0, .int .u8 0, .int .u8 0, .int .u8 0, .int .u8 0, .int .u8 0, .int .u8 0, .int .u8 0, .int .u8 0, .int .u8 0, .int .u8 0, .int .u8 0, .int .u8 0, .int .u8 0, .int .u8 0]) (sz := 34) rfl (wanted_none rfl) rfl Try.underlying57 (by kernel_rfl) rfl (by decide) (by decide) (chv (v := .agg ((opC 0 (Value.slice (some ⟨u8_0.heap.size, 0, none⟩) (N + 156) (N + 156))) : List Value).toArray) (E.d 6)) rfl ?_
          intro u8_3a qrow hm
          have zl8_7 := qrow.lt
          have zu8_3a := hm.size
          refine ⟨hm.mono (fun _ _ h => h.elim), (fun _ => rfl), ?_⟩
          intro u8_3 hr
          have zu8_3 := hr.size
          have Hx51 := hid (qrow.mod hr (by intro h2; omega))
          have hmr := Mod.after hm hr
          have Hx52 := hid (Hx48.out.mod hmr (by intro h2; omega))
          have Hx53 := hid (Hx49.out.mod hmr (by intro h2; omega))
          clear Hx48 Hx49
          clear hmr
          have Cx54 := hid (Cx50.out.go hm hr)
          clear Cx50 hm hr Z act E qrow
          refine QChain.go fun Z act E => ?_
          refine qc_appS (A := OpR) (e := 87) rfl (wanted_none rfl) rfl (.agg #[.int .i64 0, .slice none 0 0, .int .u8 0, .int .u8 0, .int .u8 0, .int .u8 0, .int .u8 0, .int .u8 0, .int .u8 0, .int .u8 0, .int .u8 0, .int .u8 0, .int .u8 0, .int .u8 0, .int .u8 0, .int .u8 0, .int .u8 0, .int .u8 0, .int .u8 0, .int .u8 0, .int .u8 0, .int .u8 0, .int .u8 0, .int .u8 0, .int .u8 0, .int .u8 0, .int .u8 0, .int .u8 0, .int .u8 0, .int .u8 0, .int .u8 0, .int .u8 0, .int .u8 0, .int .u8 0]) 64 Try.underlying57 info_Op (by rfl) (of_decide_eq_true (by kernel_rfl)) (E.d 1) (chv (v := .slice (some ⟨u8_2.heap.size, 0, none⟩) 1 1) (E.d 7)) (OwS.nil _ _ (fun _ => False) (fun _ => False) _) (RdS.single (R := (fun k => (k = u8_0.heap.size) ∨ (k = u8_2.heap.size))) Hx51.out (show OpR.rd (fun k => (k = u8_0.heap.size) ∨ (k = u8_2.heap.size)) _ (opC 0 (Value.slice (some ⟨u8_0.heap.size, 0, none⟩) (N + 156) (N + 156))) (Op.mk 0 (List.replicate (N + 156) 0) zH) from ⟨_, rfl, ⟨I64_0, HK_zero⟩, RdR_made Hx53.out (by first | (left; rfl) | (right; rfl) | rfl) (by have h9 := HN2.out; omega)⟩) (by right; rfl)) (fun _ _ h => h) (by simp only [List.length_nil, List.length_cons]; omega) (by rw [maxLen_val]; simp only [List.length_nil, List.length_cons]; omega) ?_
          intro ao9 cap9 u8_4a qown2 hm
          have zu8_4a := hm.size
          refine ⟨hm.mono (fun _ _ h => h.elim), (fun _ => rfl), ?_⟩
          intro u8_4 hr
          have zu8_4 := hr.size
          have Hx55 := hid ((qown2.widen (R' := (fun k => (New u8_3 u8_4a k))) (E' := (fun k => (k = u8_0.heap.size) ∨ (k = u8_2.heap.size))) (fun _ h => h.elim (fun h => h.elim) (fun h => h)) (by intro k h1; rcases h1 with h1 | (h1 | h1) <;> first | omega | exact h1.elim | exact Or.inl h1 | exact Or.inr (h1))).mod hr (by intro k h1 h2; omega) (by intro k h1 h2; omega))
          have hmr := Mod.after hm hr
          have Hx56 := hid (Hx52.out.mod hmr (by intro h2; omega))
          have Hx57 := hid (Hx53.out.mod hmr (by intro h2; omega))
          have Hx58 := hid (Hx51.out.mod hmr (by intro h2; omega))
          clear Hx52 Hx53 Hx51
          clear hmr
          have Cx59 := hid (Cx54.out.go hm hr)
          clear Cx54 hm hr Z act E qown2
          refine QChain.go fun Z act E => ?_
          refine qc_store rfl (wanted_none rfl) rfl Hx56.out (off := 3) (vs := [Value.slice ao9 (0 + 1) cap9]) (by kernel_rfl) (by intro u hu; simp at hu; subst hu; rfl) (by simp) (E.d 9) (by rw [show act.eval ((.tmp 33)) = _ from (chv (v := .slice ao9 (0 + 1) cap9) (E.d 8))]; rfl) ?_
          intro u8_5a qc0 hm
          have qB6 : Cs u8_5a (u2_0.heap.size) #[.int .i64 1, .int .u64 2, .slice none 0 0, Value.slice ao9 (0 + 1) cap9, .slice none 0 0] 60 := by rw [show lay _ 3 _ = #[.int .i64 1, .int .u64 2, .slice none 0 0, Value.slice ao9 (0 + 1) cap9, .slice none 0 0] from rfl] at qc0; exact qc0
          clear qc0
          have zu8_5a := hm.size
          refine ⟨hm.mono (by intro k hk h; omega), (fun _ => rfl), ?_⟩
          intro u8_5 hr
          have zu8_5 := hr.size
          have Hx60 := hid (qB6.mod hr (by intro h2; omega))
          have hmr := hm.two hr
          have Hx61 := hid (Hx57.out.mod hmr (by intro h2; omega))
          have Hx62 := hid (Hx58.out.mod hmr (by intro h2; omega))
          have Hx63 := hid (Hx55.out.mod hmr (by intro k h1 h2; omega) (by intro k h1 h2; omega))
          clear Hx57 Hx58 Hx55
          clear hmr
          have Cx64 := hid (Cx59.out.goM hm hr (fun _ _ h => h))
          clear Cx59 hm hr Z act E qB6 Hx56
          refine QChain.nil fun vs hl hzz hrows hne => ?_
          obtain ⟨Z, hYZ, hZb, hV⟩ := hzz
          have f2 := fvi hV hl 2
          have f5 := fvc hV hl 5
          have f6 := fvc hV hl 6
          have f7 := fvc hV hl 7
          have f8 := fvc hV hl 8
          rw [show vs = [gw vs 0, gw vs 1, gw vs 2, gw vs 3, gw vs 4, gw vs 5, gw vs 6, gw vs 7, gw vs 8, gw vs 9, gw vs 10] from (gw_eta hl).trans rfl]
          have ha0 := HA0.out
          subst ha0
          clear HA0 hV hYZ hZb hsz0 hrows hne oe0 oe6
          simp only [putAll, Act.put, List.setIfInBounds_toArray, List.set_cons_zero, List.set_cons_succ, List.set_nil, f2, f5, f6, f7, f8]
          clear hl f2 f5 f6 f7 f8
          go_wp2_with fail
          go_meet
          case rel => exact ⟨3, [.int .i64 1, .int .u64 2, .slice none 0 0, Value.slice ao9 (0 + 1) cap9, .slice none 0 0], Hx60.out, (show BaR.rd _ _ _ (Ba.mk 1 2 [] [(Op.mk 0 (List.replicate (N + 156) 0) zH)] []) from ⟨_, _, _, rfl, okz, RdS.nil _ _ _, Hx63.out.rd.widen (by intro k h1; (try dsimp only at h1 ⊢); omega), RdS.nil _ _ _⟩), (hmz.out.trans Cx64.out (fun _ _ h => h))⟩
  case rest =>
    obtain ⟨wq, rfl⟩ : ∃ x, x = wc := ⟨_, rfl⟩
    obtain ⟨k, dc, hb6, hrd, hm⟩ := hcut
    have zwq := hm.size
    have HB6 := Lib.hid hb6
    have HRD := Lib.hid hrd
    have HDC := hid (show dc.length = 5 from BaR.len hrd)
    clear hb6 hrd
    clear Hx5
    have Hx65 := hid (((HM0.out.trans Cx2.out (fun _ _ h => h.elim)).trans Cx6.out (fun _ _ h => h.elim)).trans hm (by intro k h1 h2; omega))
    have Hx66 := hid ((Hx1.out.mod Cx6.out (fun _ _ h => h)).mod hm (by intro k h1 h2; omega))
    clear HM0 Hx1
    clear hm
    have HLN := hid (baL_len k HN2.out.2)
    obtain ⟨x, hx⟩ : ∃ x, x = baL k N := ⟨_, rfl⟩
    have HX := Lib.hid hx
    rw [← hx] at HRD HLN
    clear hx
    have HLB := hid (show ([] ++ baB x).length ≤ 900000 from HLN.out)
    go_upto_region 26 with (fail)
    refine wp_region_U 122 [84, 85, 86] [0, 1, 2] (fun a0 HA0 => ?_)
    have oe5 := ev HA0 5 rfl
    have oe6 := ev HA0 6 rfl
    refine QSeq.pure rfl _ (fun E => ex_move rfl (E.v oe5)) ?_
    refine QSeq.pure rfl _ (fun E => ex_loadA rfl Try.underlying60 rfl (off := 0) (cs := dc) (by rw [HDC.out]; kernel_rfl) (E.v oe6) (Cs.whole HB6.out)) ?_
    refine QSeq.call rfl rfl Try.func47 (WPutBa_Q _ _ _ _ _ x _ Hx66.out (by intro k h1; omega) HRD.out (by intro k h1; omega) (by intro k h1 h2; omega) HLB.out) (fun E => args2 (E.d 0 1) (E.d 1 0)) ?_
    rintro e u26_2 ⟨rfl, qwr1, hm⟩
    refine ⟨_, rfl, ?_⟩
    have Hx67 := hid (qwr1.widen (R' := (fun k => (New w u2_0 k) ∨ (New wq u26_2 k))) (fun _ h => h) (Nat.le_refl _))
    have zu26_2 := hm.size
    have Cx68 := hid (show Mod (fun k => (New w u2_0 k)) wq u26_2 from hm)
    clear hm
    clear qwr1 Hx66
    refine QSeq.nil (t' := [_, _, _]) rfl ?_
    obtain rfl := HA0.out
    clear HA0 oe5 oe6
    simp only [pz, Act.put, List.setIfInBounds_toArray, List.set_cons_zero, List.set_cons_succ]
    go_upto_region 27 with (fail)
    refine wp_region_U 122 [87, 88, 89, 12] [0, 1, 2, 3] (fun a0 HA0 => ?_)
    have oe5 := ev HA0 5 rfl
    refine QSeq.pure rfl _ (fun E => ex_move rfl (E.v oe5)) ?_
    refine QSeq.call rfl rfl Try.func50 (WBytes_Q Hx67.out) (fun E => args1 (E.d 0 0)) ?_
    rintro e u27_1 ⟨v_a1, rfl, qa1, hm⟩
    obtain ⟨ao_a1, cap_a1, rfl⟩ := qa1.shape
    refine ⟨_, rfl, ?_⟩
    have Hx69 := hid qa1
    have zu27_1 := hm.size
    have Cx70 := hid (show Mod (fun _ => False) u26_2 u27_1 from hm)
    clear hm
    clear qa1
    refine QSeq.call rfl rfl Try.func28 (NewReader_R Hx69.out.rd (by decide)) (fun E => args1 (E.d 1 0)) ?_
    rintro e u27_2 ⟨r1, rfl, qrd1, hm⟩
    refine ⟨_, rfl, ?_⟩
    have Hx71 := hid qrd1
    have zu27_2 := hm.size
    have HMu27_2 := hid hm
    have Cx72 := hid (Cx70.out.goE hm)
    clear hm Cx70
    clear qrd1
    refine QSeq.pure rfl _ (fun E => ex_assign rfl (E.d 2 0)) ?_
    have Hx73 := hid (Hx69.out.mod HMu27_2.out (fun _ _ h => h))
    clear Hx69 HMu27_2
    refine QSeq.nil (t' := [_, _, _, _]) rfl ?_
    obtain rfl := HA0.out
    clear HA0 oe5
    simp only [pz, Act.put, List.setIfInBounds_toArray, List.set_cons_zero, List.set_cons_succ]
    clear Hx67
    clear Hx73
    have HRB := hid (show (gW zBa gBa (some (baB x))).1 = (if N ≤ 100 then x else zBa) ∧ (gW zBa gBa (some (baB x))).2 = (if N ≤ 100 then some [] else none) by have h := baL_read k (n := N) (by have h9 := HN2.out; omega); rw [← HX.out] at h; exact h)
    obtain ⟨y, hy⟩ : ∃ y, y = (if N ≤ 100 then x else zBa) := ⟨_, rfl⟩
    obtain ⟨st, hst⟩ : ∃ st : RSt, st = (if N ≤ 100 then some [] else none) := ⟨_, rfl⟩
    rw [← hy, ← hst] at HRB
    have HY := Lib.hid hy
    have HS := Lib.hid hst
    clear hy hst
    go_upto_region 30 with (fail)
    refine wp_region_U 122 [92, 93, 13, 125] [0, 1, 2, 3] (fun a0 HA0 => ?_)
    have oe12 := ev HA0 12 rfl
    refine QSeq.pure rfl _ (fun E => ex_move rfl (E.v oe12)) ?_
    refine QSeq.call rfl rfl Try.func37 ((Wire_Ba).to HRB.out.1 HRB.out.2 Hx71.out (by intro k h1; omega) HLN.out) (fun E => args1 (E.d 0 0)) ?_
    rintro e u30_1 ⟨ey, rfl, qyy, qrd1, hm⟩
    have HM9 := hid (BaR.len qyy)
    have HP9 := hid (BaR.one qyy)
    refine ⟨_, rfl, ?_⟩
    have Hx74 := hid qyy
    have Hx75 := hid qrd1
    have zu30_1 := hm.size
    have Cx76 := hid (show Mod (fun k => (New u27_1 u27_2 k)) u27_2 u30_1 from hm)
    clear hm
    clear qyy qrd1 Hx71
    refine QSeq.go fun act E => ?_
    refine qc_alloc rfl (wanted_none rfl) rfl (z := [.int .i64 0, .int .u64 0, .slice none 0 0, .slice none 0 0, .slice none 0 0]) (by kernel_rfl) ?_
    intro u30_2 qB13 hm
    have zl30_2 := qB13.lt
    have Hx77 := hid qB13
    have zu30_2 := hm.size
    have HMu30_2 := hid hm
    have Cx78 := hid (Cx76.out.goE hm)
    clear hm Cx76
    clear act E qB13
    refine QSeq.go fun act E => ?_
    refine qc_store rfl (wanted_none rfl) rfl Hx77.out (off := 0) (vs := ey) (by rw [HM9.out]; kernel_rfl) HP9.out (by rw [HM9.out]; decide) (E.d 2 0) (ec (E.d 1 1)) ?_
    intro u30_3 qc0 hm
    have qB13 := qc0.eqv (b := (ey : List Value).toArray) (lay_whole _ _ (by rw [HM9.out]; rfl))
    clear qc0
    have Hx79 := hid qB13
    have zu30_3 := hm.size
    have HMu30_3 := hid hm
    have Cx80 := hid (Mod.goS (S' := (fun k => (New u27_1 u27_2 k))) Cx78.out hm (fun _ h => h) (by intro k h0 h2; omega))
    clear hm Cx78
    clear act E qB13 Hx77
    have Hx81 := hid ((Hx75.out.mod HMu30_2.out (fun _ _ h => h)).mod HMu30_3.out (by intro k h1 h2; omega))
    have Hx82 := hid ((Hx74.out.mod HMu30_2.out (fun _ _ h => h)).mod HMu30_3.out (by intro k h1 h2; omega))
    clear Hx75 Hx74 HMu30_2 HMu30_3
    refine QSeq.nil (t' := [_, _, _, _]) rfl ?_
    obtain rfl := HA0.out
    clear HA0 oe12
    simp only [pz, Act.put, List.setIfInBounds_toArray, List.set_cons_zero, List.set_cons_succ, List.set_nil]
    by_cases hN : N ≤ 100
    · skip
      rw [if_pos hN] at HY HS
      obtain rfl := HY.out
      obtain rfl := HS.out
      obtain rfl : bk = true := HBK.out.trans (decide_eq_true (by omega))
      go_upto_region 31 with (fail)
      refine wp_region_U 122 [94, 95] [0, 1] (fun a0 HA0 => ?_)
      have oe7 := ev HA0 7 rfl
      refine QSeq.pure rfl _ (fun E => ex_move rfl (E.v oe7)) ?_
      refine QSeq.pure rfl (.bool false) (fun E => ex_not rfl (E.d 0 0)) ?_
      refine QSeq.nil (t' := [_, _]) rfl ?_
      obtain rfl := HA0.out
      clear HA0 oe7
      simp only [pz, Act.put, List.setIfInBounds_toArray, List.set_cons_zero, List.set_cons_succ]
      go_upto_region 33 with (fail)
      refine wp_region_U 122 [107, 108, 109, 110, 111, 112, 113, 114, 115, 116, 117, 118, 119, 120, 121, 4] [0, 1, 2, 3, 4, 5, 6, 7, 8, 9, 10, 11, 12, 13, 14, 15] (fun a0 HA0 => ?_)
      have oe6 := ev HA0 6 rfl
      have oe12 := ev HA0 12 rfl
      have oe13 := ev HA0 13 rfl
      refine QSeq.pure rfl _ (fun E => ex_move rfl (E.v oe12)) ?_
      refine QSeq.go fun act E => ?_
      refine qc_callF (args := #[.pointer (some ⟨r1, 0, none⟩)]) rfl (wanted_none rfl) rfl Try.func39 (args1 (E.d 0 0)) (OK_R Hx81.out) ?_
      rintro e w2 ⟨rfl, hw2⟩
      obtain rfl : u30_3 = w2 := by first | exact hw2 | exact hw2.symm
      refine ⟨_, rfl, ?_⟩
      clear act E
      refine QSeq.pure rfl _ (fun E => ex_move rfl (E.d 1 0)) ?_
      refine QSeq.pureG rfl (.agg ey.toArray) (fun E => ((wanted_of rfl rfl (E.sz 109 (by decide)) (E.d 2 0)).trans rfl)) (fun E => ex_loadA rfl Try.underlying60 rfl (off := 0) (cs := ey) (by rw [HM9.out]; kernel_rfl) (E.v oe13) (Cs.whole Hx79.out)) ?_
      refine QSeq.pureG rfl (.agg dc.toArray) (fun E => ((wanted_of rfl rfl (E.sz 109 (by decide)) (E.d 2 1)).trans rfl)) (fun E => ex_loadA rfl Try.underlying60 rfl (off := 0) (cs := dc) (by rw [HDC.out]; kernel_rfl) (E.v oe6) (Cs.whole (((HB6.out.mod Cx68.out (by intro h2; omega)).mod Cx72.out (fun h => h)).mod Cx80.out (by intro h2; omega)))) ?_
      refine QSeq.go fun act E => ?_
      refine qc_callF (args := #[.agg ey.toArray, .agg dc.toArray]) rfl ((wanted_of rfl rfl (E.sz 109 (by decide)) (E.d 2 2)).trans rfl) rfl Try.func36 (args2 (E.d 3 1) (E.d 4 0)) (Eqs.same Eq_Ba Hx82.out (((HRD.out.mod Cx68.out (by intro k h1 h2; omega)).mod Cx72.out (fun _ _ h => h)).mod Cx80.out (by intro k h1 h2; omega)) (by intro k h1; omega) (by intro k h1; omega)) ?_
      rintro e u33_5 ⟨rfl, hm⟩
      refine ⟨_, rfl, ?_⟩
      have zu33_5 := hm.size
      have Cx83 := hid (show Mod (fun _ => False) u30_3 u33_5 from hm)
      clear hm
      clear act E
      refine QSeq.pure rfl (.bool true) (fun E => ex_pick rfl (E.d 2 3) (E.d 5 0) rfl) ?_
      refine QSeq.pure rfl _ (fun E => ex_move rfl (E.d 6 0)) ?_
      refine QSeq.pureG rfl (.pointer (some ⟨r1, 0, none⟩)) (fun E => ((wanted_of rfl rfl (E.sz 114 (by decide)) (E.d 7 0)).trans rfl)) (fun E => ex_move rfl (E.v oe12)) ?_
      refine QSeq.go fun act E => ?_
      refine qc_callF (args := #[.pointer (some ⟨r1, 0, none⟩)]) rfl ((wanted_of rfl rfl (E.sz 114 (by decide)) (E.d 7 1)).trans rfl) rfl Try.func40 (args1 (E.d 8 0)) (Left_R (Hx81.out.mod Cx83.out (fun _ _ h => h))) ?_
      rintro e w2 ⟨rfl, hw2⟩
      obtain rfl : u33_5 = w2 := by first | exact hw2 | exact hw2.symm
      refine ⟨_, rfl, ?_⟩
      clear act E
      refine QSeq.pureG rfl (.bool true) (fun E => ((wanted_of rfl rfl (E.sz 114 (by decide)) (E.d 7 2)).trans rfl)) (fun E => ex_binE rfl (E.d 9 0) rfl (guard_ints _ _ _ _ _ _) (run_eql_i _ _ _ Try.underlying3) (congrArg Value.bool rfl)) ?_
      refine QSeq.pure rfl (.bool true) (fun E => ex_pick rfl (E.d 7 3) (E.d 10 0) rfl) ?_
      refine QSeq.pure rfl _ (fun E => ex_move rfl (E.d 11 0)) ?_
      refine QSeq.go fun act E => ?_
      refine qc_callF (args := #[]) rfl ((wanted_of rfl rfl (E.sz 119 (by decide)) (E.d 12 0)).trans rfl) rfl Try.func19 args0 (wakes05 _) ?_
      rintro e u33_13 ⟨rfl, hm⟩
      refine ⟨_, rfl, ?_⟩
      have zu33_13 := hm.size
      have HMu33_13 := hid hm
      have Cx84 := hid (Cx83.out.goE hm)
      clear hm Cx83
      clear act E
      refine QSeq.pure rfl (.bool true) (fun E => ex_pick rfl (E.d 12 1) (E.d 13 0) rfl) ?_
      refine QSeq.pure rfl _ (fun E => ex_assign rfl (E.d 14 0)) ?_
      clear HMu33_13
      refine QSeq.nil (t' := [_, _, _, _, _, _, _, _, _, _, _, _, _, _, _, _]) rfl ?_
      obtain rfl := HA0.out
      clear HA0 oe6 oe12 oe13
      simp only [pz, Act.put, List.setIfInBounds_toArray, List.set_cons_zero, List.set_cons_succ]
      go_wp2
      go_ret
      exact ⟨rfl, ((((Hx65.out.trans Cx68.out (by intro k h1 h2; omega)).trans Cx72.out (fun _ _ h => h.elim)).trans Cx80.out (by intro k h1 h2; omega)).trans Cx84.out (fun _ _ h => h.elim))⟩
    · skip
      rw [if_neg hN] at HY HS
      obtain rfl := HY.out
      obtain rfl := HS.out
      obtain rfl : bk = false := HBK.out.trans (decide_eq_false (by omega))
      go_upto_region 31 with (fail)
      refine wp_region_U 122 [94, 95] [0, 1] (fun a0 HA0 => ?_)
      have oe7 := ev HA0 7 rfl
      refine QSeq.pure rfl _ (fun E => ex_move rfl (E.v oe7)) ?_
      refine QSeq.pure rfl (.bool true) (fun E => ex_not rfl (E.d 0 0)) ?_
      refine QSeq.nil (t' := [_, _]) rfl ?_
      obtain rfl := HA0.out
      clear HA0 oe7
      simp only [pz, Act.put, List.setIfInBounds_toArray, List.set_cons_zero, List.set_cons_succ]
      go_upto_region 32 with (fail)
      refine wp_region_U 122 [96, 97, 98, 99, 100, 101, 102, 103, 104, 105, 106, 4] [0, 1, 2, 3, 4, 5, 6, 7, 8, 9, 10, 11] (fun a0 HA0 => ?_)
      have oe12 := ev HA0 12 rfl
      have oe13 := ev HA0 13 rfl
      refine QSeq.pure rfl _ (fun E => ex_move rfl (E.v oe12)) ?_
      refine QSeq.go fun act E => ?_
      refine qc_callF (args := #[.pointer (some ⟨r1, 0, none⟩)]) rfl (wanted_none rfl) rfl Try.func39 (args1 (E.d 0 0)) (OK_R Hx81.out) ?_
      rintro e w2 ⟨rfl, hw2⟩
      obtain rfl : u30_3 = w2 := by first | exact hw2 | exact hw2.symm
      refine ⟨_, rfl, ?_⟩
      clear act E
      refine QSeq.pure rfl (.bool true) (fun E => ex_not rfl (E.d 1 0)) ?_
      refine QSeq.pure rfl _ (fun E => ex_move rfl (E.d 2 0)) ?_
      refine QSeq.pureG rfl (.agg ey.toArray) (fun E => ((wanted_of rfl rfl (E.sz 99 (by decide)) (E.d 3 0)).trans rfl)) (fun E => ex_loadA rfl Try.underlying60 rfl (off := 0) (cs := ey) (by rw [HM9.out]; kernel_rfl) (E.v oe13) (Cs.whole Hx79.out)) ?_
      refine QSeq.pureG rfl (.agg #[.int .i64 0, .int .u64 0, .slice none 0 0, .slice none 0 0, .slice none 0 0]) (fun E => ((wanted_of rfl rfl (E.sz 99 (by decide)) (E.d 3 1)).trans rfl)) (fun E => ex_build0 rfl (r := #[.int .i64 0, .int .u64 0, .slice none 0 0, .slice none 0 0, .slice none 0 0]) (by kernel_rfl)) ?_
      refine QSeq.go fun act E => ?_
      refine qc_callF (args := #[.agg ey.toArray, .agg #[.int .i64 0, .int .u64 0, .slice none 0 0, .slice none 0 0, .slice none 0 0]]) rfl ((wanted_of rfl rfl (E.sz 99 (by decide)) (E.d 3 2)).trans rfl) rfl Try.func36 (args2 (E.d 4 1) (E.d 5 0)) (Eqs.same Eq_Ba Hx82.out (zBa_rd (fun _ => False) _) (by intro k h1; omega) (fun _ h => h.elim)) ?_
      rintro e u32_6 ⟨rfl, hm⟩
      refine ⟨_, rfl, ?_⟩
      have zu32_6 := hm.size
      have Cx85 := hid (show Mod (fun _ => False) u30_3 u32_6 from hm)
      clear hm
      clear act E
      refine QSeq.pure rfl (.bool true) (fun E => ex_pick rfl (E.d 3 3) (E.d 6 0) rfl) ?_
      refine QSeq.pure rfl _ (fun E => ex_move rfl (E.d 7 0)) ?_
      refine QSeq.go fun act E => ?_
      refine qc_callF (args := #[]) rfl ((wanted_of rfl rfl (E.sz 104 (by decide)) (E.d 8 0)).trans rfl) rfl Try.func19 args0 (wakes05 _) ?_
      rintro e u32_9 ⟨rfl, hm⟩
      refine ⟨_, rfl, ?_⟩
      have zu32_9 := hm.size
      have HMu32_9 := hid hm
      have Cx86 := hid (Cx85.out.goE hm)
      clear hm Cx85
      clear act E
      refine QSeq.pure rfl (.bool true) (fun E => ex_pick rfl (E.d 8 1) (E.d 9 0) rfl) ?_
      refine QSeq.pure rfl _ (fun E => ex_assign rfl (E.d 10 0)) ?_
      clear HMu32_9
      refine QSeq.nil (t' := [_, _, _, _, _, _, _, _, _, _, _, _]) rfl ?_
      obtain rfl := HA0.out
      clear HA0 oe12 oe13
      simp only [pz, Act.put, List.setIfInBounds_toArray, List.set_cons_zero, List.set_cons_succ]
      go_wp2
      go_ret
      exact ⟨rfl, ((((Hx65.out.trans Cx68.out (by intro k h1 h2; omega)).trans Cx72.out (fun _ _ h => h.elim)).trans Cx80.out (by intro k h1 h2; omega)).trans Cx86.out (fun _ _ h => h.elim))⟩
end Go.Proofs.Ytknpapcfhnhheaa

/- Pairs, commitments as arguments. -/
namespace Go.Proofs.Ytknpapcfhnhheaa
open Go Go.RowKit Go.Gv Go.ChangeShapes Go.WideShapes Go.ChangeAt Go.Deep

section
variable {H : Type} {enc : TypeId × Value → H} {W : World}
end
end Go.Proofs.Ytknpapcfhnhheaa

/- Things as arguments: whatever a reading gives of them. -/
namespace Go.Proofs.Ytknpapcfhnhheaa
open Go Go.RowKit Go.Gv Go.ChangeShapes Go.WideShapes Go.ChangeAt Go.Deep

def segs (cs : List Value) : Nat → List Nat → List (List Value)
  | _, [] => []
  | off, n :: ns => (cs.drop off).take n :: segs cs (off + n) ns
end Go.Proofs.Ytknpapcfhnhheaa

/- Proposals as arguments. -/
namespace Go.Proofs.Ytknpapcfhnhheaa
open Go Go.RowKit Go.Gv Go.ChangeShapes Go.WideShapes Go.ChangeAt Go.Deep

end Go.Proofs.Ytknpapcfhnhheaa

namespace Go.Proofs.Ytknpapcfhnhheaa.wireLimits
open Go Go.RowKit Go.Gv Go.ChangeShapes Go.WideShapes Go.ChangeAt
open Go.ChangeMaps (open_string shut_string)

theorem own : ownKnob Try.prog.godebug = none := by kernel_rfl
theorem laidOut : laidOutB Try.prog = true := by kernel_rfl

theorem lifted (os : Os) (started : os.Started) (H : Type) (enc : TypeId × Value → H) :
    ReturnsInHanded {} Try.checked os 7 .any (Rows.wireLimitsSpec.pre6 enc Try.prog Try.f7 Rows.wireLimitsRow.domain false) (Rows.wireLimitsSpec.post enc Try.prog Try.f7 false true false false) := by
  refine returnsInHanded_of_change (C := Try.checked) own started (by kernel_rfl) Try.func7
    (ChangeSpec.witness6 (enc := enc) (C := Try.checked) false ⟨#[], #[.int .i64 0, .int .i64 0], []⟩ 8 (by kernel_rfl) (by kernel_rfl) (by kernel_rfl) (by kernel_rfl)) ?_
  intro W base args ds gs before hval0 hW hcnd _
  have hval : ∀ (j : Nat) t v, Try.f7.params[j]? = some t → args[j]? = some v → Value.okWide Try.prog W .any base t v := hval0
  have hW' := hW
  obtain ⟨p, q, hA0, hV, rfl, hfz, hnd⟩ := hW
  have hA : DataW.TrodAll enc Try.prog W 0 (fun _ => true) true Try.f7.params.toList args.toList ds p := hA0
  rw [Try.params7] at hA hval
  obtain ⟨v0, vs0, d0, ds0, p0, q0, hargs, rfl, rfl, h0, r0⟩ := trodAll_cons hA
  obtain ⟨v1, vs1, d1, ds1, p1, q1, rfl, rfl, rfl, h1, r1⟩ := trodAll_cons r0
  obtain ⟨rfl, rfl, rfl⟩ := trodAll_nil r1
  obtain rfl : args = #[v0, v1] := by cases args; simp_all
  obtain ⟨rfl, rfl⟩ := trodVars_none hV
  have k0 := h0
  have lt0 : ∀ x ∈ p0, x.block < W.heap.size := by obtain ⟨m, hm⟩ := k0; exact DataW.trod_lt m _ _ _ hm
  have k1 := h1
  have lt1 : ∀ x ∈ p1, x.block < W.heap.size := by obtain ⟨m, hm⟩ := k1; exact DataW.trod_lt m _ _ _ hm
  obtain ⟨a0, rfl, rfl, rfl, w0⟩ := open_int Try.underlying3 (hval 0 3 v0 rfl rfl) h0
  obtain ⟨a1, rfl, rfl, rfl, w1⟩ := open_int Try.underlying3 (hval 1 3 v1 rfl rfl) h1
  clear hA0 hval0
  refine (LLimits_any a0 a1 W (i64_bd w0) (i64_bd w1)).mono fun e W' ⟨he, hmod⟩ => ?_
  subst he
  have bel : Below W.heap.size W W' := hmod.below (Nat.le_refl _) (fun _ _ => id)
  exact ⟨_, rfl, _, _, _, [], _, [], hW', trodAll_mk1 (shut_bool Try.underlying4 _), (trodAll_cons_mk (Below.trod laidOut (by kernel_rfl) (of_decide_eq_true (by kernel_rfl)) k0 bel lt0) (trodAll_cons_mk (Below.trod laidOut (by kernel_rfl) (of_decide_eq_true (by kernel_rfl)) k1 bel lt1) trodAll_mk0)), rfl, bel.frame _, fun h => by cases h⟩

theorem over : Rows.wireLimitsRow.holds Try.pinned (OpenSpec.ofChange Rows.wireLimitsSpec) :=
  OpenClaim.holds_of_wide 7 Try.f7 rfl rfl rfl rfl rfl rfl rfl ⟨rfl, rfl, rfl, rfl, rfl⟩ rfl rfl rfl rfl rfl (by kernel_rfl) Try.func7 (by kernel_rfl)
    (of_decide_eq_true (by kernel_rfl)) (by unfold Func.isWrapper; first | (rw [if_pos (by decide +kernel)]; kernel_rfl) | (rw [if_neg (by decide +kernel)]; exact ⟨rfl, rfl⟩))
    (fun os started H enc _ => lifted os started H enc)

theorem proved : Rows.WireLimitsSaid := over
end Go.Proofs.Ytknpapcfhnhheaa.wireLimits
