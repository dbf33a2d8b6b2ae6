/- WalTrue: wherever the disk crashes, opened again the log has a beginning of what was put, with all that was put well, and at most one more: for every list of calls the law returns true. No condition. -/
import Derived.Test.YthojipjleajajaaWaT3
import Derived.ProofKit
import Derived.OpenShut
import Derived.ChangeOld
set_option maxRecDepth 100000
set_option linter.unusedVariables false
/- WalTrue: the walk. -/
namespace Go.Proofs.Ythojipjleajajaa
open Go Go.RowKit Go.Gv

set_option maxHeartbeats 16000000 in
theorem WalTrue_walk (l : List Ac) (vl : Value) (w : World) (hl : RdS AcR (fun k => k < w.heap.size) w vl l) :
    Calls Try.prog 7 #[vl] w fun e w' => e = .returned (.bool true) ∧ Mod (fun _ => False) w w' := by
  obtain ⟨ao, cap, rfl⟩ := hl.shape
  have HL := Lib.hid hl
  clear hl
  go_enter Try.func7, Try.ntmps7
  go_upto_region 1 with (fail)
  have HM0 := hid (Mod.refl (fun _ => False) w)
  go_upto_region 1 with (fail)
  refine wp_region_U 145 [12, 3] [0, 1] (fun a0 HA0 => ?_)
  refine QSeq.call rfl rfl Try.func8 (New_R _) (fun E => args0) ?_
  rintro e u1_0 ⟨p, rfl, qdk, hm⟩
  refine ⟨_, rfl, ?_⟩
  have Hx1 := hid qdk
  have zu1_0 := hm.size
  have Cx2 := hid (show Mod (fun _ => False) w u1_0 from hm)
  clear hm
  clear qdk
  refine QSeq.pure rfl _ (fun E => ex_assign rfl (E.d 0 0)) ?_
  refine QSeq.nil (t' := [_, _]) rfl ?_
  obtain rfl := HA0.out
  clear HA0
  simp only [pz, Act.put, List.setIfInBounds_toArray, List.set_cons_zero, List.set_cons_succ]
  go_upto_region 2 with (fail)
  refine wp_region_U 145 [13, 14] [0, 1] (fun a0 HA0 => ?_)
  have oe3 := ev HA0 3 rfl
  refine QSeq.pure rfl _ (fun E => ex_move rfl (E.v oe3)) ?_
  refine QSeq.pure rfl (.bool false) (fun E => ex_bin rfl (E.d 0 0) rfl (guard_ptr _ _ _ _ _ _ _) (run_eql_nil _ Try.underlying23 (by kernel_rfl) _)) ?_
  refine QSeq.nil (t' := [_, _]) rfl ?_
  obtain rfl := HA0.out
  clear HA0 oe3
  simp only [pz, Act.put, List.setIfInBounds_toArray, List.set_cons_zero, List.set_cons_succ]
  go_upto_region 4 with (fail)
  refine wp_region_U 145 [16, 17, 15, 18, 19, 4, 5] [0, 1, 2, 3, 4, 5, 6] (fun a0 HA0 => ?_)
  have oe3 := ev HA0 3 rfl
  refine QSeq.pure rfl _ (fun E => ex_move rfl (E.v oe3)) ?_
  refine QSeq.call rfl rfl Try.func9 (Open_D Hx1.out (by intro k h1; omega) (by omega) Parse.nil) (fun E => args1 (E.d 0 0)) ?_
  rintro e u4_1 ⟨x, rfl, qlg, hm⟩
  refine ⟨_, rfl, ?_⟩
  have Hx3 := hid (qlg.widen (R' := (fun k => (New w u1_0 k) ∨ (New u1_0 u4_1 k))) (fun _ h => h) (Nat.le_refl _))
  have zu4_1 := hm.size
  have Cx4 := hid (show Mod (fun k => (New w u1_0 k)) u1_0 u4_1 from hm)
  clear hm
  clear qlg
  clear Hx1
  refine QSeq.pure rfl _ (fun E => ex_move rfl (E.d 1 0)) ?_
  refine QSeq.pure rfl (.pointer (some ⟨x, 0, none⟩)) (fun E => ex_extract rfl (E.d 2 0) rfl) ?_
  refine QSeq.pure rfl (.int .i64 0) (fun E => ex_extract rfl (E.d 2 1) rfl) ?_
  refine QSeq.pure rfl _ (fun E => ex_assign rfl (E.d 3 1)) ?_
  refine QSeq.pure rfl _ (fun E => ex_assign rfl (E.d 4 1)) ?_
  refine QSeq.nil (t' := [_, _, _, _, _, _, _]) rfl ?_
  obtain rfl := HA0.out
  clear HA0 oe3
  simp only [pz, Act.put, List.setIfInBounds_toArray, List.set_cons_zero, List.set_cons_succ]
  go_upto_region 5 with (fail)
  refine wp_region_U 145 [20, 21, 22, 23, 24, 25] [0, 1, 2, 3, 4, 5] (fun a0 HA0 => ?_)
  have oe4 := ev HA0 4 rfl
  have oe5 := ev HA0 5 rfl
  refine QSeq.pure rfl _ (fun E => ex_move rfl (E.v oe5)) ?_
  refine QSeq.pure rfl (.bool false) (fun E => ex_binE rfl (E.d 0 0) rfl (guard_ints _ _ _ _ _ _) (run_neq_i _ _ _ Try.underlying26) (congrArg Value.bool (show _ = false from rfl))) ?_
  refine QSeq.pure rfl _ (fun E => ex_move rfl (E.d 1 0)) ?_
  refine QSeq.pureG rfl (.pointer (some ⟨x, 0, none⟩)) (fun E => ((wanted_of rfl rfl (E.sz 22 (by decide)) (E.d 2 0)).trans rfl)) (fun E => ex_move rfl (E.v oe4)) ?_
  refine QSeq.pureG rfl (.bool false) (fun E => ((wanted_of rfl rfl (E.sz 22 (by decide)) (E.d 2 1)).trans rfl)) (fun E => ex_bin rfl (E.d 3 0) rfl (guard_ptr _ _ _ _ _ _ _) (run_eql_nil _ Try.underlying25 (by kernel_rfl) _)) ?_
  refine QSeq.pure rfl (.bool false) (fun E => ex_pick rfl (E.d 2 2) rfl (E.d 4 0)) ?_
  refine QSeq.nil (t' := [_, _, _, _, _, _]) rfl ?_
  obtain rfl := HA0.out
  clear HA0 oe4 oe5
  simp only [pz, Act.put, List.setIfInBounds_toArray, List.set_cons_zero, List.set_cons_succ]
  go_upto_region 7 with (fail)
  refine wp_region_U 145 [6] [0] (fun a0 HA0 => ?_)
  refine QSeq.pure rfl (.slice none 0 0) (fun E => ex_assign rfl rfl) ?_
  refine QSeq.nil (t' := [_]) rfl ?_
  obtain rfl := HA0.out
  clear HA0
  simp only [pz, Act.put, List.setIfInBounds_toArray, List.set_cons_zero, List.set_cons_succ]
  go_upto_region 8 with (fail)
  refine wp_region_U 145 [7] [0] (fun a0 HA0 => ?_)
  refine QSeq.pure rfl (.slice none 0 0) (fun E => ex_assign rfl rfl) ?_
  refine QSeq.nil (t' := [_]) rfl ?_
  obtain rfl := HA0.out
  clear HA0
  simp only [pz, Act.put, List.setIfInBounds_toArray, List.set_cons_zero, List.set_cons_succ]
  go_upto_region 9 with (fail)
  refine wp_region_U 145 [8] [0] (fun a0 HA0 => ?_)
  refine QSeq.pure rfl (.int .i64 0) (fun E => ex_assign rfl rfl) ?_
  refine QSeq.nil (t' := [_]) rfl ?_
  obtain rfl := HA0.out
  clear HA0
  simp only [pz, Act.put, List.setIfInBounds_toArray, List.set_cons_zero, List.set_cons_succ]
  go_wp2
  go_loopw [4, 6, 7, 8] (fun tx tg tn ti wr => ∃ (i x : Nat) (gd nx : List (List Int)) (st : DS) (P1 P2 P3 : Nat → Prop), tx = .pointer (some ⟨x, 0, none⟩) ∧ ti = .int .i64 (i : Nat) ∧ i ≤ 25 ∧ gd.length + nx.length ≤ i ∧ TrueI gd nx st ∧ w.heap.size ≤ wr.heap.size ∧ LgR P1 (110 * i) wr x p gd st ∧ OwS RwR 22 P2 P2 wr tg gd ∧ OwS RwR 22 P3 P3 wr tn nx ∧ (∀ k, P1 k → P2 k → False) ∧ (∀ k, P1 k → P3 k → False) ∧ (∀ k, P2 k → P3 k → False) ∧ (∀ k, P1 k → w.heap.size ≤ k ∧ k < wr.heap.size) ∧ (∀ k, P2 k → w.heap.size ≤ k ∧ k < wr.heap.size) ∧ (∀ k, P3 k → w.heap.size ≤ k ∧ k < wr.heap.size) ∧ RdS AcR (fun k => k < w.heap.size) wr (.slice ao l.length cap) l ∧ Mod (fun _ => False) w wr) (fun _ _ _ ti _ => l.length - (intOf ti).toNat)
  case atStart => exact ⟨0, x, [], [], _, (fun k => (New w u1_0 k) ∨ (New u1_0 u4_1 k)), (fun _ => False), (fun _ => False), rfl, rfl, by omega, by simp, TrueI.fresh, by omega, Hx3.out, OwS.nil _ _ _ _ _, OwS.nil _ _ _ _ _, (fun _ _ h => h), (fun _ _ h => h), (fun _ h => h.elim), (by intro k h1; rcases h1 with h1 | h1 <;> first | omega), (fun _ h => h.elim), (fun _ h => h.elim), ((HL.out.mod Cx2.out (fun _ _ h => h)).mod Cx4.out (by intro k h1 h2; omega)), ((HM0.out.trans Cx2.out (fun _ _ h => h.elim)).trans Cx4.out (by intro k h1 h2; omega))⟩
  case round =>
    clear HL HM0 Hx3
    obtain ⟨i, x, gd, nx, st, P1, P2, P3, rfl, rfl, hi25, hcnt, hT, hz, hg, ho, hn, hd12, hd13, hd23, hb1, hb2, hb3, hl, hm⟩ := hrel
    obtain ⟨wl, rfl⟩ : ∃ x, x = wr := ⟨_, rfl⟩
    obtain ⟨aog, capg, rfl⟩ := ho.shape
    obtain ⟨aon, capn, rfl⟩ := hn.shape
    have hcapg := (OwS.capBd ho).2
    rw [maxLen_val] at hcapg
    have KT := Lib.hid hT
    have Kg := Lib.hid hg
    have Ko := Lib.hid ho
    have Kn := Lib.hid hn
    have Kd12 := Lib.hid hd12
    have Kd13 := Lib.hid hd13
    have Kd23 := Lib.hid hd23
    have Kb1 := Lib.hid hb1
    have Kb2 := Lib.hid hb2
    have Kb3 := Lib.hid hb3
    have Kl := Lib.hid hl
    have Km := Lib.hid hm
    clear hT hg ho hn hd12 hd13 hd23 hb1 hb2 hb3 hl hm
    go_upto_region 10 with (fail)
    refine wp_region_U 145 [26, 27, 28, 29, 30, 31, 32, 33] [0, 1, 2, 3, 4, 5, 6, 7] (fun a0 HA0 => ?_)
    have oe0 := ev HA0 0 rfl
    have oe8 := ev HA0 8 rfl
    refine QSeq.pure rfl _ (fun E => ex_move rfl (E.v oe8)) ?_
    refine QSeq.pure rfl _ (fun E => ex_move rfl (E.v oe0)) ?_
    refine QSeq.pure rfl (.int .i64 l.length) (fun E => ex_lenS rfl (E.d 1 0) Try.underlying44) ?_
    refine QSeq.pure rfl (.bool (decide (((i : Nat) : Int) < ((l.length : Nat) : Int)))) (fun E => ex_bin rfl (E.d 0 2) (E.d 2 0) (guard_ints _ _ _ _ _ _) (run_lss_i _ _ _ Try.underlying3)) ?_
    refine QSeq.pure rfl _ (fun E => ex_move rfl (E.d 3 0)) ?_
    refine QSeq.may (b := (decide (((i : Nat) : Int) < ((l.length : Nat) : Int)))) rfl (.int .i64 ((i : Nat) : Int)) (fun E => ((wanted_of rfl rfl (E.sz 30 (by decide)) (E.d 4 0)).trans (beq_t _))) (fun E hb => ex_move rfl (E.v oe8)) ?_
    intro v10_5 hw
    have hv10_5 := hid hw
    clear hw
    refine QSeq.may (b := (decide (((i : Nat) : Int) < ((l.length : Nat) : Int)))) rfl (.bool (decide (((i : Nat) : Int) < 25))) (fun E => ((wanted_of rfl rfl (E.sz 30 (by decide)) (E.d 4 1)).trans (beq_t _))) (fun E hb => ex_bin rfl ((E.q 5 0 hv10_5.out).1 hb) rfl (guard_ints _ _ _ _ _ _) (run_lss_i _ _ _ Try.underlying3)) ?_
    intro v10_6 hw
    have hv10_6 := hid hw
    clear hw
    obtain ⟨pb7, hb7⟩ : ∃ b : Bool, b = ((decide (((i : Nat) : Int) < ((l.length : Nat) : Int))) && (decide (((i : Nat) : Int) < 25))) := ⟨_, rfl⟩
    have HB7 := hid hb7
    clear hb7
    refine QSeq.pure rfl (.bool pb7) (fun E => ex_pickE rfl (E.d 4 2) rfl rfl ((and_val fun hb => (E.q 6 0 hv10_6.out).1 hb).trans (congrArg Value.bool HB7.out.symm))) ?_
    clear hv10_5 hv10_6
    refine QSeq.nil (t' := [_, _, _, _, _, _, _, _]) rfl ?_
    obtain rfl := HA0.out
    clear HA0 oe0 oe8
    simp only [pz, Act.put, List.setIfInBounds_toArray, List.set_cons_zero, List.set_cons_succ]
    by_cases hc : i < l.length ∧ i < 25
    · obtain ⟨hc1, hc2⟩ := hc
      obtain rfl : pb7 = true := HB7.out.trans (by simp only [Bool.and_eq_true, decide_eq_true_eq]; omega)
      obtain ⟨g0, o0, cs, eao, hrg, hrd, hcs⟩ := Kl.out.at hc1
      obtain ⟨va, rfl, hok, hva⟩ := hrd
      generalize l[i] = a at hok hva hcs
      obtain ⟨aa, ca, rfl⟩ := hva.shape
      subst eao
      have HAT := hid (show CellsAt (fun k => k < w.heap.size) wl g0 (o0 + i * 3) [.int .i64 a.d, .int .i64 a.n, .slice aa a.b.length ca] from ⟨hrg, hcs⟩)
      have HEL := Lib.hid hva
      have HOK := Lib.hid hok
      clear hrg hcs hva hok
      go_upto_region 12 with (fail)
      refine wp_region_U 145 [36, 37, 38, 39, 9, 150] [0, 1, 2, 3, 4, 5] (fun a0 HA0 => ?_)
      have oe0 := ev HA0 0 rfl
      have oe8 := ev HA0 8 rfl
      refine QSeq.pure rfl _ (fun E => ex_move rfl (E.v oe0)) ?_
      refine QSeq.pure rfl _ (fun E => ex_move rfl (E.v oe8)) ?_
      refine QSeq.pure rfl (.pointer (some ⟨g0, o0 + i * 3, none⟩)) (fun E => ex_idxS (i := i) (s := 3) rfl Try.underlying44 (by kernel_rfl) (E.d 0 1) (E.d 1 0) (by first | omega | simp)) ?_
      refine QSeq.pure rfl _ (fun E => ex_loadA rfl Try.underlying52 rfl (off := o0 + i * 3) (cs := [.int .i64 a.d, .int .i64 a.n, .slice aa a.b.length ca]) (by kernel_rfl) (E.d 2 0) (fun j u hu => (HAT.out).2 j u hu)) ?_
      refine QSeq.go fun act E => ?_
      refine qc_alloc rfl (wanted_none rfl) rfl (z := [.int .i64 0, .int .i64 0, .slice none 0 0]) (by kernel_rfl) ?_
      intro u12_4 qac hm
      have zl12_4 := qac.lt
      have Hx5 := hid qac
      have zu12_4 := hm.size
      have Cx6 := hid (show Mod (fun _ => False) wl u12_4 from hm)
      clear hm
      clear act E qac
      refine QSeq.go fun act E => ?_
      have hlz : (([.int .i64 a.d, .int .i64 a.n, .slice aa a.b.length ca] : List Value)).length = List.length ([.int .i64 0, .int .i64 0, .slice none 0 0] : List Value) := rfl
      refine qc_store rfl (wanted_none rfl) rfl Hx5.out (off := 0) (vs := ([.int .i64 a.d, .int .i64 a.n, .slice aa a.b.length ca] : List Value)) (by rw [hlz]; kernel_rfl) (by intro u hu; simp only [List.mem_cons, List.not_mem_nil, or_false] at hu; rcases hu with rfl | rfl | rfl <;> rfl) (by rw [hlz]; exact Nat.le_of_eq (Nat.zero_add _)) (E.d 4 0) (ec (E.d 3 1)) ?_
      intro u12_5 qc0 hm
      have qac := qc0.eqv (b := (([.int .i64 a.d, .int .i64 a.n, .slice aa a.b.length ca] : List Value) : List Value).toArray) (lay_whole (#[.int .i64 0, .int .i64 0, .slice none 0 0]) _ (by rw [hlz]; rfl))
      clear qc0 hlz
      have Hx7 := hid qac
      have zu12_5 := hm.size
      have HMu12_5 := hid hm
      have Cx8 := hid (Mod.goS (S' := (fun _ => False)) Cx6.out hm (fun _ h => h) (by intro k h0 h2; omega))
      clear hm Cx6
      clear act E qac Hx5
      clear HMu12_5
      refine QSeq.nil (t' := [_, _, _, _, _, _]) rfl ?_
      obtain rfl := HA0.out
      clear HA0 oe0 oe8
      simp only [pz, Act.put, List.setIfInBounds_toArray, List.set_cons_zero, List.set_cons_succ, List.set_nil]
      clear HAT
      obtain ⟨cb, hcb⟩ : ∃ c, c = a.b.take 100 := ⟨_, rfl⟩
      have HCB := Lib.hid hcb
      have hcl : cb.length ≤ 100 := by rw [hcb, List.length_take]; omega
      clear hcb
      go_upto_region 13 with (fail)
      refine wp_region_U 145 [40, 41, 42, 43, 149] [0, 1, 2, 3, 4] (fun a0 HA0 => ?_)
      have oe9 := ev HA0 9 rfl
      refine QSeq.pure rfl (.pointer (some ⟨wl.heap.size, 2, none⟩)) (fun E => ex_field rfl Try.underlying52 rfl (by kernel_rfl) (E.v oe9)) ?_
      refine QSeq.pure rfl _ (fun E => ex_load1 rfl Try.underlying22 rfl (E.d 0 0) (Cs.lit1 Hx7.out rfl)) ?_
      refine QSeq.call rfl rfl Try.func11 (Cut_W (n := 100) (HEL.out.mod Cx8.out (fun _ _ h => h)) (by decide) HCB.out) (fun E => args2 (E.d 1 0) rfl) ?_
      rintro e u13_2 ⟨v_cut, rfl, qcut, hm⟩
      obtain ⟨ao_cut, cap_cut, rfl⟩ := qcut.shape
      refine ⟨_, rfl, ?_⟩
      have Hx9 := hid qcut
      have zu13_2 := hm.size
      have Cx10 := hid (show Mod (fun _ => False) u12_5 u13_2 from hm)
      clear hm
      clear qcut
      refine QSeq.pure rfl (.pointer (some ⟨wl.heap.size, 2, none⟩)) (fun E => ex_field rfl Try.underlying52 rfl (by kernel_rfl) (E.v oe9)) ?_
      refine QSeq.go fun act E => ?_
      refine qc_store rfl (wanted_none rfl) rfl (Hx7.out.mod Cx10.out (fun h => h)) (off := 2) (vs := [Value.slice ao_cut cb.length cap_cut]) (by kernel_rfl) one1 (by simp) (E.d 3 0) (ec (E.d 2 1)) ?_
      intro u13_4 qc0 hm
      have qac := qc0.eqv (b := #[.int .i64 a.d, .int .i64 a.n, Value.slice ao_cut cb.length cap_cut]) rfl
      clear qc0
      have Hx11 := hid qac
      have zu13_4 := hm.size
      have HMu13_4 := hid hm
      have Cx12 := hid (Mod.goS (S' := (fun k => (k = wl.heap.size))) Cx10.out hm (fun _ h => h.elim) (by intro k h0 h2; exact h2))
      clear hm Cx10
      clear act E qac Hx7
      have Hx13 := hid (Hx9.out.mod HMu13_4.out (by intro k h1 h2; omega))
      clear Hx9 HMu13_4
      refine QSeq.nil (t' := [_, _, _, _, _]) rfl ?_
      obtain rfl := HA0.out
      clear HA0 oe9
      simp only [pz, Act.put, List.setIfInBounds_toArray, List.set_cons_zero, List.set_cons_succ, List.set_nil]
      clear HEL
      obtain ⟨m, hm, hml⟩ := within_nat a.d 7 (by decide)
      have HW := hid (Within_any a.d 7 (by decide) (by decide) HOK.out.1)
      rw [hm] at HW
      clear hm
      go_upto_region 14 with (fail)
      refine wp_region_U 145 [44, 45, 46] [0, 1, 2] (fun a0 HA0 => ?_)
      have oe9 := ev HA0 9 rfl
      refine QSeq.pure rfl (.pointer (some ⟨wl.heap.size, 0, none⟩)) (fun E => ex_field rfl Try.underlying52 rfl (by kernel_rfl) (E.v oe9)) ?_
      refine QSeq.pure rfl _ (fun E => ex_load1 rfl Try.underlying3 rfl (E.d 0 0) (Cs.lit1 Hx11.out rfl)) ?_
      refine QSeq.go fun act E => ?_
      refine qc_callF (args := #[.int .i64 a.d, .int .i64 7]) rfl (wanted_none rfl) rfl Try.func10 (args2 (E.d 1 0) rfl) (HW.out _) ?_
      rintro e w2 ⟨rfl, hw2⟩
      obtain rfl : u13_4 = w2 := by first | exact hw2 | exact hw2.symm
      refine ⟨_, rfl, ?_⟩
      clear act E
      refine QSeq.nil (t' := [_, _, _]) rfl ?_
      obtain rfl := HA0.out
      clear HA0 oe9
      simp only [pz, Act.put, List.setIfInBounds_toArray, List.set_cons_zero, List.set_cons_succ]
      have hgl : gd.length ≤ 900000 := by omega
      by_cases h4 : m = 4
      · skip
        go_upto_region 21 with (fail)
        refine wp_region_U 145 [71, 70] [0, 1] (fun a0 HA0 => ?_)
        have oe46 := ev HA0 46 rfl
        refine QSeq.pure rfl (.bool true) (fun E => ex_binE rfl (E.v oe46) rfl (guard_ints _ _ _ _ _ _) (run_eql_i _ _ _ Try.underlying3) (congrArg Value.bool (eq_tt (by omega)))) ?_
        refine QSeq.pure rfl _ (fun E => ex_assign rfl (E.d 0 0)) ?_
        refine QSeq.nil (t' := [_, _]) rfl ?_
        obtain rfl := HA0.out
        clear HA0 oe46
        simp only [pz, Act.put, List.setIfInBounds_toArray, List.set_cons_zero, List.set_cons_succ]
        obtain ⟨kk, hkk, hkl⟩ := within_nat a.n 5 (by decide)
        have HW2 := hid (Within_any a.n 5 (by decide) (by decide) HOK.out.2)
        rw [hkk] at HW2
        clear hkk
        go_upto_region 22 with (fail)
        refine wp_region_U 145 [72, 73, 74, 75, 76] [0, 1, 2, 3, 4] (fun a0 HA0 => ?_)
        have oe3 := ev HA0 3 rfl
        have oe9 := ev HA0 9 rfl
        refine QSeq.pure rfl _ (fun E => ex_move rfl (E.v oe3)) ?_
        refine QSeq.pure rfl (.pointer (some ⟨wl.heap.size, 1, none⟩)) (fun E => ex_field rfl Try.underlying52 rfl (by kernel_rfl) (E.v oe9)) ?_
        refine QSeq.pure rfl _ (fun E => ex_load1 rfl Try.underlying3 rfl (E.d 1 0) (Cs.lit1 Hx11.out rfl)) ?_
        refine QSeq.go fun act E => ?_
        refine qc_callF (args := #[.int .i64 a.n, .int .i64 5]) rfl (wanted_none rfl) rfl Try.func10 (args2 (E.d 2 0) rfl) (HW2.out _) ?_
        rintro e w2 ⟨rfl, hw2⟩
        obtain rfl : u13_4 = w2 := by first | exact hw2 | exact hw2.symm
        refine ⟨_, rfl, ?_⟩
        clear act E
        refine QSeq.call rfl rfl Try.func25 (Fuse_L (n := (kk : Int)) ((Kg.out.mod Cx8.out (fun _ _ h => h)).mod Cx12.out (by intro k h1 h2; have hb := Kb1.out k h1; omega)) (by omega)) (fun E => args2 (E.d 0 3) (E.d 3 0)) ?_
        rintro e u22_4 ⟨rfl, qlg, hm⟩
        refine ⟨_, rfl, ?_⟩
        have Hx14 := hid qlg
        have zu22_4 := hm.size
        have Cx15 := hid (show Mod (fun k => (P1 k)) u13_4 u22_4 from hm)
        clear hm
        clear qlg Kg
        refine QSeq.nil (t' := [_, _, _, _, _]) rfl ?_
        obtain rfl := HA0.out
        clear HA0 oe3 oe9
        simp only [pz, Act.put, List.setIfInBounds_toArray, List.set_cons_zero, List.set_cons_succ]
        clear Hx11
        clear Hx13
        go_upto_region 11 with (fail)
        refine wp_region_U 145 [34, 35, 8] [0, 1, 2] (fun a0 HA0 => ?_)
        have oe8 := ev HA0 8 rfl
        refine QSeq.pure rfl _ (fun E => ex_move rfl (E.y 2 oe8)) ?_
        refine QSeq.pure rfl (.int .i64 (((i + 1 : Nat) : Nat) : Int)) (fun E => ex_binE rfl (E.d 0 0) rfl (guard_ints _ _ _ _ _ _) (run_add_i _ _ Try.underlying3) (congrArg (Value.int .i64) (i64_eq (b := ((i + 1 : Nat) : Int)) (by omega) (by omega) (by omega)))) ?_
        refine QSeq.pure rfl _ (fun E => ex_assign rfl (E.d 1 0)) ?_
        refine QSeq.nil (t' := [_, _, _]) rfl ?_
        obtain rfl := HA0.out
        clear HA0 oe8
        simp only [pz, Act.put, List.setIfInBounds_toArray, List.set_cons_zero, List.set_cons_succ]
        go_wp2
        go_roundw
        case rel => exact ⟨i + 1, x, gd, nx, _, (fun k => (P1 k)), (fun k => (P2 k)), (fun k => (P3 k)), rfl, rfl, by omega, by first | omega | (simp only [List.length_append, List.length_cons, List.length_nil] at *; omega), KT.out.fuse _, by omega, Hx14.out.widen (fun _ h => h) (by omega), (((Ko.out.mod Cx8.out (fun _ _ h => h) (fun _ _ h => h)).mod Cx12.out (by intro k h1 h2; have hb := Kb2.out k h1; omega) (by intro k h1 h2; have hb := Kb2.out k h1; omega)).mod Cx15.out (by intro k h1 h2; first | omega | (have hb := Kb2.out k h1; omega) | (have hb := Kb1.out k h2; omega) | exact Kd12.out k h1 h2 | exact Kd12.out k h2 h1 | exact Kd13.out k h1 h2 | exact Kd13.out k h2 h1 | exact Kd23.out k h1 h2 | exact Kd23.out k h2 h1 | (have hb := Kb2.out k h1; have hb2 := Kb1.out k h2; omega)) (by intro k h1 h2; first | omega | (have hb := Kb2.out k h1; omega) | (have hb := Kb1.out k h2; omega) | exact Kd12.out k h1 h2 | exact Kd12.out k h2 h1 | exact Kd13.out k h1 h2 | exact Kd13.out k h2 h1 | exact Kd23.out k h1 h2 | exact Kd23.out k h2 h1 | (have hb := Kb2.out k h1; have hb2 := Kb1.out k h2; omega))), (((Kn.out.mod Cx8.out (fun _ _ h => h) (fun _ _ h => h)).mod Cx12.out (by intro k h1 h2; have hb := Kb3.out k h1; omega) (by intro k h1 h2; have hb := Kb3.out k h1; omega)).mod Cx15.out (by intro k h1 h2; first | omega | (have hb := Kb3.out k h1; omega) | (have hb := Kb1.out k h2; omega) | exact Kd12.out k h1 h2 | exact Kd12.out k h2 h1 | exact Kd13.out k h1 h2 | exact Kd13.out k h2 h1 | exact Kd23.out k h1 h2 | exact Kd23.out k h2 h1 | (have hb := Kb3.out k h1; have hb2 := Kb1.out k h2; omega)) (by intro k h1 h2; first | omega | (have hb := Kb3.out k h1; omega) | (have hb := Kb1.out k h2; omega) | exact Kd12.out k h1 h2 | exact Kd12.out k h2 h1 | exact Kd13.out k h1 h2 | exact Kd13.out k h2 h1 | exact Kd23.out k h1 h2 | exact Kd23.out k h2 h1 | (have hb := Kb3.out k h1; have hb2 := Kb1.out k h2; omega))), (by intro k h1 h2; first | omega | (have hb := Kb1.out k h1; omega) | (have hb := Kb2.out k h2; omega) | exact Kd12.out k h1 h2 | exact Kd12.out k h2 h1 | exact Kd13.out k h1 h2 | exact Kd13.out k h2 h1 | exact Kd23.out k h1 h2 | exact Kd23.out k h2 h1 | (have hb := Kb1.out k h1; have hb2 := Kb2.out k h2; omega)), (by intro k h1 h2; first | omega | (have hb := Kb1.out k h1; omega) | (have hb := Kb3.out k h2; omega) | exact Kd12.out k h1 h2 | exact Kd12.out k h2 h1 | exact Kd13.out k h1 h2 | exact Kd13.out k h2 h1 | exact Kd23.out k h1 h2 | exact Kd23.out k h2 h1 | (have hb := Kb1.out k h1; have hb2 := Kb3.out k h2; omega)), (by intro k h1 h2; first | omega | (have hb := Kb2.out k h1; omega) | (have hb := Kb3.out k h2; omega) | exact Kd12.out k h1 h2 | exact Kd12.out k h2 h1 | exact Kd13.out k h1 h2 | exact Kd13.out k h2 h1 | exact Kd23.out k h1 h2 | exact Kd23.out k h2 h1 | (have hb := Kb2.out k h1; have hb2 := Kb3.out k h2; omega)), (by intro k h1; first | omega | (have hb := Kb1.out k h1; omega)), (by intro k h1; first | omega | (have hb := Kb2.out k h1; omega)), (by intro k h1; first | omega | (have hb := Kb3.out k h1; omega)), (((Kl.out.mod Cx8.out (fun _ _ h => h)).mod Cx12.out (by intro k h1 h2; omega)).mod Cx15.out (by intro k h1 h2; have hb := Kb1.out k h2; omega)), (((Km.out.trans Cx8.out (fun _ _ h => h.elim)).trans Cx12.out (by intro k h1 h2; omega)).trans Cx15.out (by intro k h1 h2; first | exact h2 | omega | (have hb := Kb1.out k h2; omega)))⟩
        case measure => simp [intOf]; omega
      · skip
        by_cases h56 : m = 5 ∨ m = 6
        · skip
          rcases h56 with h5 | h5
          go_upto_region 25 with (fail)
          all_goals
            refine wp_region_U 145 [80, 81, 82, 83] [0, 1, 2, 3] (fun a0 HA0 => ?_)
            have oe3 := ev HA0 3 rfl
            have oe9 := ev HA0 9 rfl
            refine QSeq.pure rfl _ (fun E => ex_move rfl (E.v oe3)) ?_
            refine QSeq.pure rfl (.pointer (some ⟨wl.heap.size, 1, none⟩)) (fun E => ex_field rfl Try.underlying52 rfl (by kernel_rfl) (E.v oe9)) ?_
            refine QSeq.pure rfl _ (fun E => ex_load1 rfl Try.underlying3 rfl (E.d 1 0) (Cs.lit1 Hx11.out rfl)) ?_
            refine QSeq.call rfl rfl Try.func22 (Crash_L (keep := a.n) ((Kg.out.mod Cx8.out (fun _ _ h => h)).mod Cx12.out (by intro k h1 h2; have hb := Kb1.out k h1; omega)) (by omega) HOK.out.2) (fun E => args2 (E.d 0 2) (E.d 2 0)) ?_
            rintro e u25_3 ⟨rfl, qlg, hm⟩
            refine ⟨_, rfl, ?_⟩
            have Hx16 := hid qlg
            have zu25_3 := hm.size
            have Cx17 := hid (show Mod (fun k => (P1 k)) u13_4 u25_3 from hm)
            clear hm
            clear qlg Kg
            refine QSeq.nil (t' := [_, _, _, _]) rfl ?_
            obtain rfl := HA0.out
            clear HA0 oe3 oe9
            simp only [pz, Act.put, List.setIfInBounds_toArray, List.set_cons_zero, List.set_cons_succ]
            clear Hx11
            clear Hx13
            rcases KT.out.crash a.n.toNat with hP | ⟨b0, t0, hnx, hP⟩
            · have HP := Lib.hid hP
              clear hP
              go_upto_region 26 with (fail)
              refine wp_region_U 145 [85, 86, 84, 87, 88, 4, 5] [0, 1, 2, 3, 4, 5, 6] (fun a0 HA0 => ?_)
              have oe3 := ev HA0 3 rfl
              refine QSeq.pure rfl _ (fun E => ex_move rfl (E.v oe3)) ?_
              refine QSeq.call rfl rfl Try.func9 (Open_L Hx16.out (by intro k h1; have hb := Kb1.out k h1; omega) (by omega) HP.out) (fun E => args1 (E.d 0 0)) ?_
              rintro e u26_1 ⟨y, rfl, qlg, hm⟩
              refine ⟨_, rfl, ?_⟩
              have Hx18 := hid (qlg.widen (R' := (fun k => (P1 k) ∨ (New u25_3 u26_1 k))) (fun _ h => h) (Nat.le_refl _))
              have zu26_1 := hm.size
              have Cx19 := hid (show Mod (fun k => (P1 k)) u25_3 u26_1 from hm)
              clear hm
              clear qlg Hx16
              refine QSeq.pure rfl _ (fun E => ex_move rfl (E.d 1 0)) ?_
              refine QSeq.pure rfl (.pointer (some ⟨y, 0, none⟩)) (fun E => ex_extract rfl (E.d 2 0) rfl) ?_
              refine QSeq.pure rfl (.int .i64 0) (fun E => ex_extract rfl (E.d 2 1) rfl) ?_
              refine QSeq.pure rfl _ (fun E => ex_assign rfl (E.d 3 1)) ?_
              refine QSeq.pure rfl _ (fun E => ex_assign rfl (E.d 4 1)) ?_
              refine QSeq.nil (t' := [_, _, _, _, _, _, _]) rfl ?_
              obtain rfl := HA0.out
              clear HA0 oe3
              simp only [pz, Act.put, List.setIfInBounds_toArray, List.set_cons_zero, List.set_cons_succ]
              go_upto_region 27 with (fail)
              refine wp_region_U 145 [89, 90, 91, 92, 93, 94] [0, 1, 2, 3, 4, 5] (fun a0 HA0 => ?_)
              have oe4 := ev HA0 4 rfl
              have oe5 := ev HA0 5 rfl
              refine QSeq.pure rfl _ (fun E => ex_move rfl (E.v oe5)) ?_
              refine QSeq.pure rfl (.bool false) (fun E => ex_binE rfl (E.d 0 0) rfl (guard_ints _ _ _ _ _ _) (run_neq_i _ _ _ Try.underlying26) (congrArg Value.bool (show _ = false from rfl))) ?_
              refine QSeq.pure rfl _ (fun E => ex_move rfl (E.d 1 0)) ?_
              refine QSeq.pureG rfl (.pointer (some ⟨y, 0, none⟩)) (fun E => ((wanted_of rfl rfl (E.sz 91 (by decide)) (E.d 2 0)).trans rfl)) (fun E => ex_move rfl (E.v oe4)) ?_
              refine QSeq.pureG rfl (.bool false) (fun E => ((wanted_of rfl rfl (E.sz 91 (by decide)) (E.d 2 1)).trans rfl)) (fun E => ex_bin rfl (E.d 3 0) rfl (guard_ptr _ _ _ _ _ _ _) (run_eql_nil _ Try.underlying25 (by kernel_rfl) _)) ?_
              refine QSeq.pure rfl (.bool false) (fun E => ex_pick rfl (E.d 2 2) rfl (E.d 4 0)) ?_
              refine QSeq.nil (t' := [_, _, _, _, _, _]) rfl ?_
              obtain rfl := HA0.out
              clear HA0 oe4 oe5
              simp only [pz, Act.put, List.setIfInBounds_toArray, List.set_cons_zero, List.set_cons_succ]
              have hrl : gd.length = gd.length := by rfl
              go_upto_region 29 with (fail)
              refine wp_region_U 145 [95, 96, 10] [0, 1, 2] (fun a0 HA0 => ?_)
              have oe4 := ev HA0 4 rfl
              refine QSeq.pure rfl _ (fun E => ex_move rfl (E.v oe4)) ?_
              refine QSeq.call rfl rfl Try.func14 (Records_L Hx18.out (by intro k h1; rcases h1 with h1 | h1 <;> first | omega | (have hb := Kb1.out k h1; omega)) (by omega)) (fun E => args1 (E.d 0 0)) ?_
              rintro e u29_1 ⟨vr, rfl, qrec, hm⟩
              obtain ⟨ao_r, cap_r, rfl⟩ := qrec.shape
              have hcr := (OwS.capBd qrec).2
              refine ⟨_, rfl, ?_⟩
              have Hx20 := hid (qrec.widen (R' := (fun k => (New u26_1 u29_1 k))) (E' := (fun k => (New u26_1 u29_1 k))) (fun _ h => h) (fun _ h => h))
              have zu29_1 := hm.size
              have Cx21 := hid (show Mod (fun _ => False) u26_1 u29_1 from hm)
              clear hm
              clear qrec
              refine QSeq.pure rfl _ (fun E => ex_assign rfl (E.d 1 0)) ?_
              refine QSeq.nil (t' := [_, _, _]) rfl ?_
              obtain rfl := HA0.out
              clear HA0 oe4
              simp only [pz, Act.put, List.setIfInBounds_toArray, List.set_cons_zero, List.set_cons_succ]
              rw [maxLen_val] at hcr
              go_upto_region 30 with (fail)
              generalize ha0 : Act.mk _ _ = a0
              have oe6 : a0.eval (.tmp 6) = .slice aog gd.length capg := by rw [← ha0]; rfl
              have oe10 : a0.eval (.tmp 10) = .slice ao_r gd.length cap_r := by rw [← ha0]; rfl
              have hsz0 : a0.tmps.size = 145 := by rw [← ha0]; rfl
              have HA0 := hid ha0
              clear ha0
              refine wp_region_Q0 145 hsz0 [97, 98, 99, 100, 101, 102, 103, 104, 105, 106, 107, 108, 109, 110, 111, 112, 113, 114, 115, 116, 117, 118, 119, 120, 121, 122, 123, 124, 125, 126, 127, 128, 129, 130, 131, 132, 133, 134, 135, 136, 137, 138, 139, 140, 141, 142] [qi (.slice ao_r gd.length cap_r), qi (.int .i64 gd.length), qi (.slice aog gd.length capg), qi (.int .i64 gd.length), qi (.bool false), qi (.bool false), qi (.slice ao_r gd.length cap_r), qi (.int .i64 gd.length), qi (.slice aog gd.length capg), qi (.int .i64 gd.length), qi (.int .i64 (((gd.length + 1 : Nat) : Nat) : Int)), qi (.bool false), qi (.bool false), qi (.bool false), qi (.slice ao_r gd.length cap_r), qi (.slice aog gd.length capg), qi (.int .i64 gd.length), qi (.slice ao_r gd.length cap_r), qi (.slice aog gd.length capg), qi (.bool true), qi (.bool false), qi (.bool false), qi (.bool false), qi (.slice ao_r gd.length cap_r), qi (.int .i64 gd.length), qi (.slice aog gd.length capg), qi (.int .i64 gd.length), qi (.bool false), qi (.bool false), qi undef, qi undef, qi undef, qi undef, qi undef, qi undef, qi undef, qi undef, qi undef, qi undef, qi undef, qi undef, qi undef, qi undef, qi undef, qi (.bool false), qi (.bool false)] ⟨qi_stable, qi_stable, qi_stable, qi_stable, qi_stable, qi_stable, qi_stable, qi_stable, qi_stable, qi_stable, qi_stable, qi_stable, qi_stable, qi_stable, qi_stable, qi_stable, qi_stable, qi_stable, qi_stable, qi_stable, qi_stable, qi_stable, qi_stable, qi_stable, qi_stable, qi_stable, qi_stable, qi_stable, qi_stable, qi_stable, qi_stable, qi_stable, qi_stable, qi_stable, qi_stable, qi_stable, qi_stable, qi_stable, qi_stable, qi_stable, qi_stable, qi_stable, qi_stable, qi_stable, qi_stable, qi_stable, trivial⟩ [19] ⟨?_, ?_, ?_, ?_, ?_, ?_, ?_, ?_, ?_, ?_, ?_, ?_, ?_, ?_, ?_, ?_, ?_, ?_, ?_, ?_, ?_, ?_, ?_, ?_, ?_, ?_, ?_, ?_, ?_, ?_, ?_, ?_, ?_, ?_, ?_, ?_, ?_, ?_, ?_, ?_, ?_, ?_, ?_, ?_, ?_, ?_, trivial⟩ ?_
              · exact stq (fun E => ex_move rfl (E.v oe10))
              · exact stq (fun E => ex_lenS rfl (E.d 0) Try.underlying33)
              · exact stq (fun E => ex_move rfl (E.v oe6))
              · exact stq (fun E => ex_lenS rfl (E.d 2) Try.underlying33)
              · exact stq (fun E => ex_binE rfl (E.d 1) (E.d 3) (guard_ints _ _ _ _ _ _) (run_lss_i _ _ _ Try.underlying3) (congrArg Value.bool (decide_eq_false (by omega))))
              · exact stq (fun E => ex_move rfl (E.d 4))
              · refine stepq_env rfl rfl rfl fun _ _ _ _ _ _ _ hout hsz hd _ _ => ?_
                have h5 := hd ⟨5, .guard⟩ (by simp) rfl _ rfl
                refine qe_run rfl ((wanted_of rfl rfl (hsz 102 (by decide)) h5).trans rfl) (ex_move rfl ((hout 10 (by decide)).trans oe10)) QE.refl ?_
                rfl
              · refine stepq_env rfl rfl rfl fun _ _ _ _ _ _ _ _ hsz hd _ _ => ?_
                have h5 := hd ⟨5, .guard⟩ (by simp) rfl _ rfl
                have h6 := hd ⟨6, .data⟩ (by simp) rfl _ rfl
                refine qe_run rfl ((wanted_of rfl rfl (hsz 102 (by decide)) h5).trans rfl) (ex_lenS rfl h6 Try.underlying33) QE.refl ?_
                rfl
              · refine stepq_env rfl rfl rfl fun _ _ _ _ _ _ _ hout hsz hd _ _ => ?_
                have h5 := hd ⟨5, .guard⟩ (by simp) rfl _ rfl
                refine qe_run rfl ((wanted_of rfl rfl (hsz 102 (by decide)) h5).trans rfl) (ex_move rfl ((hout 6 (by decide)).trans oe6)) QE.refl ?_
                rfl
              · refine stepq_env rfl rfl rfl fun _ _ _ _ _ _ _ _ hsz hd _ _ => ?_
                have h5 := hd ⟨5, .guard⟩ (by simp) rfl _ rfl
                have h8 := hd ⟨8, .data⟩ (by simp) rfl _ rfl
                refine qe_run rfl ((wanted_of rfl rfl (hsz 102 (by decide)) h5).trans rfl) (ex_lenS rfl h8 Try.underlying33) QE.refl ?_
                rfl
              · refine stepq_env rfl rfl rfl fun _ _ _ _ _ _ _ _ hsz hd _ _ => ?_
                have h5 := hd ⟨5, .guard⟩ (by simp) rfl _ rfl
                have h9 := hd ⟨9, .data⟩ (by simp) rfl _ rfl
                refine qe_run rfl ((wanted_of rfl rfl (hsz 102 (by decide)) h5).trans rfl) (ex_binE rfl h9 rfl (guard_ints _ _ _ _ _ _) (run_add_i _ _ Try.underlying3) (congrArg (Value.int .i64) (i64_eq (b := ((gd.length + 1 : Nat) : Int)) (by omega) (by omega) (by omega)))) QE.refl ?_
                rfl
              · refine stepq_env rfl rfl rfl fun _ _ _ _ _ _ _ _ hsz hd _ _ => ?_
                have h5 := hd ⟨5, .guard⟩ (by simp) rfl _ rfl
                have h7 := hd ⟨7, .data⟩ (by simp) rfl _ rfl
                have h10 := hd ⟨10, .data⟩ (by simp) rfl _ rfl
                refine qe_run rfl ((wanted_of rfl rfl (hsz 102 (by decide)) h5).trans rfl) (ex_binE rfl h7 h10 (guard_ints _ _ _ _ _ _) (run_gtr_i _ _ _ Try.underlying3) (congrArg Value.bool (decide_eq_false (by omega)))) QE.refl ?_
                rfl
              · exact stq (fun E => ex_pick rfl (E.d 5) rfl (E.d 11))
              · exact stq (fun E => ex_move rfl (E.d 12))
              · refine stepq_env rfl rfl rfl fun _ _ _ _ _ _ _ hout hsz hd _ _ => ?_
                have h13 := hd ⟨13, .guard⟩ (by simp) rfl _ rfl
                refine qe_run rfl ((wanted_of rfl rfl (hsz 110 (by decide)) h13).trans rfl) (ex_move rfl ((hout 10 (by decide)).trans oe10)) QE.refl ?_
                rfl
              · refine stepq_env rfl rfl rfl fun _ _ _ _ _ _ _ hout hsz hd _ _ => ?_
                have h13 := hd ⟨13, .guard⟩ (by simp) rfl _ rfl
                refine qe_run rfl ((wanted_of rfl rfl (hsz 110 (by decide)) h13).trans rfl) (ex_move rfl ((hout 6 (by decide)).trans oe6)) QE.refl ?_
                rfl
              · refine stepq_env rfl rfl rfl fun _ _ _ _ _ _ _ _ hsz hd _ _ => ?_
                have h13 := hd ⟨13, .guard⟩ (by simp) rfl _ rfl
                have h15 := hd ⟨15, .data⟩ (by simp) rfl _ rfl
                refine qe_run rfl ((wanted_of rfl rfl (hsz 110 (by decide)) h13).trans rfl) (ex_lenS rfl h15 Try.underlying33) QE.refl ?_
                rfl
              · refine stepq_env rfl rfl rfl fun _ _ _ _ _ _ _ _ hsz hd _ _ => ?_
                have h13 := hd ⟨13, .guard⟩ (by simp) rfl _ rfl
                have h14 := hd ⟨14, .data⟩ (by simp) rfl _ rfl
                have h16 := hd ⟨16, .data⟩ (by simp) rfl _ rfl
                refine qe_run rfl ((wanted_of rfl rfl (hsz 110 (by decide)) h13).trans rfl) (ex_sliceTo (i := gd.length) (s := 1) rfl Try.underlying33 (by kernel_rfl) h14 h16 (by omega)) QE.refl ?_
                rfl
              · refine stepq_env rfl rfl rfl fun _ _ _ _ _ _ _ hout hsz hd _ _ => ?_
                have h13 := hd ⟨13, .guard⟩ (by simp) rfl _ rfl
                refine qe_run rfl ((wanted_of rfl rfl (hsz 110 (by decide)) h13).trans rfl) (ex_move rfl ((hout 6 (by decide)).trans oe6)) QE.refl ?_
                rfl
              · exact stepq_chain rfl
              · refine stepq_env rfl rfl rfl fun _ _ _ _ _ _ _ _ hsz hd _ _ => ?_
                have h13 := hd ⟨13, .guard⟩ (by simp) rfl _ rfl
                have h19 := hd ⟨19, .data⟩ (by simp) rfl _ rfl
                refine qe_run rfl ((wanted_of rfl rfl (hsz 110 (by decide)) h13).trans rfl) (ex_not rfl h19) QE.refl ?_
                rfl
              · exact stq (fun E => ex_pick rfl (E.d 13) rfl (E.d 20))
              · exact stq (fun E => ex_move rfl (E.d 21))
              · refine stepq_env rfl rfl rfl fun _ _ _ _ _ _ _ hout hsz hd _ _ => ?_
                have h22 := hd ⟨22, .guard⟩ (by simp) rfl _ rfl
                refine qe_run rfl ((wanted_of rfl rfl (hsz 119 (by decide)) h22).trans rfl) (ex_move rfl ((hout 10 (by decide)).trans oe10)) QE.refl ?_
                rfl
              · refine stepq_env rfl rfl rfl fun _ _ _ _ _ _ _ _ hsz hd _ _ => ?_
                have h22 := hd ⟨22, .guard⟩ (by simp) rfl _ rfl
                have h23 := hd ⟨23, .data⟩ (by simp) rfl _ rfl
                refine qe_run rfl ((wanted_of rfl rfl (hsz 119 (by decide)) h22).trans rfl) (ex_lenS rfl h23 Try.underlying33) QE.refl ?_
                rfl
              · refine stepq_env rfl rfl rfl fun _ _ _ _ _ _ _ hout hsz hd _ _ => ?_
                have h22 := hd ⟨22, .guard⟩ (by simp) rfl _ rfl
                refine qe_run rfl ((wanted_of rfl rfl (hsz 119 (by decide)) h22).trans rfl) (ex_move rfl ((hout 6 (by decide)).trans oe6)) QE.refl ?_
                rfl
              · refine stepq_env rfl rfl rfl fun _ _ _ _ _ _ _ _ hsz hd _ _ => ?_
                have h22 := hd ⟨22, .guard⟩ (by simp) rfl _ rfl
                have h25 := hd ⟨25, .data⟩ (by simp) rfl _ rfl
                refine qe_run rfl ((wanted_of rfl rfl (hsz 119 (by decide)) h22).trans rfl) (ex_lenS rfl h25 Try.underlying33) QE.refl ?_
                rfl
              · refine stepq_env rfl rfl rfl fun _ _ _ _ _ _ _ _ hsz hd _ _ => ?_
                have h22 := hd ⟨22, .guard⟩ (by simp) rfl _ rfl
                have h24 := hd ⟨24, .data⟩ (by simp) rfl _ rfl
                have h26 := hd ⟨26, .data⟩ (by simp) rfl _ rfl
                refine qe_run rfl ((wanted_of rfl rfl (hsz 119 (by decide)) h22).trans rfl) (ex_binE rfl h24 h26 (guard_ints _ _ _ _ _ _) (run_gtr_i _ _ _ Try.underlying3) (congrArg Value.bool (decide_eq_false (by omega)))) QE.refl ?_
                rfl
              · refine stepq_env rfl rfl rfl fun _ _ _ _ _ _ _ _ hsz hd _ _ => ?_
                have h22 := hd ⟨22, .chain⟩ (by simp) rfl _ rfl
                have h27 := hd ⟨27, .data⟩ (by simp) rfl _ rfl
                refine qe_run rfl ((wanted_of rfl rfl (hsz 119 (by decide)) h22).trans rfl) (ex_move rfl h27) QE.refl ?_
                rfl
              · refine stepq_env rfl rfl rfl fun _ _ _ _ _ _ _ _ hsz hd _ _ => ?_
                have h28 := hd ⟨28, .guard⟩ (by simp) rfl _ rfl
                exact qe_skip rfl ((wanted_of rfl rfl (hsz 125 (by decide)) h28).trans rfl) rfl
              · refine stepq_env rfl rfl rfl fun _ _ _ _ _ _ _ _ hsz hd _ _ => ?_
                have h28 := hd ⟨28, .guard⟩ (by simp) rfl _ rfl
                exact qe_skip rfl ((wanted_of rfl rfl (hsz 125 (by decide)) h28).trans rfl) rfl
              · refine stepq_env rfl rfl rfl fun _ _ _ _ _ _ _ _ hsz hd _ _ => ?_
                have h28 := hd ⟨28, .guard⟩ (by simp) rfl _ rfl
                exact qe_skip rfl ((wanted_of rfl rfl (hsz 125 (by decide)) h28).trans rfl) rfl
              · refine stepq_env rfl rfl rfl fun _ _ _ _ _ _ _ _ hsz hd _ _ => ?_
                have h28 := hd ⟨28, .chain⟩ (by simp) rfl _ rfl
                exact qe_skip rfl ((wanted_of rfl rfl (hsz 125 (by decide)) h28).trans rfl) rfl
              · refine stepq_env rfl rfl rfl fun _ _ _ _ _ _ _ _ hsz hd _ _ => ?_
                have h32 := hd ⟨32, .guard⟩ (by simp) rfl _ rfl
                exact qe_skip rfl (wanted_undef rfl rfl (hsz 129 (by decide)) h32) rfl
              · refine stepq_env rfl rfl rfl fun _ _ _ _ _ _ _ _ hsz hd _ _ => ?_
                have h32 := hd ⟨32, .guard⟩ (by simp) rfl _ rfl
                exact qe_skip rfl (wanted_undef rfl rfl (hsz 129 (by decide)) h32) rfl
              · refine stepq_env rfl rfl rfl fun _ _ _ _ _ _ _ _ hsz hd _ _ => ?_
                have h32 := hd ⟨32, .guard⟩ (by simp) rfl _ rfl
                exact qe_skip rfl (wanted_undef rfl rfl (hsz 129 (by decide)) h32) rfl
              · refine stepq_env rfl rfl rfl fun _ _ _ _ _ _ _ _ hsz hd _ _ => ?_
                have h32 := hd ⟨32, .guard⟩ (by simp) rfl _ rfl
                exact qe_skip rfl (wanted_undef rfl rfl (hsz 129 (by decide)) h32) rfl
              · refine stepq_env rfl rfl rfl fun _ _ _ _ _ _ _ _ hsz hd _ _ => ?_
                have h32 := hd ⟨32, .guard⟩ (by simp) rfl _ rfl
                exact qe_skip rfl (wanted_undef rfl rfl (hsz 129 (by decide)) h32) rfl
              · refine stepq_env rfl rfl rfl fun _ _ _ _ _ _ _ _ hsz hd _ _ => ?_
                have h32 := hd ⟨32, .guard⟩ (by simp) rfl _ rfl
                exact qe_skip rfl (wanted_undef rfl rfl (hsz 129 (by decide)) h32) rfl
              · refine stepq_env rfl rfl rfl fun _ _ _ _ _ _ _ _ hsz hd _ _ => ?_
                have h32 := hd ⟨32, .guard⟩ (by simp) rfl _ rfl
                exact qe_skip rfl (wanted_undef rfl rfl (hsz 129 (by decide)) h32) rfl
              · refine stepq_env rfl rfl rfl fun _ _ _ _ _ _ _ _ hsz hd _ _ => ?_
                have h32 := hd ⟨32, .guard⟩ (by simp) rfl _ rfl
                exact qe_skip rfl (wanted_undef rfl rfl (hsz 129 (by decide)) h32) rfl
              · refine stepq_env rfl rfl rfl fun _ _ _ _ _ _ _ _ hsz hd _ _ => ?_
                have h32 := hd ⟨32, .chain⟩ (by simp) rfl _ rfl
                exact qe_skip rfl (wanted_undef rfl rfl (hsz 129 (by decide)) h32) rfl
              · refine stepq_env rfl rfl rfl fun _ _ _ _ _ _ _ _ hsz hd _ _ => ?_
                have h32 := hd ⟨32, .guard⟩ (by simp) rfl _ rfl
                exact qe_skip rfl (wanted_undef rfl rfl (hsz 129 (by decide)) h32) rfl
              · refine stepq_env rfl rfl rfl fun _ _ _ _ _ _ _ _ hsz hd _ _ => ?_
                have h28 := hd ⟨28, .guard⟩ (by simp) rfl _ rfl
                exact qe_skip rfl ((wanted_of rfl rfl (hsz 125 (by decide)) h28).trans rfl) rfl
              · refine stepq_env rfl rfl rfl fun _ _ _ _ _ _ _ _ hsz hd _ _ => ?_
                have h22 := hd ⟨22, .guard⟩ (by simp) rfl _ rfl
                have h28 := hd ⟨28, .data⟩ (by simp) rfl _ rfl
                have h43 := hd ⟨43, .data⟩ (by simp) rfl _ rfl
                refine qe_run rfl ((wanted_of rfl rfl (hsz 119 (by decide)) h22).trans rfl) (ex_pick rfl h28 h43 rfl) QE.refl ?_
                rfl
              · exact stq (fun E => ex_pick rfl (E.d 22) rfl (E.d 44))
              intro u30_0 hr
              have zu30_0 := hr.size
              have Cx22 := hid (hr.new (S := (fun _ => False)))
              clear hr
              refine QChain.go fun Z act E => ?_
              refine qc_callF (args := #[.slice ao_r gd.length cap_r, .slice aog gd.length capg]) rfl ((wanted_of rfl rfl (E.sz 110 (by decide)) (E.e 13 .chain)).trans rfl) rfl Try.func18 (args2 (E.d 17) (E.d 18)) (Rows_T (R := (fun k => (New u26_1 u29_1 k))) (R2 := (fun k => (P2 k))) (by have hq := (OwS.upto ((Hx20.out.mod Cx22.out (fun _ _ h => h) (fun _ _ h => h)).widen (R' := (fun k => (New u26_1 u29_1 k))) (E' := (fun k => (New u26_1 u29_1 k))) (by intro k h1; first | omega | exact h1.elim | exact h1) (by intro k h1; first | omega | exact h1.elim | exact h1)) gd.length cap_r (by omega) (Or.inl rfl)).rd.widen (R' := (fun k => (New u26_1 u29_1 k))) (fun k h => h.elim id id); rw [List.take_length] at hq; exact hq) ((((((((Ko.out.mod Cx8.out (fun _ _ h => h) (fun _ _ h => h)).mod Cx12.out (by intro k h1 h2; have hb := Kb2.out k h1; omega) (by intro k h1 h2; have hb := Kb2.out k h1; omega)).mod Cx17.out (by intro k h1 h2; first | omega | (have hb := Kb2.out k h1; omega) | (have hb := Kb1.out k h2; omega) | exact Kd12.out k h1 h2 | exact Kd12.out k h2 h1 | exact Kd13.out k h1 h2 | exact Kd13.out k h2 h1 | exact Kd23.out k h1 h2 | exact Kd23.out k h2 h1 | (have hb := Kb2.out k h1; have hb2 := Kb1.out k h2; omega)) (by intro k h1 h2; first | omega | (have hb := Kb2.out k h1; omega) | (have hb := Kb1.out k h2; omega) | exact Kd12.out k h1 h2 | exact Kd12.out k h2 h1 | exact Kd13.out k h1 h2 | exact Kd13.out k h2 h1 | exact Kd23.out k h1 h2 | exact Kd23.out k h2 h1 | (have hb := Kb2.out k h1; have hb2 := Kb1.out k h2; omega))).mod Cx19.out (by intro k h1 h2; first | omega | (have hb := Kb2.out k h1; omega) | (have hb := Kb1.out k h2; omega) | exact Kd12.out k h1 h2 | exact Kd12.out k h2 h1 | exact Kd13.out k h1 h2 | exact Kd13.out k h2 h1 | exact Kd23.out k h1 h2 | exact Kd23.out k h2 h1 | (have hb := Kb2.out k h1; have hb2 := Kb1.out k h2; omega)) (by intro k h1 h2; first | omega | (have hb := Kb2.out k h1; omega) | (have hb := Kb1.out k h2; omega) | exact Kd12.out k h1 h2 | exact Kd12.out k h2 h1 | exact Kd13.out k h1 h2 | exact Kd13.out k h2 h1 | exact Kd23.out k h1 h2 | exact Kd23.out k h2 h1 | (have hb := Kb2.out k h1; have hb2 := Kb1.out k h2; omega))).mod Cx21.out (fun _ _ h => h) (fun _ _ h => h)).mod Cx22.out (fun _ _ h => h) (fun _ _ h => h)).widen (R' := (fun k => (P2 k))) (E' := (fun k => (P2 k))) (by intro k h1; first | omega | exact h1.elim | exact h1) (by intro k h1; first | omega | exact h1.elim | exact h1)).rd.widen (fun k h => h.elim id id)) (by intro k h1; first | omega) (by intro k h1; first | omega | (have hb := Kb2.out k h1; omega))) ?_
              rintro e u30_1a ⟨rfl, hm⟩
              have zu30_1a := hm.size
              refine ⟨_, rfl, hm.mono (fun _ _ h => h.elim), (fun _ => rfl), ?_⟩
              intro u30_1 hr
              have zu30_1 := hr.size
              have Cx23 := hid (Cx22.out.go hm hr)
              clear Cx22 hm hr Z act E
              refine QChain.nil fun vs hl hzz hrows hne => ?_
              obtain ⟨Z, hYZ, hZb, hV⟩ := hzz
              have f0 := fvi hV hl 0
              have f1 := fvi hV hl 1
              have f2 := fvi hV hl 2
              have f3 := fvi hV hl 3
              have f5 := fvi hV hl 5
              have f6 := fvi hV hl 6
              have f7 := fvi hV hl 7
              have f8 := fvi hV hl 8
              have f9 := fvi hV hl 9
              have f13 := fvi hV hl 13
              have f14 := fvi hV hl 14
              have f15 := fvi hV hl 15
              have f16 := fvi hV hl 16
              have f18 := fvi hV hl 18
              have f19 := fvi hV hl 19
              have f22 := fvi hV hl 22
              have f23 := fvi hV hl 23
              have f24 := fvi hV hl 24
              have f25 := fvi hV hl 25
              have f26 := fvi hV hl 26
              have f28 := fvi hV hl 28
              have f29 := fvi hV hl 29
              have f30 := fvi hV hl 30
              have f32 := fvi hV hl 32
              have f33 := fvi hV hl 33
              have f34 := fvi hV hl 34
              have f35 := fvi hV hl 35
              have f38 := fvi hV hl 38
              have f41 := fvi hV hl 41
              have f45 := fvi hV hl 45
              rw [show vs = [gw vs 0, gw vs 1, gw vs 2, gw vs 3, gw vs 4, gw vs 5, gw vs 6, gw vs 7, gw vs 8, gw vs 9, gw vs 10, gw vs 11, gw vs 12, gw vs 13, gw vs 14, gw vs 15, gw vs 16, gw vs 17, gw vs 18, gw vs 19, gw vs 20, gw vs 21, gw vs 22, gw vs 23, gw vs 24, gw vs 25, gw vs 26, gw vs 27, gw vs 28, gw vs 29, gw vs 30, gw vs 31, gw vs 32, gw vs 33, gw vs 34, gw vs 35, gw vs 36, gw vs 37, gw vs 38, gw vs 39, gw vs 40, gw vs 41, gw vs 42, gw vs 43, gw vs 44, gw vs 45] from (gw_eta hl).trans rfl]
              have ha0 := HA0.out
              subst ha0
              clear HA0 hV hYZ hZb hsz0 hrows hne oe6 oe10
              simp only [putAll, Act.put, List.setIfInBounds_toArray, List.set_cons_zero, List.set_cons_succ, f0, f1, f2, f3, f5, f6, f7, f8, f9, f13, f14, f15, f16, f18, f19, f22, f23, f24, f25, f26, f28, f29, f30, f32, f33, f34, f35, f38, f41, f45]
              clear hl f0 f1 f2 f3 f5 f6 f7 f8 f9 f13 f14 f15 f16 f18 f19 f22 f23 f24 f25 f26 f28 f29 f30 f32 f33 f34 f35 f38 f41 f45
              go_upto_region 32 with (fail)
              refine wp_region_U 145 [143, 6, 7] [0, 1, 2] (fun a0 HA0 => ?_)
              have oe10 := ev HA0 10 rfl
              refine QSeq.pure rfl _ (fun E => ex_move rfl (E.v oe10)) ?_
              refine QSeq.pure rfl _ (fun E => ex_assign rfl (E.d 0 0)) ?_
              refine QSeq.pure rfl (.slice none 0 0) (fun E => ex_assign rfl rfl) ?_
              refine QSeq.nil (t' := [_, _, _]) rfl ?_
              obtain rfl := HA0.out
              clear HA0 oe10
              simp only [pz, Act.put, List.setIfInBounds_toArray, List.set_cons_zero, List.set_cons_succ]
              go_upto_region 11 with (fail)
              refine wp_region_U 145 [34, 35, 8] [0, 1, 2] (fun a0 HA0 => ?_)
              have oe8 := ev HA0 8 rfl
              refine QSeq.pure rfl _ (fun E => ex_move rfl (E.y 2 oe8)) ?_
              refine QSeq.pure rfl (.int .i64 (((i + 1 : Nat) : Nat) : Int)) (fun E => ex_binE rfl (E.d 0 0) rfl (guard_ints _ _ _ _ _ _) (run_add_i _ _ Try.underlying3) (congrArg (Value.int .i64) (i64_eq (b := ((i + 1 : Nat) : Int)) (by omega) (by omega) (by omega)))) ?_
              refine QSeq.pure rfl _ (fun E => ex_assign rfl (E.d 1 0)) ?_
              refine QSeq.nil (t' := [_, _, _]) rfl ?_
              obtain rfl := HA0.out
              clear HA0 oe8
              simp only [pz, Act.put, List.setIfInBounds_toArray, List.set_cons_zero, List.set_cons_succ]
              go_wp2
              go_roundw
              case rel => exact ⟨i + 1, y, gd, [], _, (fun k => (P1 k) ∨ (New u25_3 u26_1 k)), (fun k => (New u26_1 u29_1 k)), (fun _ => False), rfl, rfl, by omega, by first | omega | (simp only [List.length_append, List.length_cons, List.length_nil] at *; omega), TrueI.opened HP.out.1, by omega, ((Hx18.out.mod Cx21.out (fun _ _ h => h)).mod Cx23.out (fun _ _ h => h)).widen (fun _ h => h) (by omega), ((Hx20.out.mod Cx23.out (fun _ _ h => h) (fun _ _ h => h)).widen (R' := (fun k => (New u26_1 u29_1 k))) (E' := (fun k => (New u26_1 u29_1 k))) (by intro k h1; first | omega | exact h1.elim | exact h1) (by intro k h1; first | omega | exact h1.elim | exact h1)), OwS.nil _ _ _ _ _, (by intro k h1 h2; rcases h1 with h1 | h1 <;> first | omega | (have hb := Kb1.out k h1; omega)), (fun _ _ h => h), (fun _ _ h => h), (by intro k h1; rcases h1 with h1 | h1 <;> first | omega | (have hb := Kb1.out k h1; omega)), (by intro k h1; first | omega), (fun _ h => h.elim), ((((((Kl.out.mod Cx8.out (fun _ _ h => h)).mod Cx12.out (by intro k h1 h2; omega)).mod Cx17.out (by intro k h1 h2; have hb := Kb1.out k h2; omega)).mod Cx19.out (by intro k h1 h2; have hb := Kb1.out k h2; omega)).mod Cx21.out (fun _ _ h => h)).mod Cx23.out (fun _ _ h => h)), ((((((Km.out.trans Cx8.out (fun _ _ h => h.elim)).trans Cx12.out (by intro k h1 h2; omega)).trans Cx17.out (by intro k h1 h2; first | exact h2 | omega | (have hb := Kb1.out k h2; omega))).trans Cx19.out (by intro k h1 h2; first | exact h2 | omega | (have hb := Kb1.out k h2; omega))).trans Cx21.out (fun _ _ h => h.elim)).trans Cx23.out (fun _ _ h => h.elim))⟩
              case measure => simp [intOf]; omega
            · have HP := Lib.hid hP
              have HNX := Lib.hid hnx
              clear hP hnx
              obtain ⟨rr, hrr⟩ : ∃ r, r = gd ++ [b0] := ⟨_, rfl⟩
              rw [← hrr] at HP
              have HRR := Lib.hid hrr
              clear hrr
              go_upto_region 26 with (fail)
              refine wp_region_U 145 [85, 86, 84, 87, 88, 4, 5] [0, 1, 2, 3, 4, 5, 6] (fun a0 HA0 => ?_)
              have oe3 := ev HA0 3 rfl
              refine QSeq.pure rfl _ (fun E => ex_move rfl (E.v oe3)) ?_
              refine QSeq.call rfl rfl Try.func9 (Open_L Hx16.out (by intro k h1; have hb := Kb1.out k h1; omega) (by omega) HP.out) (fun E => args1 (E.d 0 0)) ?_
              rintro e u26_1 ⟨y, rfl, qlg, hm⟩
              refine ⟨_, rfl, ?_⟩
              have Hx24 := hid (qlg.widen (R' := (fun k => (P1 k) ∨ (New u25_3 u26_1 k))) (fun _ h => h) (Nat.le_refl _))
              have zu26_1 := hm.size
              have Cx25 := hid (show Mod (fun k => (P1 k)) u25_3 u26_1 from hm)
              clear hm
              clear qlg Hx16
              refine QSeq.pure rfl _ (fun E => ex_move rfl (E.d 1 0)) ?_
              refine QSeq.pure rfl (.pointer (some ⟨y, 0, none⟩)) (fun E => ex_extract rfl (E.d 2 0) rfl) ?_
              refine QSeq.pure rfl (.int .i64 0) (fun E => ex_extract rfl (E.d 2 1) rfl) ?_
              refine QSeq.pure rfl _ (fun E => ex_assign rfl (E.d 3 1)) ?_
              refine QSeq.pure rfl _ (fun E => ex_assign rfl (E.d 4 1)) ?_
              refine QSeq.nil (t' := [_, _, _, _, _, _, _]) rfl ?_
              obtain rfl := HA0.out
              clear HA0 oe3
              simp only [pz, Act.put, List.setIfInBounds_toArray, List.set_cons_zero, List.set_cons_succ]
              go_upto_region 27 with (fail)
              refine wp_region_U 145 [89, 90, 91, 92, 93, 94] [0, 1, 2, 3, 4, 5] (fun a0 HA0 => ?_)
              have oe4 := ev HA0 4 rfl
              have oe5 := ev HA0 5 rfl
              refine QSeq.pure rfl _ (fun E => ex_move rfl (E.v oe5)) ?_
              refine QSeq.pure rfl (.bool false) (fun E => ex_binE rfl (E.d 0 0) rfl (guard_ints _ _ _ _ _ _) (run_neq_i _ _ _ Try.underlying26) (congrArg Value.bool (show _ = false from rfl))) ?_
              refine QSeq.pure rfl _ (fun E => ex_move rfl (E.d 1 0)) ?_
              refine QSeq.pureG rfl (.pointer (some ⟨y, 0, none⟩)) (fun E => ((wanted_of rfl rfl (E.sz 91 (by decide)) (E.d 2 0)).trans rfl)) (fun E => ex_move rfl (E.v oe4)) ?_
              refine QSeq.pureG rfl (.bool false) (fun E => ((wanted_of rfl rfl (E.sz 91 (by decide)) (E.d 2 1)).trans rfl)) (fun E => ex_bin rfl (E.d 3 0) rfl (guard_ptr _ _ _ _ _ _ _) (run_eql_nil _ Try.underlying25 (by kernel_rfl) _)) ?_
              refine QSeq.pure rfl (.bool false) (fun E => ex_pick rfl (E.d 2 2) rfl (E.d 4 0)) ?_
              refine QSeq.nil (t' := [_, _, _, _, _, _]) rfl ?_
              obtain rfl := HA0.out
              clear HA0 oe4 oe5
              simp only [pz, Act.put, List.setIfInBounds_toArray, List.set_cons_zero, List.set_cons_succ]
              have hrl : rr.length = gd.length + 1 := by rw [HRR.out]; simp
              go_upto_region 29 with (fail)
              refine wp_region_U 145 [95, 96, 10] [0, 1, 2] (fun a0 HA0 => ?_)
              have oe4 := ev HA0 4 rfl
              refine QSeq.pure rfl _ (fun E => ex_move rfl (E.v oe4)) ?_
              refine QSeq.call rfl rfl Try.func14 (Records_L Hx24.out (by intro k h1; rcases h1 with h1 | h1 <;> first | omega | (have hb := Kb1.out k h1; omega)) (by omega)) (fun E => args1 (E.d 0 0)) ?_
              rintro e u29_1 ⟨vr, rfl, qrec, hm⟩
              obtain ⟨ao_r, cap_r, rfl⟩ := qrec.shape
              have hcr := (OwS.capBd qrec).2
              refine ⟨_, rfl, ?_⟩
              have Hx26 := hid (qrec.widen (R' := (fun k => (New u26_1 u29_1 k))) (E' := (fun k => (New u26_1 u29_1 k))) (fun _ h => h) (fun _ h => h))
              have zu29_1 := hm.size
              have Cx27 := hid (show Mod (fun _ => False) u26_1 u29_1 from hm)
              clear hm
              clear qrec
              refine QSeq.pure rfl _ (fun E => ex_assign rfl (E.d 1 0)) ?_
              refine QSeq.nil (t' := [_, _, _]) rfl ?_
              obtain rfl := HA0.out
              clear HA0 oe4
              simp only [pz, Act.put, List.setIfInBounds_toArray, List.set_cons_zero, List.set_cons_succ]
              rw [maxLen_val] at hcr
              have hq := (Hx26.out.widen (R' := (fun k => (New u26_1 u29_1 k))) (E' := (fun k => (New u26_1 u29_1 k))) (by intro k h1; first | omega | exact h1.elim | exact h1) (by intro k h1; first | omega | exact h1.elim | exact h1)).rd.widen (R' := (fun k => (New u26_1 u29_1 k))) (fun k h => h.elim id id)
              have hil : gd.length < rr.length := by omega
              have hie : rr[gd.length] = b0 := (List.getElem_of_eq HRR.out hil).trans (by simp)
              obtain ⟨g1, o1, cs, ea1, hrg, hrd, hcs⟩ := hq.at (i := gd.length) hil
              clear hq
              obtain ⟨v1, rfl, hv1⟩ := hrd
              rw [hie] at hv1
              obtain ⟨a1, k1, rfl⟩ := hv1.shape
              subst ea1
              have HAT1 := hid (show CellsAt (fun k => (New u26_1 u29_1 k)) u29_1 g1 (o1 + gd.length * 1) [.slice a1 b0.length k1] from ⟨hrg, hcs⟩)
              have HEL1 := Lib.hid hv1
              clear hrg hcs hv1
              have hq := (((((Kn.out.mod Cx8.out (fun _ _ h => h) (fun _ _ h => h)).mod Cx12.out (by intro k h1 h2; have hb := Kb3.out k h1; omega) (by intro k h1 h2; have hb := Kb3.out k h1; omega)).mod Cx17.out (by intro k h1 h2; first | omega | (have hb := Kb3.out k h1; omega) | (have hb := Kb1.out k h2; omega) | exact Kd12.out k h1 h2 | exact Kd12.out k h2 h1 | exact Kd13.out k h1 h2 | exact Kd13.out k h2 h1 | exact Kd23.out k h1 h2 | exact Kd23.out k h2 h1 | (have hb := Kb3.out k h1; have hb2 := Kb1.out k h2; omega)) (by intro k h1 h2; first | omega | (have hb := Kb3.out k h1; omega) | (have hb := Kb1.out k h2; omega) | exact Kd12.out k h1 h2 | exact Kd12.out k h2 h1 | exact Kd13.out k h1 h2 | exact Kd13.out k h2 h1 | exact Kd23.out k h1 h2 | exact Kd23.out k h2 h1 | (have hb := Kb3.out k h1; have hb2 := Kb1.out k h2; omega))).mod Cx25.out (by intro k h1 h2; first | omega | (have hb := Kb3.out k h1; omega) | (have hb := Kb1.out k h2; omega) | exact Kd12.out k h1 h2 | exact Kd12.out k h2 h1 | exact Kd13.out k h1 h2 | exact Kd13.out k h2 h1 | exact Kd23.out k h1 h2 | exact Kd23.out k h2 h1 | (have hb := Kb3.out k h1; have hb2 := Kb1.out k h2; omega)) (by intro k h1 h2; first | omega | (have hb := Kb3.out k h1; omega) | (have hb := Kb1.out k h2; omega) | exact Kd12.out k h1 h2 | exact Kd12.out k h2 h1 | exact Kd13.out k h1 h2 | exact Kd13.out k h2 h1 | exact Kd23.out k h1 h2 | exact Kd23.out k h2 h1 | (have hb := Kb3.out k h1; have hb2 := Kb1.out k h2; omega))).mod Cx27.out (fun _ _ h => h) (fun _ _ h => h)).rd.widen (R' := P3) (fun k h => h.elim id id)
              have hnl : nx.length = t0.length + 1 := by rw [HNX.out]; rfl
              have hi0 : 0 < nx.length := by omega
              have hne0 : nx[0] = b0 := (List.getElem_of_eq HNX.out hi0).trans rfl
              obtain ⟨g2, o2, cs, ea2, hrg, hrd, hcs⟩ := hq.at (i := 0) hi0
              clear hq
              obtain ⟨v2, rfl, hv2⟩ := hrd
              rw [hne0] at hv2
              obtain ⟨a2, k2, rfl⟩ := hv2.shape
              subst ea2
              have HAT2 := hid (show CellsAt P3 u29_1 g2 (o2 + 0 * 1) [.slice a2 b0.length k2] from ⟨hrg, hcs⟩)
              have HEL2 := Lib.hid hv2
              clear hrg hcs hv2
              go_upto_region 30 with (fail)
              generalize ha0 : Act.mk _ _ = a0
              have oe6 : a0.eval (.tmp 6) = .slice aog gd.length capg := by rw [← ha0]; rfl
              have oe7 : a0.eval (.tmp 7) = .slice (some ⟨g2, o2, none⟩) nx.length capn := by rw [← ha0]; rfl
              have oe10 : a0.eval (.tmp 10) = .slice (some ⟨g1, o1, none⟩) rr.length cap_r := by rw [← ha0]; rfl
              have hsz0 : a0.tmps.size = 145 := by rw [← ha0]; rfl
              have HA0 := hid ha0
              clear ha0
              refine wp_region_Q0 145 hsz0 [97, 98, 99, 100, 101, 102, 103, 104, 105, 106, 107, 108, 109, 110, 111, 112, 113, 114, 115, 116, 117, 118, 119, 120, 121, 122, 123, 124, 125, 126, 127, 128, 129, 130, 131, 132, 133, 134, 135, 136, 137, 138, 139, 140, 141, 142] [qi (.slice (some ⟨g1, o1, none⟩) rr.length cap_r), qi (.int .i64 rr.length), qi (.slice aog gd.length capg), qi (.int .i64 gd.length), qi (.bool false), qi (.bool false), qi (.slice (some ⟨g1, o1, none⟩) rr.length cap_r), qi (.int .i64 rr.length), qi (.slice aog gd.length capg), qi (.int .i64 gd.length), qi (.int .i64 (((gd.length + 1 : Nat) : Nat) : Int)), qi (.bool false), qi (.bool false), qi (.bool false), qi (.slice (some ⟨g1, o1, none⟩) rr.length cap_r), qi (.slice aog gd.length capg), qi (.int .i64 gd.length), qi (.slice (some ⟨g1, o1, none⟩) gd.length cap_r), qi (.slice aog gd.length capg), qi (.bool true), qi (.bool false), qi (.bool false), qi (.bool false), qi (.slice (some ⟨g1, o1, none⟩) rr.length cap_r), qi (.int .i64 rr.length), qi (.slice aog gd.length capg), qi (.int .i64 gd.length), qi (.bool true), qi (.bool true), qi (.slice (some ⟨g2, o2, none⟩) nx.length capn), qi (.int .i64 nx.length), qi (.bool false), qi (.bool false), qi (.slice (some ⟨g1, o1, none⟩) rr.length cap_r), qi (.slice aog gd.length capg), qi (.int .i64 gd.length), qi (.pointer (some ⟨g1, o1 + gd.length * 1, none⟩)), qi (.slice a1 b0.length k1), qi (.slice (some ⟨g2, o2, none⟩) nx.length capn), qi (.pointer (some ⟨g2, o2 + 0 * 1, none⟩)), qi (.slice a2 b0.length k2), qi (.bool true), qi (.bool false), qi (.bool false), qi (.bool false), qi (.bool false)] ⟨qi_stable, qi_stable, qi_stable, qi_stable, qi_stable, qi_stable, qi_stable, qi_stable, qi_stable, qi_stable, qi_stable, qi_stable, qi_stable, qi_stable, qi_stable, qi_stable, qi_stable, qi_stable, qi_stable, qi_stable, qi_stable, qi_stable, qi_stable, qi_stable, qi_stable, qi_stable, qi_stable, qi_stable, qi_stable, qi_stable, qi_stable, qi_stable, qi_stable, qi_stable, qi_stable, qi_stable, qi_stable, qi_stable, qi_stable, qi_stable, qi_stable, qi_stable, qi_stable, qi_stable, qi_stable, qi_stable, trivial⟩ [19, 41] ⟨?_, ?_, ?_, ?_, ?_, ?_, ?_, ?_, ?_, ?_, ?_, ?_, ?_, ?_, ?_, ?_, ?_, ?_, ?_, ?_, ?_, ?_, ?_, ?_, ?_, ?_, ?_, ?_, ?_, ?_, ?_, ?_, ?_, ?_, ?_, ?_, ?_, ?_, ?_, ?_, ?_, ?_, ?_, ?_, ?_, ?_, trivial⟩ ?_
              · exact stq (fun E => ex_move rfl (E.v oe10))
              · exact stq (fun E => ex_lenS rfl (E.d 0) Try.underlying33)
              · exact stq (fun E => ex_move rfl (E.v oe6))
              · exact stq (fun E => ex_lenS rfl (E.d 2) Try.underlying33)
              · exact stq (fun E => ex_binE rfl (E.d 1) (E.d 3) (guard_ints _ _ _ _ _ _) (run_lss_i _ _ _ Try.underlying3) (congrArg Value.bool (decide_eq_false (by omega))))
              · exact stq (fun E => ex_move rfl (E.d 4))
              · refine stepq_env rfl rfl rfl fun _ _ _ _ _ _ _ hout hsz hd _ _ => ?_
                have h5 := hd ⟨5, .guard⟩ (by simp) rfl _ rfl
                refine qe_run rfl ((wanted_of rfl rfl (hsz 102 (by decide)) h5).trans rfl) (ex_move rfl ((hout 10 (by decide)).trans oe10)) QE.refl ?_
                rfl
              · refine stepq_env rfl rfl rfl fun _ _ _ _ _ _ _ _ hsz hd _ _ => ?_
                have h5 := hd ⟨5, .guard⟩ (by simp) rfl _ rfl
                have h6 := hd ⟨6, .data⟩ (by simp) rfl _ rfl
                refine qe_run rfl ((wanted_of rfl rfl (hsz 102 (by decide)) h5).trans rfl) (ex_lenS rfl h6 Try.underlying33) QE.refl ?_
                rfl
              · refine stepq_env rfl rfl rfl fun _ _ _ _ _ _ _ hout hsz hd _ _ => ?_
                have h5 := hd ⟨5, .guard⟩ (by simp) rfl _ rfl
                refine qe_run rfl ((wanted_of rfl rfl (hsz 102 (by decide)) h5).trans rfl) (ex_move rfl ((hout 6 (by decide)).trans oe6)) QE.refl ?_
                rfl
              · refine stepq_env rfl rfl rfl fun _ _ _ _ _ _ _ _ hsz hd _ _ => ?_
                have h5 := hd ⟨5, .guard⟩ (by simp) rfl _ rfl
                have h8 := hd ⟨8, .data⟩ (by simp) rfl _ rfl
                refine qe_run rfl ((wanted_of rfl rfl (hsz 102 (by decide)) h5).trans rfl) (ex_lenS rfl h8 Try.underlying33) QE.refl ?_
                rfl
              · refine stepq_env rfl rfl rfl fun _ _ _ _ _ _ _ _ hsz hd _ _ => ?_
                have h5 := hd ⟨5, .guard⟩ (by simp) rfl _ rfl
                have h9 := hd ⟨9, .data⟩ (by simp) rfl _ rfl
                refine qe_run rfl ((wanted_of rfl rfl (hsz 102 (by decide)) h5).trans rfl) (ex_binE rfl h9 rfl (guard_ints _ _ _ _ _ _) (run_add_i _ _ Try.underlying3) (congrArg (Value.int .i64) (i64_eq (b := ((gd.length + 1 : Nat) : Int)) (by omega) (by omega) (by omega)))) QE.refl ?_
                rfl
              · refine stepq_env rfl rfl rfl fun _ _ _ _ _ _ _ _ hsz hd _ _ => ?_
                have h5 := hd ⟨5, .guard⟩ (by simp) rfl _ rfl
                have h7 := hd ⟨7, .data⟩ (by simp) rfl _ rfl
                have h10 := hd ⟨10, .data⟩ (by simp) rfl _ rfl
                refine qe_run rfl ((wanted_of rfl rfl (hsz 102 (by decide)) h5).trans rfl) (ex_binE rfl h7 h10 (guard_ints _ _ _ _ _ _) (run_gtr_i _ _ _ Try.underlying3) (congrArg Value.bool (decide_eq_false (by omega)))) QE.refl ?_
                rfl
              · exact stq (fun E => ex_pick rfl (E.d 5) rfl (E.d 11))
              · exact stq (fun E => ex_move rfl (E.d 12))
              · refine stepq_env rfl rfl rfl fun _ _ _ _ _ _ _ hout hsz hd _ _ => ?_
                have h13 := hd ⟨13, .guard⟩ (by simp) rfl _ rfl
                refine qe_run rfl ((wanted_of rfl rfl (hsz 110 (by decide)) h13).trans rfl) (ex_move rfl ((hout 10 (by decide)).trans oe10)) QE.refl ?_
                rfl
              · refine stepq_env rfl rfl rfl fun _ _ _ _ _ _ _ hout hsz hd _ _ => ?_
                have h13 := hd ⟨13, .guard⟩ (by simp) rfl _ rfl
                refine qe_run rfl ((wanted_of rfl rfl (hsz 110 (by decide)) h13).trans rfl) (ex_move rfl ((hout 6 (by decide)).trans oe6)) QE.refl ?_
                rfl
              · refine stepq_env rfl rfl rfl fun _ _ _ _ _ _ _ _ hsz hd _ _ => ?_
                have h13 := hd ⟨13, .guard⟩ (by simp) rfl _ rfl
                have h15 := hd ⟨15, .data⟩ (by simp) rfl _ rfl
                refine qe_run rfl ((wanted_of rfl rfl (hsz 110 (by decide)) h13).trans rfl) (ex_lenS rfl h15 Try.underlying33) QE.refl ?_
                rfl
              · refine stepq_env rfl rfl rfl fun _ _ _ _ _ _ _ _ hsz hd _ _ => ?_
                have h13 := hd ⟨13, .guard⟩ (by simp) rfl _ rfl
                have h14 := hd ⟨14, .data⟩ (by simp) rfl _ rfl
                have h16 := hd ⟨16, .data⟩ (by simp) rfl _ rfl
                refine qe_run rfl ((wanted_of rfl rfl (hsz 110 (by decide)) h13).trans rfl) (ex_sliceTo (i := gd.length) (s := 1) rfl Try.underlying33 (by kernel_rfl) h14 h16 (by omega)) QE.refl ?_
                rfl
              · refine stepq_env rfl rfl rfl fun _ _ _ _ _ _ _ hout hsz hd _ _ => ?_
                have h13 := hd ⟨13, .guard⟩ (by simp) rfl _ rfl
                refine qe_run rfl ((wanted_of rfl rfl (hsz 110 (by decide)) h13).trans rfl) (ex_move rfl ((hout 6 (by decide)).trans oe6)) QE.refl ?_
                rfl
              · exact stepq_chain rfl
              · refine stepq_env rfl rfl rfl fun _ _ _ _ _ _ _ _ hsz hd _ _ => ?_
                have h13 := hd ⟨13, .guard⟩ (by simp) rfl _ rfl
                have h19 := hd ⟨19, .data⟩ (by simp) rfl _ rfl
                refine qe_run rfl ((wanted_of rfl rfl (hsz 110 (by decide)) h13).trans rfl) (ex_not rfl h19) QE.refl ?_
                rfl
              · exact stq (fun E => ex_pick rfl (E.d 13) rfl (E.d 20))
              · exact stq (fun E => ex_move rfl (E.d 21))
              · refine stepq_env rfl rfl rfl fun _ _ _ _ _ _ _ hout hsz hd _ _ => ?_
                have h22 := hd ⟨22, .guard⟩ (by simp) rfl _ rfl
                refine qe_run rfl ((wanted_of rfl rfl (hsz 119 (by decide)) h22).trans rfl) (ex_move rfl ((hout 10 (by decide)).trans oe10)) QE.refl ?_
                rfl
              · refine stepq_env rfl rfl rfl fun _ _ _ _ _ _ _ _ hsz hd _ _ => ?_
                have h22 := hd ⟨22, .guard⟩ (by simp) rfl _ rfl
                have h23 := hd ⟨23, .data⟩ (by simp) rfl _ rfl
                refine qe_run rfl ((wanted_of rfl rfl (hsz 119 (by decide)) h22).trans rfl) (ex_lenS rfl h23 Try.underlying33) QE.refl ?_
                rfl
              · refine stepq_env rfl rfl rfl fun _ _ _ _ _ _ _ hout hsz hd _ _ => ?_
                have h22 := hd ⟨22, .guard⟩ (by simp) rfl _ rfl
                refine qe_run rfl ((wanted_of rfl rfl (hsz 119 (by decide)) h22).trans rfl) (ex_move rfl ((hout 6 (by decide)).trans oe6)) QE.refl ?_
                rfl
              · refine stepq_env rfl rfl rfl fun _ _ _ _ _ _ _ _ hsz hd _ _ => ?_
                have h22 := hd ⟨22, .guard⟩ (by simp) rfl _ rfl
                have h25 := hd ⟨25, .data⟩ (by simp) rfl _ rfl
                refine qe_run rfl ((wanted_of rfl rfl (hsz 119 (by decide)) h22).trans rfl) (ex_lenS rfl h25 Try.underlying33) QE.refl ?_
                rfl
              · refine stepq_env rfl rfl rfl fun _ _ _ _ _ _ _ _ hsz hd _ _ => ?_
                have h22 := hd ⟨22, .guard⟩ (by simp) rfl _ rfl
                have h24 := hd ⟨24, .data⟩ (by simp) rfl _ rfl
                have h26 := hd ⟨26, .data⟩ (by simp) rfl _ rfl
                refine qe_run rfl ((wanted_of rfl rfl (hsz 119 (by decide)) h22).trans rfl) (ex_binE rfl h24 h26 (guard_ints _ _ _ _ _ _) (run_gtr_i _ _ _ Try.underlying3) (congrArg Value.bool (decide_eq_true (by omega)))) QE.refl ?_
                rfl
              · refine stepq_env rfl rfl rfl fun _ _ _ _ _ _ _ _ hsz hd _ _ => ?_
                have h22 := hd ⟨22, .chain⟩ (by simp) rfl _ rfl
                have h27 := hd ⟨27, .data⟩ (by simp) rfl _ rfl
                refine qe_run rfl ((wanted_of rfl rfl (hsz 119 (by decide)) h22).trans rfl) (ex_move rfl h27) QE.refl ?_
                rfl
              · refine stepq_env rfl rfl rfl fun _ _ _ _ _ _ _ hout hsz hd _ _ => ?_
                have h28 := hd ⟨28, .guard⟩ (by simp) rfl _ rfl
                refine qe_run rfl ((wanted_of rfl rfl (hsz 125 (by decide)) h28).trans rfl) (ex_move rfl ((hout 7 (by decide)).trans oe7)) QE.refl ?_
                rfl
              · refine stepq_env rfl rfl rfl fun _ _ _ _ _ _ _ _ hsz hd _ _ => ?_
                have h28 := hd ⟨28, .guard⟩ (by simp) rfl _ rfl
                have h29 := hd ⟨29, .data⟩ (by simp) rfl _ rfl
                refine qe_run rfl ((wanted_of rfl rfl (hsz 125 (by decide)) h28).trans rfl) (ex_lenS rfl h29 Try.underlying33) QE.refl ?_
                rfl
              · refine stepq_env rfl rfl rfl fun _ _ _ _ _ _ _ _ hsz hd _ _ => ?_
                have h28 := hd ⟨28, .guard⟩ (by simp) rfl _ rfl
                have h30 := hd ⟨30, .data⟩ (by simp) rfl _ rfl
                refine qe_run rfl ((wanted_of rfl rfl (hsz 125 (by decide)) h28).trans rfl) (ex_binE rfl h30 rfl (guard_ints _ _ _ _ _ _) (run_eql_i _ _ _ Try.underlying3) (congrArg Value.bool (eq_ff (by omega)))) QE.refl ?_
                rfl
              · refine stepq_env rfl rfl rfl fun _ _ _ _ _ _ _ _ hsz hd _ _ => ?_
                have h28 := hd ⟨28, .chain⟩ (by simp) rfl _ rfl
                have h31 := hd ⟨31, .data⟩ (by simp) rfl _ rfl
                refine qe_run rfl ((wanted_of rfl rfl (hsz 125 (by decide)) h28).trans rfl) (ex_move rfl h31) QE.refl ?_
                rfl
              · refine stepq_env rfl rfl rfl fun _ _ _ _ _ _ _ hout hsz hd _ _ => ?_
                have h32 := hd ⟨32, .guard⟩ (by simp) rfl _ rfl
                refine qe_run rfl ((wanted_of rfl rfl (hsz 129 (by decide)) h32).trans rfl) (ex_move rfl ((hout 10 (by decide)).trans oe10)) QE.refl ?_
                rfl
              · refine stepq_env rfl rfl rfl fun _ _ _ _ _ _ _ hout hsz hd _ _ => ?_
                have h32 := hd ⟨32, .guard⟩ (by simp) rfl _ rfl
                refine qe_run rfl ((wanted_of rfl rfl (hsz 129 (by decide)) h32).trans rfl) (ex_move rfl ((hout 6 (by decide)).trans oe6)) QE.refl ?_
                rfl
              · refine stepq_env rfl rfl rfl fun _ _ _ _ _ _ _ _ hsz hd _ _ => ?_
                have h32 := hd ⟨32, .guard⟩ (by simp) rfl _ rfl
                have h34 := hd ⟨34, .data⟩ (by simp) rfl _ rfl
                refine qe_run rfl ((wanted_of rfl rfl (hsz 129 (by decide)) h32).trans rfl) (ex_lenS rfl h34 Try.underlying33) QE.refl ?_
                rfl
              · refine stepq_env rfl rfl rfl fun _ _ _ _ _ _ _ _ hsz hd _ _ => ?_
                have h32 := hd ⟨32, .guard⟩ (by simp) rfl _ rfl
                have h33 := hd ⟨33, .data⟩ (by simp) rfl _ rfl
                have h35 := hd ⟨35, .data⟩ (by simp) rfl _ rfl
                refine qe_run rfl ((wanted_of rfl rfl (hsz 129 (by decide)) h32).trans rfl) (ex_idxS (i := gd.length) (s := 1) rfl Try.underlying33 (by kernel_rfl) h33 h35 (by omega)) QE.refl ?_
                rfl
              · refine stepq_env rfl rfl rfl fun _ _ _ _ _ hm _ _ hsz hd _ _ => ?_
                have h32 := hd ⟨32, .guard⟩ (by simp) rfl _ rfl
                have h36 := hd ⟨36, .data⟩ (by simp) rfl _ rfl
                refine qe_run rfl ((wanted_of rfl rfl (hsz 129 (by decide)) h32).trans rfl) (ex_load1 rfl Try.underlying22 rfl h36 (((HAT1.out.mod hm.old (by intro k h1 h2; omega))).2 0 _ rfl)) QE.refl ?_
                rfl
              · refine stepq_env rfl rfl rfl fun _ _ _ _ _ _ _ hout hsz hd _ _ => ?_
                have h32 := hd ⟨32, .guard⟩ (by simp) rfl _ rfl
                refine qe_run rfl ((wanted_of rfl rfl (hsz 129 (by decide)) h32).trans rfl) (ex_move rfl ((hout 7 (by decide)).trans oe7)) QE.refl ?_
                rfl
              · refine stepq_env rfl rfl rfl fun _ _ _ _ _ _ _ _ hsz hd _ _ => ?_
                have h32 := hd ⟨32, .guard⟩ (by simp) rfl _ rfl
                have h38 := hd ⟨38, .data⟩ (by simp) rfl _ rfl
                refine qe_run rfl ((wanted_of rfl rfl (hsz 129 (by decide)) h32).trans rfl) (ex_idxS (i := 0) (s := 1) rfl Try.underlying33 (by kernel_rfl) h38 rfl (by omega)) QE.refl ?_
                rfl
              · refine stepq_env rfl rfl rfl fun _ _ _ _ _ hm _ _ hsz hd _ _ => ?_
                have h32 := hd ⟨32, .guard⟩ (by simp) rfl _ rfl
                have h39 := hd ⟨39, .data⟩ (by simp) rfl _ rfl
                refine qe_run rfl ((wanted_of rfl rfl (hsz 129 (by decide)) h32).trans rfl) (ex_load1 rfl Try.underlying22 rfl h39 (((HAT2.out.mod hm.old (by intro k h1 h2; have hb := Kb3.out k h1; omega))).2 0 _ rfl)) QE.refl ?_
                rfl
              · exact stepq_chain rfl
              · refine stepq_env rfl rfl rfl fun _ _ _ _ _ _ _ _ hsz hd _ _ => ?_
                have h32 := hd ⟨32, .guard⟩ (by simp) rfl _ rfl
                have h41 := hd ⟨41, .data⟩ (by simp) rfl _ rfl
                refine qe_run rfl ((wanted_of rfl rfl (hsz 129 (by decide)) h32).trans rfl) (ex_not rfl h41) QE.refl ?_
                rfl
              · refine stepq_env rfl rfl rfl fun _ _ _ _ _ _ _ _ hsz hd _ _ => ?_
                have h28 := hd ⟨28, .guard⟩ (by simp) rfl _ rfl
                have h32 := hd ⟨32, .data⟩ (by simp) rfl _ rfl
                have h42 := hd ⟨42, .data⟩ (by simp) rfl _ rfl
                refine qe_run rfl ((wanted_of rfl rfl (hsz 125 (by decide)) h28).trans rfl) (ex_pick rfl h32 rfl h42) QE.refl ?_
                rfl
              · refine stepq_env rfl rfl rfl fun _ _ _ _ _ _ _ _ hsz hd _ _ => ?_
                have h22 := hd ⟨22, .guard⟩ (by simp) rfl _ rfl
                have h28 := hd ⟨28, .data⟩ (by simp) rfl _ rfl
                have h43 := hd ⟨43, .data⟩ (by simp) rfl _ rfl
                refine qe_run rfl ((wanted_of rfl rfl (hsz 119 (by decide)) h22).trans rfl) (ex_pick rfl h28 h43 rfl) QE.refl ?_
                rfl
              · exact stq (fun E => ex_pick rfl (E.d 22) rfl (E.d 44))
              intro u30_0 hr
              have zu30_0 := hr.size
              have Cx28 := hid (hr.new (S := (fun _ => False)))
              clear hr
              refine QChain.go fun Z act E => ?_
              refine qc_callF (args := #[.slice (some ⟨g1, o1, none⟩) gd.length cap_r, .slice aog gd.length capg]) rfl ((wanted_of rfl rfl (E.sz 110 (by decide)) (E.e 13 .chain)).trans rfl) rfl Try.func18 (args2 (E.d 17) (E.d 18)) (Rows_T (R := (fun k => (New u26_1 u29_1 k))) (R2 := (fun k => (P2 k))) (by have hq := (OwS.upto ((Hx26.out.mod Cx28.out (fun _ _ h => h) (fun _ _ h => h)).widen (R' := (fun k => (New u26_1 u29_1 k))) (E' := (fun k => (New u26_1 u29_1 k))) (by intro k h1; first | omega | exact h1.elim | exact h1) (by intro k h1; first | omega | exact h1.elim | exact h1)) gd.length cap_r (by omega) (Or.inl rfl)).rd.widen (R' := (fun k => (New u26_1 u29_1 k))) (fun k h => h.elim id id); rw [HRR.out, List.take_left] at hq; exact hq) ((((((((Ko.out.mod Cx8.out (fun _ _ h => h) (fun _ _ h => h)).mod Cx12.out (by intro k h1 h2; have hb := Kb2.out k h1; omega) (by intro k h1 h2; have hb := Kb2.out k h1; omega)).mod Cx17.out (by intro k h1 h2; first | omega | (have hb := Kb2.out k h1; omega) | (have hb := Kb1.out k h2; omega) | exact Kd12.out k h1 h2 | exact Kd12.out k h2 h1 | exact Kd13.out k h1 h2 | exact Kd13.out k h2 h1 | exact Kd23.out k h1 h2 | exact Kd23.out k h2 h1 | (have hb := Kb2.out k h1; have hb2 := Kb1.out k h2; omega)) (by intro k h1 h2; first | omega | (have hb := Kb2.out k h1; omega) | (have hb := Kb1.out k h2; omega) | exact Kd12.out k h1 h2 | exact Kd12.out k h2 h1 | exact Kd13.out k h1 h2 | exact Kd13.out k h2 h1 | exact Kd23.out k h1 h2 | exact Kd23.out k h2 h1 | (have hb := Kb2.out k h1; have hb2 := Kb1.out k h2; omega))).mod Cx25.out (by intro k h1 h2; first | omega | (have hb := Kb2.out k h1; omega) | (have hb := Kb1.out k h2; omega) | exact Kd12.out k h1 h2 | exact Kd12.out k h2 h1 | exact Kd13.out k h1 h2 | exact Kd13.out k h2 h1 | exact Kd23.out k h1 h2 | exact Kd23.out k h2 h1 | (have hb := Kb2.out k h1; have hb2 := Kb1.out k h2; omega)) (by intro k h1 h2; first | omega | (have hb := Kb2.out k h1; omega) | (have hb := Kb1.out k h2; omega) | exact Kd12.out k h1 h2 | exact Kd12.out k h2 h1 | exact Kd13.out k h1 h2 | exact Kd13.out k h2 h1 | exact Kd23.out k h1 h2 | exact Kd23.out k h2 h1 | (have hb := Kb2.out k h1; have hb2 := Kb1.out k h2; omega))).mod Cx27.out (fun _ _ h => h) (fun _ _ h => h)).mod Cx28.out (fun _ _ h => h) (fun _ _ h => h)).widen (R' := (fun k => (P2 k))) (E' := (fun k => (P2 k))) (by intro k h1; first | omega | exact h1.elim | exact h1) (by intro k h1; first | omega | exact h1.elim | exact h1)).rd.widen (fun k h => h.elim id id)) (by intro k h1; first | omega) (by intro k h1; first | omega | (have hb := Kb2.out k h1; omega))) ?_
              rintro e u30_1a ⟨rfl, hm⟩
              have zu30_1a := hm.size
              refine ⟨_, rfl, hm.mono (fun _ _ h => h.elim), (fun _ => rfl), ?_⟩
              intro u30_1 hr
              have zu30_1 := hr.size
              have Cx29 := hid (Cx28.out.go hm hr)
              clear Cx28 hm hr Z act E
              refine QChain.go fun Z act E => ?_
              refine qc_callF (args := #[.slice a1 b0.length k1, .slice a2 b0.length k2]) rfl ((wanted_of rfl rfl (E.sz 129 (by decide)) (E.e 32 .chain)).trans rfl) rfl Try.func15 (args2 (E.d 37) (E.d 40)) (Same_T (HEL1.out.mod Cx29.out (fun _ _ h => h)) (HEL2.out.mod Cx29.out (fun _ _ h => h))) ?_
              rintro e u30_2a ⟨rfl, hm⟩
              have zu30_2a := hm.size
              refine ⟨_, rfl, hm.mono (fun _ _ h => h.elim), (fun _ => rfl), ?_⟩
              intro u30_2 hr
              have zu30_2 := hr.size
              have Cx30 := hid (Cx29.out.go hm hr)
              clear Cx29 hm hr Z act E
              refine QChain.nil fun vs hl hzz hrows hne => ?_
              obtain ⟨Z, hYZ, hZb, hV⟩ := hzz
              have f0 := fvi hV hl 0
              have f1 := fvi hV hl 1
              have f2 := fvi hV hl 2
              have f3 := fvi hV hl 3
              have f5 := fvi hV hl 5
              have f6 := fvi hV hl 6
              have f7 := fvi hV hl 7
              have f8 := fvi hV hl 8
              have f9 := fvi hV hl 9
              have f13 := fvi hV hl 13
              have f14 := fvi hV hl 14
              have f15 := fvi hV hl 15
              have f16 := fvi hV hl 16
              have f18 := fvi hV hl 18
              have f19 := fvi hV hl 19
              have f22 := fvi hV hl 22
              have f23 := fvi hV hl 23
              have f24 := fvi hV hl 24
              have f25 := fvi hV hl 25
              have f26 := fvi hV hl 26
              have f28 := fvi hV hl 28
              have f29 := fvi hV hl 29
              have f30 := fvi hV hl 30
              have f32 := fvi hV hl 32
              have f33 := fvi hV hl 33
              have f34 := fvi hV hl 34
              have f35 := fvi hV hl 35
              have f38 := fvi hV hl 38
              have f41 := fvi hV hl 41
              have f45 := fvi hV hl 45
              rw [show vs = [gw vs 0, gw vs 1, gw vs 2, gw vs 3, gw vs 4, gw vs 5, gw vs 6, gw vs 7, gw vs 8, gw vs 9, gw vs 10, gw vs 11, gw vs 12, gw vs 13, gw vs 14, gw vs 15, gw vs 16, gw vs 17, gw vs 18, gw vs 19, gw vs 20, gw vs 21, gw vs 22, gw vs 23, gw vs 24, gw vs 25, gw vs 26, gw vs 27, gw vs 28, gw vs 29, gw vs 30, gw vs 31, gw vs 32, gw vs 33, gw vs 34, gw vs 35, gw vs 36, gw vs 37, gw vs 38, gw vs 39, gw vs 40, gw vs 41, gw vs 42, gw vs 43, gw vs 44, gw vs 45] from (gw_eta hl).trans rfl]
              have ha0 := HA0.out
              subst ha0
              clear HA0 hV hYZ hZb hsz0 hrows hne oe6 oe7 oe10
              simp only [putAll, Act.put, List.setIfInBounds_toArray, List.set_cons_zero, List.set_cons_succ, f0, f1, f2, f3, f5, f6, f7, f8, f9, f13, f14, f15, f16, f18, f19, f22, f23, f24, f25, f26, f28, f29, f30, f32, f33, f34, f35, f38, f41, f45]
              clear hl f0 f1 f2 f3 f5 f6 f7 f8 f9 f13 f14 f15 f16 f18 f19 f22 f23 f24 f25 f26 f28 f29 f30 f32 f33 f34 f35 f38 f41 f45
              clear HAT1
              clear HAT2
              clear HEL1
              clear HEL2
              go_upto_region 32 with (fail)
              refine wp_region_U 145 [143, 6, 7] [0, 1, 2] (fun a0 HA0 => ?_)
              have oe10 := ev HA0 10 rfl
              refine QSeq.pure rfl _ (fun E => ex_move rfl (E.v oe10)) ?_
              refine QSeq.pure rfl _ (fun E => ex_assign rfl (E.d 0 0)) ?_
              refine QSeq.pure rfl (.slice none 0 0) (fun E => ex_assign rfl rfl) ?_
              refine QSeq.nil (t' := [_, _, _]) rfl ?_
              obtain rfl := HA0.out
              clear HA0 oe10
              simp only [pz, Act.put, List.setIfInBounds_toArray, List.set_cons_zero, List.set_cons_succ]
              go_upto_region 11 with (fail)
              refine wp_region_U 145 [34, 35, 8] [0, 1, 2] (fun a0 HA0 => ?_)
              have oe8 := ev HA0 8 rfl
              refine QSeq.pure rfl _ (fun E => ex_move rfl (E.y 2 oe8)) ?_
              refine QSeq.pure rfl (.int .i64 (((i + 1 : Nat) : Nat) : Int)) (fun E => ex_binE rfl (E.d 0 0) rfl (guard_ints _ _ _ _ _ _) (run_add_i _ _ Try.underlying3) (congrArg (Value.int .i64) (i64_eq (b := ((i + 1 : Nat) : Int)) (by omega) (by omega) (by omega)))) ?_
              refine QSeq.pure rfl _ (fun E => ex_assign rfl (E.d 1 0)) ?_
              refine QSeq.nil (t' := [_, _, _]) rfl ?_
              obtain rfl := HA0.out
              clear HA0 oe8
              simp only [pz, Act.put, List.setIfInBounds_toArray, List.set_cons_zero, List.set_cons_succ]
              go_wp2
              go_roundw
              case rel => exact ⟨i + 1, y, rr, [], _, (fun k => (P1 k) ∨ (New u25_3 u26_1 k)), (fun k => (New u26_1 u29_1 k)), (fun _ => False), rfl, rfl, by omega, by first | omega | (simp only [List.length_append, List.length_cons, List.length_nil] at *; omega), TrueI.opened HP.out.1, by omega, ((Hx24.out.mod Cx27.out (fun _ _ h => h)).mod Cx30.out (fun _ _ h => h)).widen (fun _ h => h) (by omega), ((Hx26.out.mod Cx30.out (fun _ _ h => h) (fun _ _ h => h)).widen (R' := (fun k => (New u26_1 u29_1 k))) (E' := (fun k => (New u26_1 u29_1 k))) (by intro k h1; first | omega | exact h1.elim | exact h1) (by intro k h1; first | omega | exact h1.elim | exact h1)), OwS.nil _ _ _ _ _, (by intro k h1 h2; rcases h1 with h1 | h1 <;> first | omega | (have hb := Kb1.out k h1; omega)), (fun _ _ h => h), (fun _ _ h => h), (by intro k h1; rcases h1 with h1 | h1 <;> first | omega | (have hb := Kb1.out k h1; omega)), (by intro k h1; first | omega), (fun _ h => h.elim), ((((((Kl.out.mod Cx8.out (fun _ _ h => h)).mod Cx12.out (by intro k h1 h2; omega)).mod Cx17.out (by intro k h1 h2; have hb := Kb1.out k h2; omega)).mod Cx25.out (by intro k h1 h2; have hb := Kb1.out k h2; omega)).mod Cx27.out (fun _ _ h => h)).mod Cx30.out (fun _ _ h => h)), ((((((Km.out.trans Cx8.out (fun _ _ h => h.elim)).trans Cx12.out (by intro k h1 h2; omega)).trans Cx17.out (by intro k h1 h2; first | exact h2 | omega | (have hb := Kb1.out k h2; omega))).trans Cx25.out (by intro k h1 h2; first | exact h2 | omega | (have hb := Kb1.out k h2; omega))).trans Cx27.out (fun _ _ h => h.elim)).trans Cx30.out (fun _ _ h => h.elim))⟩
              case measure => simp [intOf]; omega
        · skip
          go_upto_region 21 with (fail)
          refine wp_region_U 145 [71, 70] [0, 1] (fun a0 HA0 => ?_)
          have oe46 := ev HA0 46 rfl
          refine QSeq.pure rfl (.bool false) (fun E => ex_binE rfl (E.v oe46) rfl (guard_ints _ _ _ _ _ _) (run_eql_i _ _ _ Try.underlying3) (congrArg Value.bool (eq_ff (by omega)))) ?_
          refine QSeq.pure rfl _ (fun E => ex_assign rfl (E.d 0 0)) ?_
          refine QSeq.nil (t' := [_, _]) rfl ?_
          obtain rfl := HA0.out
          clear HA0 oe46
          simp only [pz, Act.put, List.setIfInBounds_toArray, List.set_cons_zero, List.set_cons_succ]
          go_upto_region 23 with (fail)
          refine wp_region_U 145 [78, 77] [0, 1] (fun a0 HA0 => ?_)
          have oe46 := ev HA0 46 rfl
          refine QSeq.pure rfl (.bool false) (fun E => ex_binE rfl (E.v oe46) rfl (guard_ints _ _ _ _ _ _) (run_eql_i _ _ _ Try.underlying3) (congrArg Value.bool (eq_ff (by omega)))) ?_
          refine QSeq.pure rfl _ (fun E => ex_assign rfl (E.d 0 0)) ?_
          refine QSeq.nil (t' := [_, _]) rfl ?_
          obtain rfl := HA0.out
          clear HA0 oe46
          simp only [pz, Act.put, List.setIfInBounds_toArray, List.set_cons_zero, List.set_cons_succ]
          go_upto_region 24 with (fail)
          refine wp_region_U 145 [79, 77] [0, 1] (fun a0 HA0 => ?_)
          have oe46 := ev HA0 46 rfl
          refine QSeq.pure rfl (.bool false) (fun E => ex_binE rfl (E.v oe46) rfl (guard_ints _ _ _ _ _ _) (run_eql_i _ _ _ Try.underlying3) (congrArg Value.bool (eq_ff (by omega)))) ?_
          refine QSeq.pure rfl _ (fun E => ex_assign rfl (E.d 0 0)) ?_
          refine QSeq.nil (t' := [_, _]) rfl ?_
          obtain rfl := HA0.out
          clear HA0 oe46
          simp only [pz, Act.put, List.setIfInBounds_toArray, List.set_cons_zero, List.set_cons_succ]
          have hput := KT.out.put (b := cb) (by omega)
          have HPT := Lib.hid hput
          clear hput
          rcases putE_is st cb with he | he
          · skip
            go_upto_region 15 with (fail)
            refine wp_region_U 145 [47, 48, 49, 50, 11] [0, 1, 2, 3, 4] (fun a0 HA0 => ?_)
            have oe4 := ev HA0 4 rfl
            have oe9 := ev HA0 9 rfl
            refine QSeq.pure rfl _ (fun E => ex_move rfl (E.v oe4)) ?_
            refine QSeq.pure rfl (.pointer (some ⟨wl.heap.size, 2, none⟩)) (fun E => ex_field rfl Try.underlying52 rfl (by kernel_rfl) (E.v oe9)) ?_
            refine QSeq.pure rfl _ (fun E => ex_load1 rfl Try.underlying22 rfl (E.d 1 0) (Cs.lit1 Hx11.out rfl)) ?_
            refine QSeq.call rfl rfl Try.func12 (Put_L0 ((Kg.out.mod Cx8.out (fun _ _ h => h)).mod Cx12.out (by intro k h1 h2; have hb := Kb1.out k h1; omega)) Hx13.out.rd (by intro k h1; have hb := Kb1.out k h1; omega) (by intro k h1; omega) (by intro k h1 h2; have hb := Kb1.out k h2; omega) (by omega) (by omega) (by omega) he) (fun E => args2 (E.d 0 2) (E.d 2 0)) ?_
            rintro e u15_3 ⟨rfl, qlg, hm⟩
            refine ⟨_, rfl, ?_⟩
            have Hx31 := hid (qlg.widen (R' := (fun k => (P1 k) ∨ (New u13_4 u15_3 k))) (fun _ h => h) (Nat.le_refl _))
            have zu15_3 := hm.size
            have Cx32 := hid (show Mod (fun k => (P1 k)) u13_4 u15_3 from hm)
            clear hm
            clear qlg Kg
            refine QSeq.pure rfl _ (fun E => ex_assign rfl (E.d 3 0)) ?_
            refine QSeq.nil (t' := [_, _, _, _, _]) rfl ?_
            obtain rfl := HA0.out
            clear HA0 oe4 oe9
            simp only [pz, Act.put, List.setIfInBounds_toArray, List.set_cons_zero, List.set_cons_succ]
            go_upto_region 16 with (fail)
            refine wp_region_U 145 [51, 52] [0, 1] (fun a0 HA0 => ?_)
            have oe11 := ev HA0 11 rfl
            refine QSeq.pure rfl _ (fun E => ex_move rfl (E.v oe11)) ?_
            refine QSeq.pure rfl (.bool true) (fun E => ex_binE rfl (E.d 0 0) rfl (guard_ints _ _ _ _ _ _) (run_eql_i _ _ _ Try.underlying26) (congrArg Value.bool (show _ = true from rfl))) ?_
            refine QSeq.nil (t' := [_, _]) rfl ?_
            obtain rfl := HA0.out
            clear HA0 oe11
            simp only [pz, Act.put, List.setIfInBounds_toArray, List.set_cons_zero, List.set_cons_succ]
            obtain ⟨rfl, hTn⟩ := HPT.out.1 he
            have HTN := Lib.hid hTn
            clear hTn
            have hq := OwS.upto (((Ko.out.mod Cx8.out (fun _ _ h => h) (fun _ _ h => h)).mod Cx12.out (by intro k h1 h2; have hb := Kb2.out k h1; omega) (by intro k h1 h2; have hb := Kb2.out k h1; omega)).mod Cx32.out (by intro k h1 h2; first | omega | (have hb := Kb2.out k h1; omega) | (have hb := Kb1.out k h2; omega) | exact Kd12.out k h1 h2 | exact Kd12.out k h2 h1 | exact Kd13.out k h1 h2 | exact Kd13.out k h2 h1 | exact Kd23.out k h1 h2 | exact Kd23.out k h2 h1 | (have hb := Kb2.out k h1; have hb2 := Kb1.out k h2; omega)) (by intro k h1 h2; first | omega | (have hb := Kb2.out k h1; omega) | (have hb := Kb1.out k h2; omega) | exact Kd12.out k h1 h2 | exact Kd12.out k h2 h1 | exact Kd13.out k h1 h2 | exact Kd13.out k h2 h1 | exact Kd23.out k h1 h2 | exact Kd23.out k h2 h1 | (have hb := Kb2.out k h1; have hb2 := Kb1.out k h2; omega))) gd.length gd.length (Nat.le_refl _) (Or.inr rfl)
            rw [List.take_length] at hq
            have HGD := Lib.hid hq
            clear hq
            go_upto_region 17 with (fail)
            generalize ha0 : Act.mk _ _ = a0
            have oe6 : a0.eval (.tmp 6) = .slice aog gd.length capg := by rw [← ha0]; rfl
            have oe9 : a0.eval (.tmp 9) = .pointer (some ⟨wl.heap.size, 0, none⟩) := by rw [← ha0]; rfl
            have hsz0 : a0.tmps.size = 145 := by rw [← ha0]; rfl
            have HA0 := hid ha0
            clear ha0
            refine wp_region_Q1 145 hsz0 [53, 54, 55, 56, 57, 58, 59, 60, 61, 62, 6] (fun k => (P2 k)) (fun k j => (k = 1 ∧ ((P2 j)))) (fun _ _ h => h.2) [qi (.slice aog gd.length capg), qi (.slice aog gd.length capg), qi (.int .i64 gd.length), qi (.slice aog gd.length capg), qi (.int .i64 gd.length), qi (.slice aog gd.length gd.length), qi (.pointer (some ⟨wl.heap.size, 2, none⟩)), qi (.slice ao_cut cb.length cap_cut), qv 0, qv 1, qv 1] ⟨qi_stable, qi_stable, qi_stable, qi_stable, qi_stable, qi_stable, qi_stable, qi_stable, qv_stable, qv_stable, qv_stable, trivial⟩ [8, 9] ⟨?_, ?_, ?_, ?_, ?_, ?_, ?_, ?_, ?_, ?_, ?_, trivial⟩ ?_
            · exact stq (fun E => ex_move rfl ((E.pre 10 6 rfl (by kernel_rfl)).trans oe6))
            · exact stq (fun E => ex_move rfl ((E.pre 10 6 rfl (by kernel_rfl)).trans oe6))
            · exact stq (fun E => ex_lenS rfl (E.d 1) Try.underlying33)
            · exact stq (fun E => ex_move rfl ((E.pre 10 6 rfl (by kernel_rfl)).trans oe6))
            · exact stq (fun E => ex_lenS rfl (E.d 3) Try.underlying33)
            · exact stq (fun E => ex_sliceTo3 (i := gd.length) (m := gd.length) (s := 1) rfl Try.underlying33 (by kernel_rfl) (E.d 0) (E.d 2) (E.d 4) (by omega) (by omega))
            · exact stq (fun E => ex_field rfl Try.underlying52 rfl (by kernel_rfl) (E.v oe9))
            · exact stq (fun E => ex_load1 rfl Try.underlying22 rfl (E.d 6) (Cs.lit1 ((Hx11.out.mod Cx32.out (by intro h2; first | omega | (have hb := Kb1.out _ h2; omega))).mod E.m (by intro h2; rcases h2 with ⟨h0, h2⟩ | h2 <;> first | omega | (have hb := Kb2.out _ h2; omega))) rfl))
            · exact stepq_chain rfl
            · exact stepq_chain rfl
            · refine stepq_env rfl rfl rfl fun _ _ _ _ _ _ _ _ _ hd _ _ => ?_
              have h9 := hd ⟨9, .data⟩ (by simp) rfl _ rfl
              exact qe_run rfl (wanted_none rfl) (ex_assign rfl rfl) QE.refl h9
            intro u17_0 hr
            have zu17_0 := hr.size
            have Cx33 := hid (hr.new (S := (fun k => (P2 k))))
            have Hx34 := hid (HGD.out.mod hr (by intro k h1 h2; have hb := Kb2.out k h1; omega) (by intro k h1 h2; have hb := Kb2.out k h1; omega))
            clear HGD
            clear hr
            refine QChain.go fun Z act E => ?_
            have ea60 : act.eval (.tmp 60) = .slice ao_cut cb.length cap_cut := (E.d 7)
            refine qc_rows rfl (wanted_none rfl) rfl Try.underlying33 (by decide) (C := #[.slice ao_cut cb.length cap_cut]) (by simp only [List.map_toArray, List.map_cons, List.map_nil, ea60]; kernel_rfl) ?_
            intro u17_1a qrow hm
            have zl17_8 := qrow.lt
            have zu17_1a := hm.size
            refine ⟨hm.mono (fun _ _ h => h.elim), (fun _ => rfl), ?_⟩
            intro u17_1 hr
            have zu17_1 := hr.size
            have Hx35 := hid (qrow.mod hr (by intro h2; omega))
            have hmr := Mod.after hm hr
            have Hx36 := hid (Hx34.out.mod hmr (by intro k h1 h2; have hb := Kb2.out k h1; omega) (by intro k h1 h2; have hb := Kb2.out k h1; omega))
            clear Hx34
            clear hmr
            have Cx37 := hid (Cx33.out.go hm hr)
            clear Cx33 hm hr Z act E qrow ea60
            refine QChain.go fun Z act E => ?_
            refine qc_appS (A := RwR) (e := 22) rfl (wanted_none rfl) rfl (.slice none 0 0) 24 Try.underlying33 info_Rw (by rfl) (of_decide_eq_true (by kernel_rfl)) (E.d 5) (chv (v := .slice (some ⟨u17_0.heap.size, 0, none⟩) 1 1) (E.d 8)) (Hx36.out) (RdS.single (R := (fun k => (New u12_5 u13_2 k) ∨ (k = u17_0.heap.size))) Hx35.out (RwR.mk (b := cb) (((Hx13.out.mod Cx32.out (by intro k h1 h2; have hb := Kb1.out k h2; omega)).mod Cx37.out (by intro k h1 h2; have hb := Kb2.out k h2; omega)).rd.widen (R' := (fun k => (New u12_5 u13_2 k) ∨ (k = u17_0.heap.size))) (fun k h1 => Or.inl h1) (Nat.le_refl _)) (by omega)) (by right; rfl)) (by intro k h1 h2; have hb := Kb2.out k h2; omega) (by simp only [List.length_cons, List.length_nil]; omega) (by rw [maxLen_val]; simp only [List.length_cons, List.length_nil]; omega) ?_
            intro ao11 cap11 u17_2a qgood hm
            have zu17_2a := hm.size
            refine ⟨hm.mono (by intro k hk h; first | omega | exact Or.inl ⟨(by have hb := Kb2.out k h; omega), ⟨rfl, h⟩⟩), (fun _ => rfl), ?_⟩
            intro u17_2 hr
            have zu17_2 := hr.size
            have Hx38 := hid ((qgood.widen (R' := (fun k => (P2 k) ∨ (New u17_1 u17_2a k))) (E' := (fun k => (P2 k) ∨ (New u12_5 u13_2 k) ∨ (k = u17_0.heap.size))) (fun _ h => h) (by intro k h1; rcases h1 with h1 | (h1 | h1) <;> first | omega | exact h1.elim | exact Or.inl h1 | exact Or.inr (Or.inl h1) | exact Or.inr (Or.inr (h1)))).mod hr (by intro k h1 h2; rcases h1 with h1 | h1 <;> first | omega | (have hb := Kb2.out k h1; omega)) (by intro k h1 h2; rcases h1 with h1 | h1 | h1 <;> first | omega | (have hb := Kb2.out k h1; omega)))
            have hmr := hm.two hr
            have Hx39 := hid (Hx35.out.mod hmr (by intro h2; rcases h2 with h2 | h2 <;> first | omega | (have hb := Kb2.out _ h2; omega)))
            clear Hx35
            clear hmr
            have Cx40 := hid (Cx37.out.goM hm hr (fun _ _ h => h))
            clear Cx37 hm hr Z act E qgood Hx36
            refine QChain.nil fun vs hl hzz hrows hne => ?_
            obtain ⟨Z, hYZ, hZb, hV⟩ := hzz
            have f0 := fvi hV hl 0
            have f1 := fvi hV hl 1
            have f2 := fvi hV hl 2
            have f3 := fvi hV hl 3
            have f4 := fvi hV hl 4
            have f8 := fvc hV hl 8
            have f9 := fvc hV hl 9
            have f10 := fvc hV hl 10
            rw [show vs = [gw vs 0, gw vs 1, gw vs 2, gw vs 3, gw vs 4, gw vs 5, gw vs 6, gw vs 7, gw vs 8, gw vs 9, gw vs 10] from (gw_eta hl).trans rfl]
            have ha0 := HA0.out
            subst ha0
            clear HA0 hV hYZ hZb hsz0 hrows hne oe6 oe9
            simp only [putAll, Act.put, List.setIfInBounds_toArray, List.set_cons_zero, List.set_cons_succ, f0, f1, f2, f3, f4, f8, f9, f10]
            clear hl f0 f1 f2 f3 f4 f8 f9 f10
            clear Hx13
            clear Hx11
            go_upto_region 11 with (fail)
            refine wp_region_U 145 [34, 35, 8] [0, 1, 2] (fun a0 HA0 => ?_)
            have oe8 := ev HA0 8 rfl
            refine QSeq.pure rfl _ (fun E => ex_move rfl (E.y 2 oe8)) ?_
            refine QSeq.pure rfl (.int .i64 (((i + 1 : Nat) : Nat) : Int)) (fun E => ex_binE rfl (E.d 0 0) rfl (guard_ints _ _ _ _ _ _) (run_add_i _ _ Try.underlying3) (congrArg (Value.int .i64) (i64_eq (b := ((i + 1 : Nat) : Int)) (by omega) (by omega) (by omega)))) ?_
            refine QSeq.pure rfl _ (fun E => ex_assign rfl (E.d 1 0)) ?_
            refine QSeq.nil (t' := [_, _, _]) rfl ?_
            obtain rfl := HA0.out
            clear HA0 oe8
            simp only [pz, Act.put, List.setIfInBounds_toArray, List.set_cons_zero, List.set_cons_succ]
            go_wp2
            go_roundw
            case rel => exact ⟨i + 1, x, (gd ++ [cb]), [], _, (fun k => (P1 k) ∨ (New u13_4 u15_3 k)), (fun k => (P2 k) ∨ (New u17_1 u17_2a k) ∨ (New u12_5 u13_2 k) ∨ (k = u17_0.heap.size)), (fun k => (P3 k)), rfl, rfl, by omega, by first | omega | (simp only [List.length_append, List.length_cons, List.length_nil] at *; omega), HTN.out, by omega, (Hx31.out.mod Cx40.out (by intro k h1 h2; rcases h1 with h1 | h1 <;> first | omega | (have hb := Kb1.out k h1; omega) | (have hb := Kb2.out k h2; omega) | exact Kd12.out k h1 h2 | exact Kd12.out k h2 h1 | exact Kd13.out k h1 h2 | exact Kd13.out k h2 h1 | exact Kd23.out k h1 h2 | exact Kd23.out k h2 h1 | (have hb := Kb1.out k h1; have hb2 := Kb2.out k h2; omega))).widen (fun _ h => h) (by omega), (Hx38.out.widen (R' := (fun k => (P2 k) ∨ (New u17_1 u17_2a k) ∨ (New u12_5 u13_2 k) ∨ (k = u17_0.heap.size))) (E' := (fun k => (P2 k) ∨ (New u17_1 u17_2a k) ∨ (New u12_5 u13_2 k) ∨ (k = u17_0.heap.size))) (by intro k h1; rcases h1 with h1 | h1 <;> first | omega | exact h1.elim | exact Or.inl h1 | exact Or.inr (Or.inl h1) | exact Or.inr (Or.inr (Or.inl h1)) | exact Or.inr (Or.inr (Or.inr (h1)))) (by intro k h1; rcases h1 with h1 | h1 | h1 <;> first | omega | exact h1.elim | exact Or.inl h1 | exact Or.inr (Or.inl h1) | exact Or.inr (Or.inr (Or.inl h1)) | exact Or.inr (Or.inr (Or.inr (h1))))), ((((Kn.out.mod Cx8.out (fun _ _ h => h) (fun _ _ h => h)).mod Cx12.out (by intro k h1 h2; have hb := Kb3.out k h1; omega) (by intro k h1 h2; have hb := Kb3.out k h1; omega)).mod Cx32.out (by intro k h1 h2; first | omega | (have hb := Kb3.out k h1; omega) | (have hb := Kb1.out k h2; omega) | exact Kd12.out k h1 h2 | exact Kd12.out k h2 h1 | exact Kd13.out k h1 h2 | exact Kd13.out k h2 h1 | exact Kd23.out k h1 h2 | exact Kd23.out k h2 h1 | (have hb := Kb3.out k h1; have hb2 := Kb1.out k h2; omega)) (by intro k h1 h2; first | omega | (have hb := Kb3.out k h1; omega) | (have hb := Kb1.out k h2; omega) | exact Kd12.out k h1 h2 | exact Kd12.out k h2 h1 | exact Kd13.out k h1 h2 | exact Kd13.out k h2 h1 | exact Kd23.out k h1 h2 | exact Kd23.out k h2 h1 | (have hb := Kb3.out k h1; have hb2 := Kb1.out k h2; omega))).mod Cx40.out (by intro k h1 h2; first | omega | (have hb := Kb3.out k h1; omega) | (have hb := Kb2.out k h2; omega) | exact Kd12.out k h1 h2 | exact Kd12.out k h2 h1 | exact Kd13.out k h1 h2 | exact Kd13.out k h2 h1 | exact Kd23.out k h1 h2 | exact Kd23.out k h2 h1 | (have hb := Kb3.out k h1; have hb2 := Kb2.out k h2; omega)) (by intro k h1 h2; first | omega | (have hb := Kb3.out k h1; omega) | (have hb := Kb2.out k h2; omega) | exact Kd12.out k h1 h2 | exact Kd12.out k h2 h1 | exact Kd13.out k h1 h2 | exact Kd13.out k h2 h1 | exact Kd23.out k h1 h2 | exact Kd23.out k h2 h1 | (have hb := Kb3.out k h1; have hb2 := Kb2.out k h2; omega))), (by intro k h1 h2; rcases h1 with h1 | h1 <;> rcases h2 with h2 | h2 | h2 | h2 <;> first | omega | (have hb := Kb1.out k h1; omega) | (have hb := Kb2.out k h2; omega) | exact Kd12.out k h1 h2 | exact Kd12.out k h2 h1 | exact Kd13.out k h1 h2 | exact Kd13.out k h2 h1 | exact Kd23.out k h1 h2 | exact Kd23.out k h2 h1 | (have hb := Kb1.out k h1; have hb2 := Kb2.out k h2; omega)), (by intro k h1 h2; rcases h1 with h1 | h1 <;> first | omega | (have hb := Kb1.out k h1; omega) | (have hb := Kb3.out k h2; omega) | exact Kd12.out k h1 h2 | exact Kd12.out k h2 h1 | exact Kd13.out k h1 h2 | exact Kd13.out k h2 h1 | exact Kd23.out k h1 h2 | exact Kd23.out k h2 h1 | (have hb := Kb1.out k h1; have hb2 := Kb3.out k h2; omega)), (by intro k h1 h2; rcases h1 with h1 | h1 | h1 | h1 <;> first | omega | (have hb := Kb2.out k h1; omega) | (have hb := Kb3.out k h2; omega) | exact Kd12.out k h1 h2 | exact Kd12.out k h2 h1 | exact Kd13.out k h1 h2 | exact Kd13.out k h2 h1 | exact Kd23.out k h1 h2 | exact Kd23.out k h2 h1 | (have hb := Kb2.out k h1; have hb2 := Kb3.out k h2; omega)), (by intro k h1; rcases h1 with h1 | h1 <;> first | omega | (have hb := Kb1.out k h1; omega)), (by intro k h1; rcases h1 with h1 | h1 | h1 | h1 <;> first | omega | (have hb := Kb2.out k h1; omega)), (by intro k h1; first | omega | (have hb := Kb3.out k h1; omega)), ((((Kl.out.mod Cx8.out (fun _ _ h => h)).mod Cx12.out (by intro k h1 h2; omega)).mod Cx32.out (by intro k h1 h2; have hb := Kb1.out k h2; omega)).mod Cx40.out (by intro k h1 h2; have hb := Kb2.out k h2; omega)), ((((Km.out.trans Cx8.out (fun _ _ h => h.elim)).trans Cx12.out (by intro k h1 h2; omega)).trans Cx32.out (by intro k h1 h2; first | exact h2 | omega | (have hb := Kb1.out k h2; omega))).trans Cx40.out (by intro k h1 h2; first | exact h2 | omega | (have hb := Kb2.out k h2; omega)))⟩
            case measure => simp [intOf]; omega
          · skip
            go_upto_region 15 with (fail)
            refine wp_region_U 145 [47, 48, 49, 50, 11] [0, 1, 2, 3, 4] (fun a0 HA0 => ?_)
            have oe4 := ev HA0 4 rfl
            have oe9 := ev HA0 9 rfl
            refine QSeq.pure rfl _ (fun E => ex_move rfl (E.v oe4)) ?_
            refine QSeq.pure rfl (.pointer (some ⟨wl.heap.size, 2, none⟩)) (fun E => ex_field rfl Try.underlying52 rfl (by kernel_rfl) (E.v oe9)) ?_
            refine QSeq.pure rfl _ (fun E => ex_load1 rfl Try.underlying22 rfl (E.d 1 0) (Cs.lit1 Hx11.out rfl)) ?_
            refine QSeq.call rfl rfl Try.func12 (Put_L9 ((Kg.out.mod Cx8.out (fun _ _ h => h)).mod Cx12.out (by intro k h1 h2; have hb := Kb1.out k h1; omega)) Hx13.out.rd (by intro k h1; have hb := Kb1.out k h1; omega) (by intro k h1; omega) (by intro k h1 h2; have hb := Kb1.out k h2; omega) (by omega) (by omega) (by omega) he) (fun E => args2 (E.d 0 2) (E.d 2 0)) ?_
            rintro e u15_3 ⟨rfl, qlg, hm⟩
            refine ⟨_, rfl, ?_⟩
            have Hx41 := hid (qlg.widen (R' := (fun k => (P1 k) ∨ (New u13_4 u15_3 k))) (fun _ h => h) (Nat.le_refl _))
            have zu15_3 := hm.size
            have Cx42 := hid (show Mod (fun k => (P1 k)) u13_4 u15_3 from hm)
            clear hm
            clear qlg Kg
            refine QSeq.pure rfl _ (fun E => ex_assign rfl (E.d 3 0)) ?_
            refine QSeq.nil (t' := [_, _, _, _, _]) rfl ?_
            obtain rfl := HA0.out
            clear HA0 oe4 oe9
            simp only [pz, Act.put, List.setIfInBounds_toArray, List.set_cons_zero, List.set_cons_succ]
            go_upto_region 16 with (fail)
            refine wp_region_U 145 [51, 52] [0, 1] (fun a0 HA0 => ?_)
            have oe11 := ev HA0 11 rfl
            refine QSeq.pure rfl _ (fun E => ex_move rfl (E.v oe11)) ?_
            refine QSeq.pure rfl (.bool false) (fun E => ex_binE rfl (E.d 0 0) rfl (guard_ints _ _ _ _ _ _) (run_eql_i _ _ _ Try.underlying26) (congrArg Value.bool (show _ = false from rfl))) ?_
            refine QSeq.nil (t' := [_, _]) rfl ?_
            obtain rfl := HA0.out
            clear HA0 oe11
            simp only [pz, Act.put, List.setIfInBounds_toArray, List.set_cons_zero, List.set_cons_succ]
            go_upto_region 18 with (fail)
            refine wp_region_U 145 [63, 64] [0, 1] (fun a0 HA0 => ?_)
            have oe11 := ev HA0 11 rfl
            refine QSeq.pure rfl _ (fun E => ex_move rfl (E.v oe11)) ?_
            refine QSeq.pure rfl (.bool true) (fun E => ex_binE rfl (E.d 0 0) rfl (guard_ints _ _ _ _ _ _) (run_eql_i _ _ _ Try.underlying26) (congrArg Value.bool (show _ = true from rfl))) ?_
            refine QSeq.nil (t' := [_, _]) rfl ?_
            obtain rfl := HA0.out
            clear HA0 oe11
            simp only [pz, Act.put, List.setIfInBounds_toArray, List.set_cons_zero, List.set_cons_succ]
            go_upto_region 19 with (fail)
            refine wp_region_U 145 [65, 66, 67, 68, 69, 7] [0, 1, 2, 3, 4, 5] (fun a0 HA0 => ?_)
            have oe7 := ev HA0 7 rfl
            have oe9 := ev HA0 9 rfl
            refine QSeq.pure rfl _ (fun E => ex_move rfl (E.y 5 oe7)) ?_
            refine QSeq.pure rfl (.pointer (some ⟨wl.heap.size, 2, none⟩)) (fun E => ex_field rfl Try.underlying52 rfl (by kernel_rfl) (E.v oe9)) ?_
            refine QSeq.pure rfl _ (fun E => ex_load1 rfl Try.underlying22 rfl (E.d 1 0) (Cs.lit1 (Hx11.out.mod Cx42.out (by intro h2; first | omega | (have hb := Kb1.out _ h2; omega))) rfl)) ?_
            refine QSeq.go fun act E => ?_
            have ea67 : act.eval (.tmp 67) = .slice ao_cut cb.length cap_cut := (E.d 2 0)
            refine qc_rows rfl (wanted_none rfl) rfl Try.underlying33 (by decide) (C := #[.slice ao_cut cb.length cap_cut]) (by simp only [List.map_toArray, List.map_cons, List.map_nil, ea67]; kernel_rfl) ?_
            intro u19_3 qrow hm
            have zl19_3 := qrow.lt
            have Hx43 := hid qrow
            have zu19_3 := hm.size
            have Cx44 := hid (show Mod (fun _ => False) u15_3 u19_3 from hm)
            clear hm
            clear act E qrow ea67
            refine QSeq.go fun act E => ?_
            refine qc_appS (A := RwR) (e := 22) rfl (wanted_none rfl) rfl (.slice none 0 0) 24 Try.underlying33 info_Rw (by rfl) (of_decide_eq_true (by kernel_rfl)) (E.d 0 3) (E.d 3 0) (((((Kn.out.mod Cx8.out (fun _ _ h => h) (fun _ _ h => h)).mod Cx12.out (by intro k h1 h2; have hb := Kb3.out k h1; omega) (by intro k h1 h2; have hb := Kb3.out k h1; omega)).mod Cx42.out (by intro k h1 h2; first | omega | (have hb := Kb3.out k h1; omega) | (have hb := Kb1.out k h2; omega) | exact Kd12.out k h1 h2 | exact Kd12.out k h2 h1 | exact Kd13.out k h1 h2 | exact Kd13.out k h2 h1 | exact Kd23.out k h1 h2 | exact Kd23.out k h2 h1 | (have hb := Kb3.out k h1; have hb2 := Kb1.out k h2; omega)) (by intro k h1 h2; first | omega | (have hb := Kb3.out k h1; omega) | (have hb := Kb1.out k h2; omega) | exact Kd12.out k h1 h2 | exact Kd12.out k h2 h1 | exact Kd13.out k h1 h2 | exact Kd13.out k h2 h1 | exact Kd23.out k h1 h2 | exact Kd23.out k h2 h1 | (have hb := Kb3.out k h1; have hb2 := Kb1.out k h2; omega))).mod Cx44.out (fun _ _ h => h) (fun _ _ h => h))) (RdS.single (R := (fun k => (New u12_5 u13_2 k) ∨ (k = u15_3.heap.size))) Hx43.out (RwR.mk (b := cb) (((Hx13.out.mod Cx42.out (by intro k h1 h2; have hb := Kb1.out k h2; omega)).mod Cx44.out (fun _ _ h => h)).rd.widen (R' := (fun k => (New u12_5 u13_2 k) ∨ (k = u15_3.heap.size))) (fun k h1 => Or.inl h1) (Nat.le_refl _)) (by omega)) (by right; rfl)) (by intro k h1 h2; have hb := Kb3.out k h2; omega) (by simp only [List.length_cons, List.length_nil]; omega) (by rw [maxLen_val]; simp only [List.length_cons, List.length_nil]; omega) ?_
            intro ao9 cap9 u19_4 qnext hm
            have Hx45 := hid (qnext.widen (R' := (fun k => (P3 k) ∨ (New u19_3 u19_4 k))) (E' := (fun k => (P3 k) ∨ (New u12_5 u13_2 k) ∨ (k = u15_3.heap.size))) (fun _ h => h) (by intro k h1; rcases h1 with h1 | (h1 | h1) <;> first | omega | exact h1.elim | exact Or.inl h1 | exact Or.inr (Or.inl h1) | exact Or.inr (Or.inr (h1))))
            have zu19_4 := hm.size
            have HMu19_4 := hid hm
            have Cx46 := hid (Mod.goS (S' := (fun k => (P3 k))) Cx44.out hm (fun _ h => h.elim) (by intro k h0 h2; exact h2))
            clear hm Cx44
            clear act E qnext Kn
            refine QSeq.pure rfl _ (fun E => ex_assign rfl (E.d 4 0)) ?_
            have Hx47 := hid (Hx43.out.mod HMu19_4.out (by intro h2; first | omega | (have hb := Kb3.out _ h2; omega)))
            clear Hx43 HMu19_4
            refine QSeq.nil (t' := [_, _, _, _, _, _]) rfl ?_
            obtain rfl := HA0.out
            clear HA0 oe7 oe9
            simp only [pz, Act.put, List.setIfInBounds_toArray, List.set_cons_zero, List.set_cons_succ]
            clear Hx13
            clear Hx11
            go_upto_region 11 with (fail)
            refine wp_region_U 145 [34, 35, 8] [0, 1, 2] (fun a0 HA0 => ?_)
            have oe8 := ev HA0 8 rfl
            refine QSeq.pure rfl _ (fun E => ex_move rfl (E.y 2 oe8)) ?_
            refine QSeq.pure rfl (.int .i64 (((i + 1 : Nat) : Nat) : Int)) (fun E => ex_binE rfl (E.d 0 0) rfl (guard_ints _ _ _ _ _ _) (run_add_i _ _ Try.underlying3) (congrArg (Value.int .i64) (i64_eq (b := ((i + 1 : Nat) : Int)) (by omega) (by omega) (by omega)))) ?_
            refine QSeq.pure rfl _ (fun E => ex_assign rfl (E.d 1 0)) ?_
            refine QSeq.nil (t' := [_, _, _]) rfl ?_
            obtain rfl := HA0.out
            clear HA0 oe8
            simp only [pz, Act.put, List.setIfInBounds_toArray, List.set_cons_zero, List.set_cons_succ]
            go_wp2
            go_roundw
            case rel => exact ⟨i + 1, x, gd, (nx ++ [cb]), _, (fun k => (P1 k) ∨ (New u13_4 u15_3 k)), (fun k => (P2 k)), (fun k => (P3 k) ∨ (New u19_3 u19_4 k) ∨ (New u12_5 u13_2 k) ∨ (k = u15_3.heap.size)), rfl, rfl, by omega, by first | omega | (simp only [List.length_append, List.length_cons, List.length_nil] at *; omega), HPT.out.2 he, by omega, (Hx41.out.mod Cx46.out (by intro k h1 h2; rcases h1 with h1 | h1 <;> first | omega | (have hb := Kb1.out k h1; omega) | (have hb := Kb3.out k h2; omega) | exact Kd12.out k h1 h2 | exact Kd12.out k h2 h1 | exact Kd13.out k h1 h2 | exact Kd13.out k h2 h1 | exact Kd23.out k h1 h2 | exact Kd23.out k h2 h1 | (have hb := Kb1.out k h1; have hb2 := Kb3.out k h2; omega))).widen (fun _ h => h) (by omega), ((((Ko.out.mod Cx8.out (fun _ _ h => h) (fun _ _ h => h)).mod Cx12.out (by intro k h1 h2; have hb := Kb2.out k h1; omega) (by intro k h1 h2; have hb := Kb2.out k h1; omega)).mod Cx42.out (by intro k h1 h2; first | omega | (have hb := Kb2.out k h1; omega) | (have hb := Kb1.out k h2; omega) | exact Kd12.out k h1 h2 | exact Kd12.out k h2 h1 | exact Kd13.out k h1 h2 | exact Kd13.out k h2 h1 | exact Kd23.out k h1 h2 | exact Kd23.out k h2 h1 | (have hb := Kb2.out k h1; have hb2 := Kb1.out k h2; omega)) (by intro k h1 h2; first | omega | (have hb := Kb2.out k h1; omega) | (have hb := Kb1.out k h2; omega) | exact Kd12.out k h1 h2 | exact Kd12.out k h2 h1 | exact Kd13.out k h1 h2 | exact Kd13.out k h2 h1 | exact Kd23.out k h1 h2 | exact Kd23.out k h2 h1 | (have hb := Kb2.out k h1; have hb2 := Kb1.out k h2; omega))).mod Cx46.out (by intro k h1 h2; first | omega | (have hb := Kb2.out k h1; omega) | (have hb := Kb3.out k h2; omega) | exact Kd12.out k h1 h2 | exact Kd12.out k h2 h1 | exact Kd13.out k h1 h2 | exact Kd13.out k h2 h1 | exact Kd23.out k h1 h2 | exact Kd23.out k h2 h1 | (have hb := Kb2.out k h1; have hb2 := Kb3.out k h2; omega)) (by intro k h1 h2; first | omega | (have hb := Kb2.out k h1; omega) | (have hb := Kb3.out k h2; omega) | exact Kd12.out k h1 h2 | exact Kd12.out k h2 h1 | exact Kd13.out k h1 h2 | exact Kd13.out k h2 h1 | exact Kd23.out k h1 h2 | exact Kd23.out k h2 h1 | (have hb := Kb2.out k h1; have hb2 := Kb3.out k h2; omega))), (Hx45.out.widen (R' := (fun k => (P3 k) ∨ (New u19_3 u19_4 k) ∨ (New u12_5 u13_2 k) ∨ (k = u15_3.heap.size))) (E' := (fun k => (P3 k) ∨ (New u19_3 u19_4 k) ∨ (New u12_5 u13_2 k) ∨ (k = u15_3.heap.size))) (by intro k h1; rcases h1 with h1 | h1 <;> first | omega | exact h1.elim | exact Or.inl h1 | exact Or.inr (Or.inl h1) | exact Or.inr (Or.inr (Or.inl h1)) | exact Or.inr (Or.inr (Or.inr (h1)))) (by intro k h1; rcases h1 with h1 | h1 | h1 <;> first | omega | exact h1.elim | exact Or.inl h1 | exact Or.inr (Or.inl h1) | exact Or.inr (Or.inr (Or.inl h1)) | exact Or.inr (Or.inr (Or.inr (h1))))), (by intro k h1 h2; rcases h1 with h1 | h1 <;> first | omega | (have hb := Kb1.out k h1; omega) | (have hb := Kb2.out k h2; omega) | exact Kd12.out k h1 h2 | exact Kd12.out k h2 h1 | exact Kd13.out k h1 h2 | exact Kd13.out k h2 h1 | exact Kd23.out k h1 h2 | exact Kd23.out k h2 h1 | (have hb := Kb1.out k h1; have hb2 := Kb2.out k h2; omega)), (by intro k h1 h2; rcases h1 with h1 | h1 <;> rcases h2 with h2 | h2 | h2 | h2 <;> first | omega | (have hb := Kb1.out k h1; omega) | (have hb := Kb3.out k h2; omega) | exact Kd12.out k h1 h2 | exact Kd12.out k h2 h1 | exact Kd13.out k h1 h2 | exact Kd13.out k h2 h1 | exact Kd23.out k h1 h2 | exact Kd23.out k h2 h1 | (have hb := Kb1.out k h1; have hb2 := Kb3.out k h2; omega)), (by intro k h1 h2; rcases h2 with h2 | h2 | h2 | h2 <;> first | omega | (have hb := Kb2.out k h1; omega) | (have hb := Kb3.out k h2; omega) | exact Kd12.out k h1 h2 | exact Kd12.out k h2 h1 | exact Kd13.out k h1 h2 | exact Kd13.out k h2 h1 | exact Kd23.out k h1 h2 | exact Kd23.out k h2 h1 | (have hb := Kb2.out k h1; have hb2 := Kb3.out k h2; omega)), (by intro k h1; rcases h1 with h1 | h1 <;> first | omega | (have hb := Kb1.out k h1; omega)), (by intro k h1; first | omega | (have hb := Kb2.out k h1; omega)), (by intro k h1; rcases h1 with h1 | h1 | h1 | h1 <;> first | omega | (have hb := Kb3.out k h1; omega)), ((((Kl.out.mod Cx8.out (fun _ _ h => h)).mod Cx12.out (by intro k h1 h2; omega)).mod Cx42.out (by intro k h1 h2; have hb := Kb1.out k h2; omega)).mod Cx46.out (by intro k h1 h2; have hb := Kb3.out k h2; omega)), ((((Km.out.trans Cx8.out (fun _ _ h => h.elim)).trans Cx12.out (by intro k h1 h2; omega)).trans Cx42.out (by intro k h1 h2; first | exact h2 | omega | (have hb := Kb1.out k h2; omega))).trans Cx46.out (by intro k h1 h2; first | exact h2 | omega | (have hb := Kb3.out k h2; omega)))⟩
            case measure => simp [intOf]; omega
    · obtain rfl : pb7 = false := HB7.out.trans (by rw [Bool.eq_false_iff]; intro h; simp only [Bool.and_eq_true, decide_eq_true_eq] at h; omega)
      go_upto_region 33 with (fail)
      refine wp_region_U 145 [144, 2] [0, 1] (fun a0 HA0 => ?_)
      refine QSeq.call rfl rfl Try.func16 (wakes08 _) (fun E => args0) ?_
      rintro e u33_0 ⟨rfl, hm⟩
      refine ⟨_, rfl, ?_⟩
      have zu33_0 := hm.size
      have Cx48 := hid (show Mod (fun _ => False) wl u33_0 from hm)
      clear hm
      refine QSeq.pure rfl _ (fun E => ex_assign rfl (E.d 0 0)) ?_
      refine QSeq.nil (t' := [_, _]) rfl ?_
      obtain rfl := HA0.out
      clear HA0
      simp only [pz, Act.put, List.setIfInBounds_toArray, List.set_cons_zero, List.set_cons_succ]
      go_wp2
      go_ret
      exact ⟨rfl, (Km.out.trans Cx48.out (fun _ _ h => h.elim))⟩
end Go.Proofs.Ythojipjleajajaa

namespace Go.Proofs.Ythojipjleajajaa.walTrue
open Go Go.RowKit Go.Gv Go.ChangeShapes Go.WideShapes Go.ChangeAt
open Go.ChangeMaps (open_string shut_string)

theorem own : ownKnob Try.prog.godebug = none := by kernel_rfl
theorem laidOut : laidOutB Try.prog = true := by kernel_rfl

theorem lifted (os : Os) (started : os.Started) (H : Type) (enc : TypeId × Value → H) :
    ReturnsInHanded {} Try.checked os 7 .any (Rows.walTrueSpec.pre6 enc Try.prog Try.f7 Rows.walTrueRow.domain false) (Rows.walTrueSpec.post enc Try.prog Try.f7 false true false false) := by
  refine returnsInHanded_of_change (C := Try.checked) own started (by kernel_rfl) Try.func7
    (ChangeSpec.witness6 (enc := enc) (C := Try.checked) false ⟨#[], #[.slice none 0 0], []⟩ 8 (by kernel_rfl) (by kernel_rfl) (by kernel_rfl) (by kernel_rfl)) ?_
  intro W base args ds gs before hval0 hW hcnd _
  have hval : ∀ (j : Nat) t v, Try.f7.params[j]? = some t → args[j]? = some v → Value.okWide Try.prog W .any base t v := hval0
  have hW' := hW
  obtain ⟨p, q, hA0, hV, rfl, hfz, hnd⟩ := hW
  have hA : DataW.TrodAll enc Try.prog W 0 (fun _ => true) true Try.f7.params.toList args.toList ds p := hA0
  rw [Try.params7] at hA hval
  obtain ⟨v0, vs0, d0, ds0, p0, q0, hargs, rfl, rfl, h0, r0⟩ := trodAll_cons hA
  obtain ⟨rfl, rfl, rfl⟩ := trodAll_nil r0
  obtain rfl : args = #[v0] := by cases args; simp_all
  obtain ⟨rfl, rfl⟩ := trodVars_none hV
  have k0 := h0
  have lt0 : ∀ x ∈ p0, x.block < W.heap.size := by obtain ⟨m, hm⟩ := k0; exact DataW.trod_lt m _ _ _ hm
  obtain ⟨l0, e0⟩ := slice_arg reads_ac Try.underlying44 (by kernel_rfl) k0 (hval 0 44 v0 rfl rfl)
  clear hA0 hval0
  refine (WalTrue_walk l0 v0 W e0).mono fun e W' ⟨he, hmod⟩ => ?_
  subst he
  have bel : Below W.heap.size W W' := hmod.below (Nat.le_refl _) (fun _ _ => id)
  exact ⟨_, rfl, _, _, _, [], _, [], hW', trodAll_mk1 (shut_bool Try.underlying4 _), (trodAll_cons_mk (Below.trod laidOut (by kernel_rfl) (of_decide_eq_true (by kernel_rfl)) k0 bel lt0) trodAll_mk0), rfl, bel.frame _, fun h => by cases h⟩

theorem over : Rows.walTrueRow.holds Try.pinned (OpenSpec.ofChange Rows.walTrueSpec) :=
  OpenClaim.holds_of_wide 7 Try.f7 rfl rfl rfl rfl rfl rfl rfl ⟨rfl, rfl, rfl, rfl, rfl⟩ rfl rfl rfl rfl rfl (by kernel_rfl) Try.func7 (by kernel_rfl)
    (of_decide_eq_true (by kernel_rfl)) (by unfold Func.isWrapper; first | (rw [if_pos (by decide +kernel)]; kernel_rfl) | (rw [if_neg (by decide +kernel)]; exact ⟨rfl, rfl⟩))
    (fun os started H enc _ => lifted os started H enc)

theorem proved : Rows.WalTrueSaid := over
end Go.Proofs.Ythojipjleajajaa.walTrue
