/- Texts that are built one behind the other: XNpL. No condition. -/
import Derived.Test.YtekbmpjdombedaaNpP8
import Derived.Deep.CutBlock
set_option maxRecDepth 100000
set_option linter.unusedVariables false
open List renaming setIfInBounds_toArray → sIB, set_cons_zero → sCZ, set_cons_succ → sCS
/- gavellaw23.play. -/
namespace Go.Proofs.Ytekbmpjdombedaa
open Go Go.RowKit Go.Gv

set_option maxHeartbeats 16000000 in
theorem play_Q {O1 T1 O2 T2 R0 : Nat → Prop} {w : World} {x y : Nat} {mo : Int} {l : List Mg} {sn lo S0 : Nat} {acs : List An} {va : Value} (h1 : NtS O1 T1 w x mo l ((sn : Nat) : Int) ((lo : Nat) : Int)) (h2 : RnS O2 T2 w y mo l ((sn : Nat) : Int) ((lo : Nat) : Int)) (ha : RdS AnR R0 w va acs) (hbO1 : ∀ k, O1 k → k < w.heap.size) (hbT1 : ∀ k, T1 k → k < w.heap.size)
    (hbO2 : ∀ k, O2 k → k < w.heap.size) (hbT2 : ∀ k, T2 k → k < w.heap.size) (hbR0 : ∀ k, R0 k → k < w.heap.size) (hdj : Dj O1 T1 O2 T2) (h1r : ∀ k, O1 k → R0 k → False) (h2r : ∀ k, O2 k → R0 k → False) (hmo : 1 ≤ mo ∧ mo ≤ 4096) (hl : ((l.length : Nat) : Int) ≤ mo) (hP : ∀ m ∈ l, cpMg m) (hS : S0 ≤ 100000) (hsn : sn ≤ S0) (hlo : lo ≤ S0) :
    Calls Try.prog 18 #[.pointer (some ⟨x, 0, none⟩), .pointer (some ⟨y, 0, none⟩), va] w fun e w' => e = .returned (.bool true) ∧ ∃ (l' : List Mg) (sn' lo' : Nat) (A1 B1 A2 B2 : Nat → Prop), ((l'.length : Nat) : Int) ≤ mo ∧ (∀ m ∈ l', cpMg m) ∧ sn' ≤ S0 + 120 ∧ lo' ≤ S0 + 120 ∧
      NtS A1 B1 w' x mo l' ((sn' : Nat) : Int) ((lo' : Nat) : Int) ∧ RnS A2 B2 w' y mo l' ((sn' : Nat) : Int) ((lo' : Nat) : Int) ∧ Dj A1 B1 A2 B2 ∧ (∀ k, A1 k → O1 k ∨ New w w' k) ∧ (∀ k, B1 k → T1 k ∨ New w w' k) ∧ (∀ k, A2 k → O2 k ∨ New w w' k) ∧ (∀ k, B2 k → T2 k ∨ R0 k ∨ New w w' k) ∧ Mod (fun k => O1 k ∨ O2 k) w w' := by
  obtain ⟨ao, cap, rfl⟩ := ha.shape
  have HN := Lib.hid h1
  have HR := Lib.hid h2
  have HA := Lib.hid ha
  have HBO1 := Lib.hid hbO1
  have HBT1 := Lib.hid hbT1
  have HBO2 := Lib.hid hbO2
  have HBT2 := Lib.hid hbT2
  have HBR0 := Lib.hid hbR0
  have HDJ := Lib.hid hdj
  have H1R := Lib.hid h1r
  have H2R := Lib.hid h2r
  have HPP := Lib.hid hP
  clear h1 h2 ha hbO1 hbT1 hbO2 hbT2 hbR0 hdj h1r h2r hP
  go_enter Try.func18, Try.ntmps18
  go_upto_region 1 with (fail)
  have HM0 := hid (Mod.refl (fun k => (O1 k) ∨ (O2 k)) w)
  go_upto_region 1 with (fail)
  refine wp_region_U 211 [7] [0] (fun a0 HA0 => ?_)
  refine QSeq.pure rfl (.int .i64 0) (fun E => ex_assign rfl rfl) ?_
  refine QSeq.nil (t' := [_]) rfl ?_
  obtain rfl := HA0.out
  clear HA0
  simp only [pz, Act.put, sIB, sCZ, sCS]
  go_wp2
  go_loopw [7] (fun ti wr => ∃ (i : Nat) (l : List Mg) (sn lo : Nat) (A1 B1 A2 B2 : Nat → Prop), ti = .int .i64 ((i : Nat) : Int) ∧ i ≤ 30 ∧ ((l.length : Nat) : Int) ≤ mo ∧ (∀ m ∈ l, cpMg m) ∧ sn ≤ S0 + 4 * i ∧ lo ≤ S0 + 4 * i ∧ w.heap.size ≤ wr.heap.size ∧ NtS A1 B1 wr x mo l ((sn : Nat) : Int) ((lo : Nat) : Int) ∧ RnS A2 B2 wr y mo l ((sn : Nat) : Int) ((lo : Nat) : Int) ∧ Dj A1 B1 A2 B2 ∧ (∀ k, A1 k → O1 k ∨ New w wr k) ∧ (∀ k, B1 k → T1 k ∨ New w wr k) ∧ (∀ k, A2 k → O2 k ∨ New w wr k) ∧ (∀ k, B2 k → T2 k ∨ R0 k ∨ New w wr k) ∧ RdS AnR R0 wr (.slice ao acs.length cap) acs ∧ Mod (fun k => O1 k ∨ O2 k) w wr) (fun ti _ => 30 - (intOf ti).toNat)
  case atStart => exact ⟨0, l, sn, lo, O1, T1, O2, T2, rfl, by omega, hl, HPP.out, by omega, by omega, Nat.le_refl _, HN.out, HR.out, HDJ.out, (fun k h => Or.inl h), (fun k h => Or.inl h), (fun k h => Or.inl h), (fun k h => Or.inl h), HA.out, HM0.out⟩
  case round =>
    clear HN HR HA HM0
    obtain ⟨i, l, sn, lo, A1, B1, A2, B2, rfl, hi30, hl2, hP, hsn2, hlo2, hz, hn, hr, hd, hsA1, hsB1, hsA2, hsB2, hac, hm⟩ := hrel
    obtain ⟨wl, rfl⟩ : ∃ x, x = wr := ⟨_, rfl⟩
    have KwlbA1 := hid (show ∀ k, A1 k → k < wl.heap.size from fun k hk => by rcases hsA1 k hk with h | h; (have hb := HBO1.out k h; omega); exact h.2)
    have KwlbB1 := hid (show ∀ k, B1 k → k < wl.heap.size from fun k hk => by rcases hsB1 k hk with h | h; (have hb := HBT1.out k h; omega); exact h.2)
    have KwlbA2 := hid (show ∀ k, A2 k → k < wl.heap.size from fun k hk => by rcases hsA2 k hk with h | h; (have hb := HBO2.out k h; omega); exact h.2)
    have KwlbB2 := hid (show ∀ k, B2 k → k < wl.heap.size from fun k hk => by rcases hsB2 k hk with h | h | h; (have hb := HBT2.out k h; omega); (have hb := HBR0.out k h; omega); exact h.2)
    have Kwl1R := hid (show ∀ k, A1 k → R0 k → False from fun k hk h0 => by rcases hsA1 k hk with h | h; exact H1R.out k h h0; (have hb := HBR0.out k h0; have := h.1; omega))
    have Kwl2R := hid (show ∀ k, A2 k → R0 k → False from fun k hk h0 => by rcases hsA2 k hk with h | h; exact H2R.out k h h0; (have hb := HBR0.out k h0; have := h.1; omega))
    have Kwlaa := hid hd.aa
    have Kwlab := hid hd.ab
    have Kwlba := hid hd.ba
    have Kwln := Lib.hid hn
    have Kwlr := Lib.hid hr
    have Kwlac := Lib.hid hac
    have Kwlm := Lib.hid hm
    have KwlsA1 := Lib.hid hsA1
    have KwlsB1 := Lib.hid hsB1
    have KwlsA2 := Lib.hid hsA2
    have KwlsB2 := Lib.hid hsB2
    have KwlP := Lib.hid hP
    clear hP hn hr hd hac hm hsA1 hsB1 hsA2 hsB2
    go_upto_region 2 with (fail)
    refine wp_region_U 211 [21, 22, 23, 24, 25, 26, 27, 28] [0, 1, 2, 3, 4, 5, 6, 7] (fun a0 HA0 => ?_)
    have oe2 := ev HA0 2 rfl
    have oe7 := ev HA0 7 rfl
    refine QSeq.pure rfl _ (fun E => ex_move rfl (E.v oe7)) ?_
    refine QSeq.pure rfl _ (fun E => ex_move rfl (E.v oe2)) ?_
    refine QSeq.pure rfl (.int .i64 acs.length) (fun E => ex_lenS rfl (E.d 1 0) Try.underlying79) ?_
    refine QSeq.pure rfl (.bool (decide (((i : Nat) : Int) < ((acs.length : Nat) : Int)))) (fun E => ex_bin rfl (E.d 0 2) (E.d 2 0) (guard_ints _ _ _ _ _ _) (run_lss_i _ _ _ Try.underlying3)) ?_
    refine QSeq.pure rfl _ (fun E => ex_move rfl (E.d 3 0)) ?_
    refine QSeq.may (b := (decide (((i : Nat) : Int) < ((acs.length : Nat) : Int)))) rfl (.int .i64 ((i : Nat) : Int)) (fun E => ((wanted_of rfl rfl (E.sz 25 (by decide)) (E.d 4 0)).trans (beq_t _))) (fun E hb => ex_move rfl (E.v oe7)) ?_
    intro v2_5 hw
    have hv2_5 := hid hw
    clear hw
    refine QSeq.may (b := (decide (((i : Nat) : Int) < ((acs.length : Nat) : Int)))) rfl (.bool (decide (((i : Nat) : Int) < 30))) (fun E => ((wanted_of rfl rfl (E.sz 25 (by decide)) (E.d 4 1)).trans (beq_t _))) (fun E hb => ex_bin rfl ((E.q 5 0 hv2_5.out).1 hb) rfl (guard_ints _ _ _ _ _ _) (run_lss_i _ _ _ Try.underlying3)) ?_
    intro v2_6 hw
    have hv2_6 := hid hw
    clear hw
    obtain ⟨pb7, hb7⟩ : ∃ b : Bool, b = ((decide (((i : Nat) : Int) < ((acs.length : Nat) : Int))) && (decide (((i : Nat) : Int) < 30))) := ⟨_, rfl⟩
    have HB7 := hid hb7
    clear hb7
    refine QSeq.pure rfl (.bool pb7) (fun E => ex_pickE rfl (E.d 4 2) rfl rfl ((and_val fun hb => (E.q 6 0 hv2_6.out).1 hb).trans (congrArg Value.bool HB7.out.symm))) ?_
    clear hv2_5 hv2_6
    refine QSeq.nil (t' := [_, _, _, _, _, _, _, _]) rfl ?_
    obtain rfl := HA0.out
    clear HA0 oe2 oe7
    simp only [pz, Act.put, sIB, sCZ, sCS]
    by_cases hc : i < acs.length ∧ i < 30
    · obtain ⟨hc1, hc2⟩ := hc
      obtain rfl : pb7 = true := HB7.out.trans (by simp only [Bool.and_eq_true, decide_eq_true_eq]; omega)
      obtain ⟨g0, o0, cs, eao, hrg, hrd, hcs⟩ := Kwlac.out.at hc1
      obtain ⟨a, hae⟩ : ∃ a, a = acs[i] := ⟨_, rfl⟩
      rw [← hae] at hrd
      clear hae
      obtain ⟨va, rfl, had, hak, hal⟩ := hrd
      obtain ⟨aoa, capa, rfl⟩ := hal.shape
      subst eao
      have HAT := hid (show CellsAt R0 wl g0 (o0 + i * 3) [Value.int .i64 a.d, Value.int .i64 a.k, Value.slice aoa a.l.length capa] from ⟨hrg, hcs⟩)
      have HML := hid (show RdS MgR R0 wl (.slice aoa a.l.length capa) a.l from hal)
      have HAD := Lib.hid had
      have HAK := Lib.hid hak
      clear hrg hcs had hak hal
      go_upto_region 4 with (fail)
      refine wp_region_U 211 [31, 32, 33, 34, 8, 216] [0, 1, 2, 3, 4, 5] (fun a0 HA0 => ?_)
      have oe2 := ev HA0 2 rfl
      have oe7 := ev HA0 7 rfl
      refine QSeq.pure rfl _ (fun E => ex_move rfl (E.v oe2)) ?_
      refine QSeq.pure rfl _ (fun E => ex_move rfl (E.v oe7)) ?_
      refine QSeq.pure rfl (.pointer (some ⟨g0, o0 + i * 3, none⟩)) (fun E => ex_idxS (i := i) (s := 3) rfl Try.underlying79 (by kernel_rfl) (E.d 0 1) (E.d 1 0) (by omega)) ?_
      refine QSeq.pure rfl _ (fun E => ex_loadA rfl Try.underlying97 rfl (off := o0 + i * 3) (cs := [Value.int .i64 a.d, Value.int .i64 a.k, Value.slice aoa a.l.length capa]) (by kernel_rfl) (E.d 2 0) (fun j u hu => (HAT.out).2 j u hu)) ?_
      refine QSeq.go fun act E => ?_
      refine qc_alloc rfl (wanted_none rfl) rfl (z := [.int .i64 0, .int .i64 0, .slice none 0 0]) (by kernel_rfl) ?_
      intro u4_4 qac hm
      have zl4_4 := qac.lt
      have Hx1 := hid qac
      have zu4_4 := hm.size
      have Cx2 := hid (show Mod (fun _ => False) wl u4_4 from hm)
      clear hm
      clear act E qac
      refine QSeq.go fun act E => ?_
      have hlz : (([Value.int .i64 a.d, Value.int .i64 a.k, Value.slice aoa a.l.length capa] : List Value)).length = List.length ([.int .i64 0, .int .i64 0, .slice none 0 0] : List Value) := rfl
      refine qc_store rfl (wanted_none rfl) rfl Hx1.out (off := 0) (vs := ([Value.int .i64 a.d, Value.int .i64 a.k, Value.slice aoa a.l.length capa] : List Value)) (by rw [hlz]; kernel_rfl) (by intro u hu; simp only [List.mem_cons, List.not_mem_nil, or_false] at hu; rcases hu with rfl | rfl | rfl <;> rfl) (by rw [hlz]; exact Nat.le_of_eq (Nat.zero_add _)) (E.d 4 0) (ec (E.d 3 1)) ?_
      intro u4_5 qc0 hm
      have qac := qc0.eqv (b := (([Value.int .i64 a.d, Value.int .i64 a.k, Value.slice aoa a.l.length capa] : List Value) : List Value).toArray) (lay_whole (#[.int .i64 0, .int .i64 0, .slice none 0 0]) _ (by rw [hlz]; rfl))
      clear qc0 hlz
      have Hx3 := hid qac
      have zu4_5 := hm.size
      have HMu4_5 := hid hm
      have Cx4 := hid (Mod.goS (S' := (fun _ => False)) Cx2.out hm (fun _ h => h) (by intro k h0 h2; omega))
      clear hm Cx2
      clear act E qac Hx1
      clear HMu4_5
      refine QSeq.nil (t' := [_, _, _, _, _, _]) rfl ?_
      obtain rfl := HA0.out
      clear HA0 oe2 oe7
      simp only [pz, Act.put, sIB, sCZ, sCS, List.set_nil]
      clear HAT
      go_upto_region 5 with (fail)
      refine wp_region_U 211 [35, 36, 9] [0, 1, 2] (fun a0 HA0 => ?_)
      have oe8 := ev HA0 8 rfl
      refine QSeq.pure rfl (.pointer (some ⟨wl.heap.size, 1, none⟩)) (fun E => ex_field rfl Try.underlying97 rfl (by kernel_rfl) (E.v oe8)) ?_
      refine QSeq.pure rfl _ (fun E => ex_load1 rfl Try.underlying3 rfl (E.d 0 0) (Cs.lit1 Hx3.out rfl)) ?_
      refine QSeq.pure rfl _ (fun E => ex_assign rfl (E.d 1 0)) ?_
      refine QSeq.nil (t' := [_, _, _]) rfl ?_
      obtain rfl := HA0.out
      clear HA0 oe8
      simp only [pz, Act.put, sIB, sCZ, sCS]
      obtain ⟨b5, hb5⟩ : ∃ b : Bool, b = !(a.k.tmod 5 == 4) := ⟨_, rfl⟩
      go_upto_region 6 with (fail)
      refine wp_region_U 211 [37, 38, 39] [0, 1, 2] (fun a0 HA0 => ?_)
      have oe9 := ev HA0 9 rfl
      refine QSeq.pure rfl _ (fun E => ex_move rfl (E.v oe9)) ?_
      refine QSeq.pure rfl (.int .i64 (a.k.tmod 5)) (fun E => ex_binE rfl (E.d 0 0) rfl (guard_ints _ _ _ _ _ _) (run_rem_i _ _ (by decide)) (congrArg (Value.int .i64) rfl)) ?_
      refine QSeq.pure rfl (.bool b5) (fun E => ex_binE rfl (E.d 1 0) rfl (guard_ints _ _ _ _ _ _) (run_neq_i _ _ _ Try.underlying3) (congrArg Value.bool hb5.symm)) ?_
      refine QSeq.nil (t' := [_, _, _]) rfl ?_
      obtain rfl := HA0.out
      clear HA0 oe9
      simp only [pz, Act.put, sIB, sCZ, sCS]
      clear hb5
      go_upto_if 39 with (fail)
      go_cut [9] from 21 to 47 (fun t9 w' => ∃ kk : Int, t9 = .int .i64 kk ∧ I64 kk ∧ w' = u4_5)
      case first =>
        cases b5 with
        | false =>
          go_wp2_with fail
          go_meet
          case rel => exact ⟨_, rfl, HAK.out, rfl⟩
        | true =>
          obtain ⟨aor, capr, hry, hrO, hrl⟩ := ((Kwlr.out.mod Cx4.out (fun _ _ h => h) (fun _ _ h => h))).cell
          have hylr := hry.lt
          have HRYr := Lib.hid hry
          have HRLr := Lib.hid hrl
          clear hry hrO hrl
          have hlr : l.length ≤ 4096 := by omega
          obtain ⟨q0, hq0, hql⟩ := within_nat a.k (((l.length : Nat) : Int) + 1) (by omega)
          have HWk := hid (Within_any a.k (((l.length : Nat) : Int) + 1) (by omega) (by omega) HAK.out)
          rw [hq0] at HWk
          clear hq0
          go_upto_region 7 with (fail)
          refine wp_region_U 211 [40, 41, 42, 43, 44, 45, 46, 47, 9] [0, 1, 2, 3, 4, 5, 6, 7, 8] (fun a0 HA0 => ?_)
          have oe1 := ev HA0 1 rfl
          have oe9 := ev HA0 9 rfl
          refine QSeq.pure rfl _ (fun E => ex_move rfl (E.y 8 oe9)) ?_
          refine QSeq.pure rfl _ (fun E => ex_move rfl (E.v oe1)) ?_
          refine QSeq.pure rfl (.pointer (some ⟨y, 0, none⟩)) (fun E => ex_nil rfl (E.d 1 0)) ?_
          refine QSeq.pure rfl (.pointer (some ⟨y, 3, none⟩)) (fun E => ex_field rfl Try.underlying82 rfl (by kernel_rfl) (E.d 2 0)) ?_
          refine QSeq.pure rfl _ (fun E => ex_load1 rfl Try.underlying76 rfl (E.d 3 0) (Cs.lit1 HRYr.out rfl)) ?_
          refine QSeq.pure rfl (.int .i64 l.length) (fun E => ex_lenS rfl (E.d 4 0) Try.underlying76) ?_
          refine QSeq.pure rfl (.int .i64 (((l.length : Nat) : Int) + 1)) (fun E => ex_binE rfl (E.d 5 0) rfl (guard_ints _ _ _ _ _ _) (run_add_i _ _ Try.underlying3) (congrArg (Value.int .i64) (i64_eq (b := (((l.length : Nat) : Int) + 1)) rfl (by omega) (by omega)))) ?_
          refine QSeq.go fun act E => ?_
          refine qc_callF (args := #[.int .i64 a.k, .int .i64 (((l.length : Nat) : Int) + 1)]) rfl (wanted_none rfl) rfl Try.func9 (args2 (E.d 0 6) (E.d 6 0)) (HWk.out _) ?_
          rintro e w2 ⟨rfl, hw2⟩
          obtain rfl : u4_5 = w2 := by first | exact hw2 | exact hw2.symm
          refine ⟨_, rfl, ?_⟩
          clear act E
          refine QSeq.pure rfl _ (fun E => ex_assign rfl (E.d 7 0)) ?_
          refine QSeq.nil (t' := [_, _, _, _, _, _, _, _, _]) rfl ?_
          obtain rfl := HA0.out
          clear HA0 oe1 oe9
          simp only [pz, Act.put, sIB, sCZ, sCS]
          go_wp2_with fail
          go_meet
          case rel => exact ⟨_, rfl, (by unfold I64; omega), rfl⟩
      case rest =>
        obtain ⟨kk, rfl, hK, hwc⟩ := hcut
        rw [hwc]
        clear hwc b5
        have HK := Lib.hid hK
        clear hK
        obtain ⟨m, hm, hml⟩ := within_nat a.d 5 (by decide)
        have HW := hid (Within_any a.d 5 (by decide) (by decide) HAD.out)
        rw [hm] at HW
        clear hm
        go_upto_region 8 with (fail)
        refine wp_region_U 211 [48, 49, 50] [0, 1, 2] (fun a0 HA0 => ?_)
        have oe8 := ev HA0 8 rfl
        refine QSeq.pure rfl (.pointer (some ⟨wl.heap.size, 0, none⟩)) (fun E => ex_field rfl Try.underlying97 rfl (by kernel_rfl) (E.v oe8)) ?_
        refine QSeq.pure rfl _ (fun E => ex_load1 rfl Try.underlying3 rfl (E.d 0 0) (Cs.lit1 Hx3.out rfl)) ?_
        refine QSeq.go fun act E => ?_
        refine qc_callF (args := #[.int .i64 a.d, .int .i64 5]) rfl (wanted_none rfl) rfl Try.func9 (args2 (E.d 1 0) rfl) (HW.out _) ?_
        rintro e w2 ⟨rfl, hw2⟩
        obtain rfl : u4_5 = w2 := by first | exact hw2 | exact hw2.symm
        refine ⟨_, rfl, ?_⟩
        clear act E
        refine QSeq.nil (t' := [_, _, _]) rfl ?_
        obtain rfl := HA0.out
        clear HA0 oe8
        simp only [pz, Act.put, sIB, sCZ, sCS]
        go_upto_block 2 with (fail)
        go_cut [9] from 10 to 155 (fun t9 w' => ∃ (l : List Mg) (sn lo : Nat) (A1 B1 A2 B2 : Nat → Prop), ((l.length : Nat) : Int) ≤ mo ∧ (∀ m ∈ l, cpMg m) ∧ sn ≤ S0 + 4 * (i + 1) ∧ lo ≤ S0 + 4 * (i + 1) ∧ w.heap.size ≤ w'.heap.size ∧ NtS A1 B1 w' x mo l ((sn : Nat) : Int) ((lo : Nat) : Int) ∧ RnS A2 B2 w' y mo l ((sn : Nat) : Int) ((lo : Nat) : Int) ∧ Dj A1 B1 A2 B2 ∧ (∀ k, A1 k → O1 k ∨ New w w' k) ∧ (∀ k, B1 k → T1 k ∨ New w w' k) ∧ (∀ k, A2 k → O2 k ∨ New w w' k) ∧ (∀ k, B2 k → T2 k ∨ R0 k ∨ New w w' k) ∧ RdS AnR R0 w' (.slice (some ⟨g0, o0, none⟩) acs.length cap) acs ∧ Mod (fun k => O1 k ∨ O2 k) w w')
        case first =>
          by_cases h2m : m = 2
          · skip
            go_upto_region 16 with (fail)
            refine wp_region_U 211 [79, 78] [0, 1] (fun a0 HA0 => ?_)
            have oe50 := ev HA0 50 rfl
            refine QSeq.pure rfl (.bool true) (fun E => ex_binE rfl (E.v oe50) rfl (guard_ints _ _ _ _ _ _) (run_eql_i _ _ _ Try.underlying3) (congrArg Value.bool (eq_tt (by omega)))) ?_
            refine QSeq.pure rfl _ (fun E => ex_assign rfl (E.d 0 0)) ?_
            refine QSeq.nil (t' := [_, _]) rfl ?_
            obtain rfl := HA0.out
            clear HA0 oe50
            simp only [pz, Act.put, sIB, sCZ, sCS]
            by_cases hin : 0 ≤ kk ∧ kk < ((l.length : Nat) : Int)
            · obtain ⟨q, rfl⟩ : ∃ q : Nat, kk = (q : Int) := ⟨kk.toNat, by omega⟩
              have hql : q < l.length := by omega
              go_upto_region 17 with (fail)
              refine wp_region_U 211 [81, 82, 83, 80, 84, 85, 10, 218, 11] [0, 1, 2, 3, 4, 5, 6, 7, 8] (fun a0 HA0 => ?_)
              have oe0 := ev HA0 0 rfl
              have oe9 := ev HA0 9 rfl
              refine QSeq.pure rfl _ (fun E => ex_move rfl (E.v oe0)) ?_
              refine QSeq.pure rfl _ (fun E => ex_move rfl (E.v oe9)) ?_
              refine QSeq.call rfl rfl Try.func10 (TakeS (k := q) (Kwln.out.mod Cx4.out (fun _ _ h => h) (fun _ _ h => h)) hql KwlP.out) (fun E => args2 (E.d 0 1) (E.d 1 0)) ?_
              rintro e u17_2 ⟨ca, rfl, qnt, qa, hm⟩
              have HLa := hid (MgR.len qa)
              have HOa := hid (MgR.one qa)
              refine ⟨_, rfl, ?_⟩
              have Hx5 := hid (qnt.widen (R' := (fun k => (A1 k) ∨ (New u4_5 u17_2 k))) (E' := (fun k => (B1 k))) (fun _ h => h) (fun _ h => h))
              have Hx6 := hid qa
              have zu17_2 := hm.size
              have Cx7 := hid (show Mod (fun k => (A1 k)) u4_5 u17_2 from hm)
              clear hm
              clear qnt qa Kwln
              refine QSeq.pure rfl _ (fun E => ex_move rfl (E.d 2 0)) ?_
              refine QSeq.pure rfl (.agg ca.toArray) (fun E => ex_extract rfl (E.d 3 0) rfl) ?_
              refine QSeq.pure rfl (.bool true) (fun E => ex_extract rfl (E.d 3 1) rfl) ?_
              refine QSeq.go fun act E => ?_
              refine qc_alloc rfl (wanted_none rfl) rfl (z := (mg0C 0 0 0)) (by kernel_rfl) ?_
              intro u17_6 qb10 hm
              have zl17_6 := qb10.lt
              have Hx8 := hid qb10
              have zu17_6 := hm.size
              have HMu17_6 := hid hm
              have Cx9 := hid (Cx7.out.goE hm)
              clear hm Cx7
              clear act E qb10
              refine QSeq.go fun act E => ?_
              have hlz : (ca).length = List.length ((mg0C 0 0 0) : List Value) := (by rw [HLa.out]; kernel_rfl)
              refine qc_store rfl (wanted_none rfl) rfl Hx8.out (off := 0) (vs := ca) (by rw [hlz]; kernel_rfl) HOa.out (by rw [hlz]; exact Nat.le_of_eq (Nat.zero_add _)) (E.d 6 0) (ec (E.d 4 2)) ?_
              intro u17_7 qc0 hm
              have qb10 := qc0.eqv (b := (ca : List Value).toArray) (lay_whole (((mg0C 0 0 0) : List Value).toArray) _ (by rw [hlz]; rfl))
              clear qc0 hlz
              have Hx10 := hid qb10
              have zu17_7 := hm.size
              have HMu17_7 := hid hm
              have Cx11 := hid (Mod.goS (S' := (fun k => (A1 k))) Cx9.out hm (fun _ h => h) (by intro k h0 h2; omega))
              clear hm Cx9
              clear act E qb10 Hx8
              refine QSeq.pure rfl _ (fun E => ex_assign rfl (E.d 5 2)) ?_
              have Hx12 := hid ((Hx5.out.mod HMu17_6.out (fun _ _ h => h) (fun _ _ h => h)).mod HMu17_7.out (by intro k h1 h2; rcases h1 with h1 | h1 <;> first | omega | (have hb := KwlbA1.out k h1; omega)) (by intro k h1 h2; have hb := KwlbB1.out k h1; omega))
              have Hx13 := hid ((Hx6.out.mod HMu17_6.out (fun _ _ h => h)).mod HMu17_7.out (by intro k h1 h2; omega))
              clear Hx5 Hx6 HMu17_6 HMu17_7
              refine QSeq.nil (t' := [_, _, _, _, _, _, _, _, _]) rfl ?_
              obtain rfl := HA0.out
              clear HA0 oe0 oe9
              simp only [pz, Act.put, sIB, sCZ, sCS, List.set_nil]
              go_upto_region 18 with (fail)
              refine wp_region_U 211 [87, 88, 89, 86, 90, 91, 12, 218, 13] [0, 1, 2, 3, 4, 5, 6, 7, 8] (fun a0 HA0 => ?_)
              have oe1 := ev HA0 1 rfl
              have oe9 := ev HA0 9 rfl
              refine QSeq.pure rfl _ (fun E => ex_move rfl (E.v oe1)) ?_
              refine QSeq.pure rfl _ (fun E => ex_move rfl (E.v oe9)) ?_
              refine QSeq.call rfl rfl Try.func29 (RTakeS (k := q) ((Kwlr.out.mod Cx4.out (fun _ _ h => h) (fun _ _ h => h)).mod Cx11.out (by intro k h1 h2; first | omega | (have hb := KwlbA2.out k h1; omega) | (have hb := KwlbA1.out k h2; omega) | exact Kwlaa.out k h1 h2 | exact Kwlaa.out k h2 h1 | exact Kwlab.out k h1 h2 | exact Kwlab.out k h2 h1 | exact Kwlba.out k h1 h2 | exact Kwlba.out k h2 h1 | exact Kwl1R.out k h1 h2 | exact Kwl1R.out k h2 h1 | exact Kwl2R.out k h1 h2 | exact Kwl2R.out k h2 h1 | (have hb := KwlbA2.out k h1; have hb2 := KwlbA1.out k h2; omega)) (by intro k h1 h2; first | omega | (have hb := KwlbB2.out k h1; omega) | (have hb := KwlbA1.out k h2; omega) | exact Kwlaa.out k h1 h2 | exact Kwlaa.out k h2 h1 | exact Kwlab.out k h1 h2 | exact Kwlab.out k h2 h1 | exact Kwlba.out k h1 h2 | exact Kwlba.out k h2 h1 | exact Kwl1R.out k h1 h2 | exact Kwl1R.out k h2 h1 | exact Kwl2R.out k h1 h2 | exact Kwl2R.out k h2 h1 | (have hb := KwlbB2.out k h1; have hb2 := KwlbA1.out k h2; omega))) hql (by omega)) (fun E => args2 (E.d 0 1) (E.d 1 0)) ?_
              rintro e u18_2 ⟨cb, rfl, qrn, qb, hm⟩
              have HLb := hid (MgR.len qb)
              have HOb := hid (MgR.one qb)
              refine ⟨_, rfl, ?_⟩
              have Hx14 := hid (qrn.widen (R' := (fun k => (A2 k) ∨ (New u17_7 u18_2 k))) (E' := (fun k => (B2 k))) (fun _ h => h) (fun _ h => h))
              have Hx15 := hid qb
              have zu18_2 := hm.size
              have Cx16 := hid (show Mod (fun k => (A2 k)) u17_7 u18_2 from hm)
              clear hm
              clear qrn qb Kwlr
              refine QSeq.pure rfl _ (fun E => ex_move rfl (E.d 2 0)) ?_
              refine QSeq.pure rfl (.agg cb.toArray) (fun E => ex_extract rfl (E.d 3 0) rfl) ?_
              refine QSeq.pure rfl (.bool true) (fun E => ex_extract rfl (E.d 3 1) rfl) ?_
              refine QSeq.go fun act E => ?_
              refine qc_alloc rfl (wanted_none rfl) rfl (z := (mg0C 0 0 0)) (by kernel_rfl) ?_
              intro u18_6 qb12 hm
              have zl18_6 := qb12.lt
              have Hx17 := hid qb12
              have zu18_6 := hm.size
              have HMu18_6 := hid hm
              have Cx18 := hid (Cx16.out.goE hm)
              clear hm Cx16
              clear act E qb12
              refine QSeq.go fun act E => ?_
              have hlz : (cb).length = List.length ((mg0C 0 0 0) : List Value) := (by rw [HLb.out]; kernel_rfl)
              refine qc_store rfl (wanted_none rfl) rfl Hx17.out (off := 0) (vs := cb) (by rw [hlz]; kernel_rfl) HOb.out (by rw [hlz]; exact Nat.le_of_eq (Nat.zero_add _)) (E.d 6 0) (ec (E.d 4 2)) ?_
              intro u18_7 qc0 hm
              have qb12 := qc0.eqv (b := (cb : List Value).toArray) (lay_whole (((mg0C 0 0 0) : List Value).toArray) _ (by rw [hlz]; rfl))
              clear qc0 hlz
              have Hx19 := hid qb12
              have zu18_7 := hm.size
              have HMu18_7 := hid hm
              have Cx20 := hid (Mod.goS (S' := (fun k => (A2 k))) Cx18.out hm (fun _ h => h) (by intro k h0 h2; omega))
              clear hm Cx18
              clear act E qb12 Hx17
              refine QSeq.pure rfl _ (fun E => ex_assign rfl (E.d 5 2)) ?_
              have Hx21 := hid ((Hx14.out.mod HMu18_6.out (fun _ _ h => h) (fun _ _ h => h)).mod HMu18_7.out (by intro k h1 h2; rcases h1 with h1 | h1 <;> first | omega | (have hb := KwlbA2.out k h1; omega)) (by intro k h1 h2; have hb := KwlbB2.out k h1; omega))
              have Hx22 := hid ((Hx15.out.mod HMu18_6.out (fun _ _ h => h)).mod HMu18_7.out (by intro k h1 h2; have hb := KwlbB2.out k h1; omega))
              clear Hx14 Hx15 HMu18_6 HMu18_7
              refine QSeq.nil (t' := [_, _, _, _, _, _, _, _, _]) rfl ?_
              obtain rfl := HA0.out
              clear HA0 oe1 oe9
              simp only [pz, Act.put, sIB, sCZ, sCS, List.set_nil]
              go_upto_region 19 with (fail)
              refine wp_region_U 211 [92, 93, 94, 95, 96, 97, 98, 99, 100] [0, 1, 2, 3, 4, 5, 6, 7, 8] (fun a0 HA0 => ?_)
              have oe10 := ev HA0 10 rfl
              have oe11 := ev HA0 11 rfl
              have oe12 := ev HA0 12 rfl
              have oe13 := ev HA0 13 rfl
              refine QSeq.pure rfl _ (fun E => ex_move rfl (E.v oe11)) ?_
              refine QSeq.pure rfl _ (fun E => ex_move rfl (E.v oe13)) ?_
              refine QSeq.pure rfl (.bool false) (fun E => ex_bin rfl (E.d 0 1) (E.d 1 0) (guard_bools _ _ _ _ _ _) (run_neq_bools _ _ _ Try.underlying4)) ?_
              refine QSeq.pure rfl _ (fun E => ex_move rfl (E.d 2 0)) ?_
              refine QSeq.pureG rfl (.agg ca.toArray) (fun E => ((wanted_of rfl rfl (E.sz 95 (by decide)) (E.d 3 0)).trans rfl)) (fun E => ex_loadA rfl Try.underlying67 rfl (off := 0) (cs := ca) (by rw [HLa.out]; kernel_rfl) (E.v oe10) (Cs.whole (Hx10.out.mod Cx20.out (by intro h2; first | omega | (have hb := KwlbA2.out _ h2; omega))))) ?_
              refine QSeq.pureG rfl (.agg cb.toArray) (fun E => ((wanted_of rfl rfl (E.sz 95 (by decide)) (E.d 3 1)).trans rfl)) (fun E => ex_loadA rfl Try.underlying67 rfl (off := 0) (cs := cb) (by rw [HLb.out]; kernel_rfl) (E.v oe12) (Cs.whole Hx19.out)) ?_
              refine QSeq.go fun act E => ?_
              refine qc_callF (args := #[.agg ca.toArray, .agg cb.toArray]) rfl ((wanted_of rfl rfl (E.sz 95 (by decide)) (E.d 3 2)).trans rfl) rfl Try.func15 (args2 (E.d 4 1) (E.d 5 0)) (Eqs.same Eq_Mg (Hx13.out.mod Cx20.out (by intro k h1 h2; have hb := KwlbA2.out k h2; omega)) Hx22.out (by intro k h1; omega) (by intro k h1; have hb := KwlbB2.out k h1; omega)) ?_
              rintro e u19_6 ⟨rfl, hm⟩
              refine ⟨_, rfl, ?_⟩
              have zu19_6 := hm.size
              have Cx23 := hid (show Mod (fun _ => False) u18_7 u19_6 from hm)
              clear hm
              clear act E
              refine QSeq.pureG rfl (.bool false) (fun E => ((wanted_of rfl rfl (E.sz 95 (by decide)) (E.d 3 3)).trans rfl)) (fun E => ex_not rfl (E.d 6 0)) ?_
              refine QSeq.pure rfl (.bool false) (fun E => ex_pick rfl (E.d 3 4) rfl (E.d 7 0)) ?_
              refine QSeq.nil (t' := [_, _, _, _, _, _, _, _, _]) rfl ?_
              obtain rfl := HA0.out
              clear HA0 oe10 oe11 oe12 oe13
              simp only [pz, Act.put, sIB, sCZ, sCS]
              clear Hx13
              clear Hx22
              clear Hx10
              clear Hx19
              have hle : (l.eraseIdx q).length = l.length - 1 := by rw [List.length_eraseIdx, if_pos hql]
              clear Hx3
              clear HML
              go_wp2_with fail
              go_meet
              case rel => exact ⟨l.eraseIdx q, sn, lo, (fun k => (A1 k) ∨ (New u4_5 u17_2 k)), (fun k => (B1 k)), (fun k => (A2 k) ∨ (New u17_7 u18_2 k)), (fun k => (B2 k)), (by omega), cp_erase KwlP.out q, by omega, by omega, by omega, ((Hx12.out.mod Cx20.out (by intro k h1 h2; rcases h1 with h1 | h1 <;> first | omega | (have hb := KwlbA1.out k h1; omega) | (have hb := KwlbA2.out k h2; omega) | exact Kwlaa.out k h1 h2 | exact Kwlaa.out k h2 h1 | exact Kwlab.out k h1 h2 | exact Kwlab.out k h2 h1 | exact Kwlba.out k h1 h2 | exact Kwlba.out k h2 h1 | exact Kwl1R.out k h1 h2 | exact Kwl1R.out k h2 h1 | exact Kwl2R.out k h1 h2 | exact Kwl2R.out k h2 h1 | (have hb := KwlbA1.out k h1; have hb2 := KwlbA2.out k h2; omega)) (by intro k h1 h2; first | omega | (have hb := KwlbB1.out k h1; omega) | (have hb := KwlbA2.out k h2; omega) | exact Kwlaa.out k h1 h2 | exact Kwlaa.out k h2 h1 | exact Kwlab.out k h1 h2 | exact Kwlab.out k h2 h1 | exact Kwlba.out k h1 h2 | exact Kwlba.out k h2 h1 | exact Kwl1R.out k h1 h2 | exact Kwl1R.out k h2 h1 | exact Kwl2R.out k h1 h2 | exact Kwl2R.out k h2 h1 | (have hb := KwlbB1.out k h1; have hb2 := KwlbA2.out k h2; omega))).mod Cx23.out (fun _ _ h => h) (fun _ _ h => h)), (Hx21.out.mod Cx23.out (fun _ _ h => h) (fun _ _ h => h)), ⟨(by intro k h1 h2; rcases h1 with h1 | h1 <;> rcases h2 with h2 | h2 <;> first | omega | (have hb := KwlbA1.out k h1; omega) | (have hb := KwlbA2.out k h2; omega) | exact Kwlaa.out k h1 h2 | exact Kwlaa.out k h2 h1 | exact Kwlab.out k h1 h2 | exact Kwlab.out k h2 h1 | exact Kwlba.out k h1 h2 | exact Kwlba.out k h2 h1 | exact Kwl1R.out k h1 h2 | exact Kwl1R.out k h2 h1 | exact Kwl2R.out k h1 h2 | exact Kwl2R.out k h2 h1 | (have hb := KwlbA1.out k h1; have hb2 := KwlbA2.out k h2; omega)), (by intro k h1 h2; rcases h1 with h1 | h1 <;> first | omega | (have hb := KwlbA1.out k h1; omega) | (have hb := KwlbB2.out k h2; omega) | exact Kwlaa.out k h1 h2 | exact Kwlaa.out k h2 h1 | exact Kwlab.out k h1 h2 | exact Kwlab.out k h2 h1 | exact Kwlba.out k h1 h2 | exact Kwlba.out k h2 h1 | exact Kwl1R.out k h1 h2 | exact Kwl1R.out k h2 h1 | exact Kwl2R.out k h1 h2 | exact Kwl2R.out k h2 h1 | (have hb := KwlbA1.out k h1; have hb2 := KwlbB2.out k h2; omega)), (by intro k h1 h2; rcases h1 with h1 | h1 <;> first | omega | (have hb := KwlbA2.out k h1; omega) | (have hb := KwlbB1.out k h2; omega) | exact Kwlaa.out k h1 h2 | exact Kwlaa.out k h2 h1 | exact Kwlab.out k h1 h2 | exact Kwlab.out k h2 h1 | exact Kwlba.out k h1 h2 | exact Kwlba.out k h2 h1 | exact Kwl1R.out k h1 h2 | exact Kwl1R.out k h2 h1 | exact Kwl2R.out k h1 h2 | exact Kwl2R.out k h2 h1 | (have hb := KwlbA2.out k h1; have hb2 := KwlbB1.out k h2; omega))⟩, (by intro k h1; (try dsimp only at h1); rcases h1 with h1 | h1 <;> first | exact (KwlsA1.out k h1).elim Or.inl (fun h => Or.inr (by unfold New at h ⊢; omega)) | exact Or.inr (by unfold New; omega)), (by intro k h1; (try dsimp only at h1); first | exact (KwlsB1.out k h1).elim Or.inl (fun h => Or.inr (by unfold New at h ⊢; omega)) | exact Or.inr (by unfold New; omega)), (by intro k h1; (try dsimp only at h1); rcases h1 with h1 | h1 <;> first | exact (KwlsA2.out k h1).elim Or.inl (fun h => Or.inr (by unfold New at h ⊢; omega)) | exact Or.inr (by unfold New; omega)), (by intro k h1; (try dsimp only at h1); first | exact (KwlsB2.out k h1).elim Or.inl (fun h => h.elim (fun h => Or.inr (Or.inl h)) (fun h => Or.inr (Or.inr (by unfold New at h ⊢; omega)))) | exact Or.inr (Or.inl h1) | exact Or.inr (Or.inr (by unfold New; omega))), ((((Kwlac.out.mod Cx4.out (fun _ _ h => h)).mod Cx11.out (by intro k h1 h2; first | omega | (have hb := HBR0.out k h1; omega) | (have hb := KwlbA1.out k h2; omega) | exact Kwlaa.out k h1 h2 | exact Kwlaa.out k h2 h1 | exact Kwlab.out k h1 h2 | exact Kwlab.out k h2 h1 | exact Kwlba.out k h1 h2 | exact Kwlba.out k h2 h1 | exact Kwl1R.out k h1 h2 | exact Kwl1R.out k h2 h1 | exact Kwl2R.out k h1 h2 | exact Kwl2R.out k h2 h1 | (have hb := HBR0.out k h1; have hb2 := KwlbA1.out k h2; omega))).mod Cx20.out (by intro k h1 h2; first | omega | (have hb := HBR0.out k h1; omega) | (have hb := KwlbA2.out k h2; omega) | exact Kwlaa.out k h1 h2 | exact Kwlaa.out k h2 h1 | exact Kwlab.out k h1 h2 | exact Kwlab.out k h2 h1 | exact Kwlba.out k h1 h2 | exact Kwlba.out k h2 h1 | exact Kwl1R.out k h1 h2 | exact Kwl1R.out k h2 h1 | exact Kwl2R.out k h1 h2 | exact Kwl2R.out k h2 h1 | (have hb := HBR0.out k h1; have hb2 := KwlbA2.out k h2; omega))).mod Cx23.out (fun _ _ h => h)), ((((Kwlm.out.trans Cx4.out (fun _ _ h => h.elim)).trans Cx11.out (by intro k h1 h2; first | exact h2 | omega | exact Or.inl h2 | exact Or.inr h2 | exact Or.inr (Or.inl h2) | exact Or.inr (Or.inr h2) | (have hb := KwlbA1.out k h2; omega) | exact (KwlsA1.out _ h2).elim Or.inl (fun h => absurd h.1 (by omega)) | exact (KwlsA2.out _ h2).elim Or.inr (fun h => absurd h.1 (by omega)))).trans Cx20.out (by intro k h1 h2; first | exact h2 | omega | exact Or.inl h2 | exact Or.inr h2 | exact Or.inr (Or.inl h2) | exact Or.inr (Or.inr h2) | (have hb := KwlbA2.out k h2; omega) | exact (KwlsA1.out _ h2).elim Or.inl (fun h => absurd h.1 (by omega)) | exact (KwlsA2.out _ h2).elim Or.inr (fun h => absurd h.1 (by omega)))).trans Cx23.out (fun _ _ h => h.elim))⟩
            · have hnk := hin
              go_upto_region 17 with (fail)
              refine wp_region_U 211 [81, 82, 83, 80, 84, 85, 10, 218, 11] [0, 1, 2, 3, 4, 5, 6, 7, 8] (fun a0 HA0 => ?_)
              have oe0 := ev HA0 0 rfl
              have oe9 := ev HA0 9 rfl
              refine QSeq.pure rfl _ (fun E => ex_move rfl (E.v oe0)) ?_
              refine QSeq.pure rfl _ (fun E => ex_move rfl (E.v oe9)) ?_
              refine QSeq.call rfl rfl Try.func10 (TakeSN (Kwln.out.mod Cx4.out (fun _ _ h => h) (fun _ _ h => h)) hnk) (fun E => args2 (E.d 0 1) (E.d 1 0)) ?_
              rintro e u17_2 ⟨ca, rfl, qa, hm⟩
              have HLa := hid (MgR.len qa)
              have HOa := hid (MgR.one qa)
              refine ⟨_, rfl, ?_⟩
              have Hx24 := hid qa
              have zu17_2 := hm.size
              have Cx25 := hid (show Mod (fun _ => False) u4_5 u17_2 from hm)
              clear hm
              clear qa
              refine QSeq.pure rfl _ (fun E => ex_move rfl (E.d 2 0)) ?_
              refine QSeq.pure rfl (.agg ca.toArray) (fun E => ex_extract rfl (E.d 3 0) rfl) ?_
              refine QSeq.pure rfl (.bool false) (fun E => ex_extract rfl (E.d 3 1) rfl) ?_
              refine QSeq.go fun act E => ?_
              refine qc_alloc rfl (wanted_none rfl) rfl (z := (mg0C 0 0 0)) (by kernel_rfl) ?_
              intro u17_6 qb10 hm
              have zl17_6 := qb10.lt
              have Hx26 := hid qb10
              have zu17_6 := hm.size
              have HMu17_6 := hid hm
              have Cx27 := hid (Cx25.out.goE hm)
              clear hm Cx25
              clear act E qb10
              refine QSeq.go fun act E => ?_
              have hlz : (ca).length = List.length ((mg0C 0 0 0) : List Value) := (by rw [HLa.out]; kernel_rfl)
              refine qc_store rfl (wanted_none rfl) rfl Hx26.out (off := 0) (vs := ca) (by rw [hlz]; kernel_rfl) HOa.out (by rw [hlz]; exact Nat.le_of_eq (Nat.zero_add _)) (E.d 6 0) (ec (E.d 4 2)) ?_
              intro u17_7 qc0 hm
              have qb10 := qc0.eqv (b := (ca : List Value).toArray) (lay_whole (((mg0C 0 0 0) : List Value).toArray) _ (by rw [hlz]; rfl))
              clear qc0 hlz
              have Hx28 := hid qb10
              have zu17_7 := hm.size
              have HMu17_7 := hid hm
              have Cx29 := hid (Mod.goS (S' := (fun _ => False)) Cx27.out hm (fun _ h => h) (by intro k h0 h2; omega))
              clear hm Cx27
              clear act E qb10 Hx26
              refine QSeq.pure rfl _ (fun E => ex_assign rfl (E.d 5 2)) ?_
              have Hx30 := hid ((Hx24.out.mod HMu17_6.out (fun _ _ h => h)).mod HMu17_7.out (by intro k h1 h2; omega))
              clear Hx24 HMu17_6 HMu17_7
              refine QSeq.nil (t' := [_, _, _, _, _, _, _, _, _]) rfl ?_
              obtain rfl := HA0.out
              clear HA0 oe0 oe9
              simp only [pz, Act.put, sIB, sCZ, sCS, List.set_nil]
              go_upto_region 18 with (fail)
              refine wp_region_U 211 [87, 88, 89, 86, 90, 91, 12, 218, 13] [0, 1, 2, 3, 4, 5, 6, 7, 8] (fun a0 HA0 => ?_)
              have oe1 := ev HA0 1 rfl
              have oe9 := ev HA0 9 rfl
              refine QSeq.pure rfl _ (fun E => ex_move rfl (E.v oe1)) ?_
              refine QSeq.pure rfl _ (fun E => ex_move rfl (E.v oe9)) ?_
              refine QSeq.call rfl rfl Try.func29 (RTakeSN ((Kwlr.out.mod Cx4.out (fun _ _ h => h) (fun _ _ h => h)).mod Cx29.out (fun _ _ h => h) (fun _ _ h => h)) hnk) (fun E => args2 (E.d 0 1) (E.d 1 0)) ?_
              rintro e u18_2 ⟨cb, rfl, qb, hm⟩
              have HLb := hid (MgR.len qb)
              have HOb := hid (MgR.one qb)
              refine ⟨_, rfl, ?_⟩
              have Hx31 := hid qb
              have zu18_2 := hm.size
              have Cx32 := hid (show Mod (fun _ => False) u17_7 u18_2 from hm)
              clear hm
              clear qb
              refine QSeq.pure rfl _ (fun E => ex_move rfl (E.d 2 0)) ?_
              refine QSeq.pure rfl (.agg cb.toArray) (fun E => ex_extract rfl (E.d 3 0) rfl) ?_
              refine QSeq.pure rfl (.bool false) (fun E => ex_extract rfl (E.d 3 1) rfl) ?_
              refine QSeq.go fun act E => ?_
              refine qc_alloc rfl (wanted_none rfl) rfl (z := (mg0C 0 0 0)) (by kernel_rfl) ?_
              intro u18_6 qb12 hm
              have zl18_6 := qb12.lt
              have Hx33 := hid qb12
              have zu18_6 := hm.size
              have HMu18_6 := hid hm
              have Cx34 := hid (Cx32.out.goE hm)
              clear hm Cx32
              clear act E qb12
              refine QSeq.go fun act E => ?_
              have hlz : (cb).length = List.length ((mg0C 0 0 0) : List Value) := (by rw [HLb.out]; kernel_rfl)
              refine qc_store rfl (wanted_none rfl) rfl Hx33.out (off := 0) (vs := cb) (by rw [hlz]; kernel_rfl) HOb.out (by rw [hlz]; exact Nat.le_of_eq (Nat.zero_add _)) (E.d 6 0) (ec (E.d 4 2)) ?_
              intro u18_7 qc0 hm
              have qb12 := qc0.eqv (b := (cb : List Value).toArray) (lay_whole (((mg0C 0 0 0) : List Value).toArray) _ (by rw [hlz]; rfl))
              clear qc0 hlz
              have Hx35 := hid qb12
              have zu18_7 := hm.size
              have HMu18_7 := hid hm
              have Cx36 := hid (Mod.goS (S' := (fun _ => False)) Cx34.out hm (fun _ h => h) (by intro k h0 h2; omega))
              clear hm Cx34
              clear act E qb12 Hx33
              refine QSeq.pure rfl _ (fun E => ex_assign rfl (E.d 5 2)) ?_
              have Hx37 := hid ((Hx31.out.mod HMu18_6.out (fun _ _ h => h)).mod HMu18_7.out (by intro k h1 h2; omega))
              clear Hx31 HMu18_6 HMu18_7
              refine QSeq.nil (t' := [_, _, _, _, _, _, _, _, _]) rfl ?_
              obtain rfl := HA0.out
              clear HA0 oe1 oe9
              simp only [pz, Act.put, sIB, sCZ, sCS, List.set_nil]
              go_upto_region 19 with (fail)
              refine wp_region_U 211 [92, 93, 94, 95, 96, 97, 98, 99, 100] [0, 1, 2, 3, 4, 5, 6, 7, 8] (fun a0 HA0 => ?_)
              have oe10 := ev HA0 10 rfl
              have oe11 := ev HA0 11 rfl
              have oe12 := ev HA0 12 rfl
              have oe13 := ev HA0 13 rfl
              refine QSeq.pure rfl _ (fun E => ex_move rfl (E.v oe11)) ?_
              refine QSeq.pure rfl _ (fun E => ex_move rfl (E.v oe13)) ?_
              refine QSeq.pure rfl (.bool false) (fun E => ex_bin rfl (E.d 0 1) (E.d 1 0) (guard_bools _ _ _ _ _ _) (run_neq_bools _ _ _ Try.underlying4)) ?_
              refine QSeq.pure rfl _ (fun E => ex_move rfl (E.d 2 0)) ?_
              refine QSeq.pureG rfl (.agg ca.toArray) (fun E => ((wanted_of rfl rfl (E.sz 95 (by decide)) (E.d 3 0)).trans rfl)) (fun E => ex_loadA rfl Try.underlying67 rfl (off := 0) (cs := ca) (by rw [HLa.out]; kernel_rfl) (E.v oe10) (Cs.whole (Hx28.out.mod Cx36.out (fun h => h)))) ?_
              refine QSeq.pureG rfl (.agg cb.toArray) (fun E => ((wanted_of rfl rfl (E.sz 95 (by decide)) (E.d 3 1)).trans rfl)) (fun E => ex_loadA rfl Try.underlying67 rfl (off := 0) (cs := cb) (by rw [HLb.out]; kernel_rfl) (E.v oe12) (Cs.whole Hx35.out)) ?_
              refine QSeq.go fun act E => ?_
              refine qc_callF (args := #[.agg ca.toArray, .agg cb.toArray]) rfl ((wanted_of rfl rfl (E.sz 95 (by decide)) (E.d 3 2)).trans rfl) rfl Try.func15 (args2 (E.d 4 1) (E.d 5 0)) (Eqs.same Eq_Mg (Hx30.out.mod Cx36.out (fun _ _ h => h)) Hx37.out (by intro k h1; omega) (by intro k h1; omega)) ?_
              rintro e u19_6 ⟨rfl, hm⟩
              refine ⟨_, rfl, ?_⟩
              have zu19_6 := hm.size
              have Cx38 := hid (show Mod (fun _ => False) u18_7 u19_6 from hm)
              clear hm
              clear act E
              refine QSeq.pureG rfl (.bool false) (fun E => ((wanted_of rfl rfl (E.sz 95 (by decide)) (E.d 3 3)).trans rfl)) (fun E => ex_not rfl (E.d 6 0)) ?_
              refine QSeq.pure rfl (.bool false) (fun E => ex_pick rfl (E.d 3 4) rfl (E.d 7 0)) ?_
              refine QSeq.nil (t' := [_, _, _, _, _, _, _, _, _]) rfl ?_
              obtain rfl := HA0.out
              clear HA0 oe10 oe11 oe12 oe13
              simp only [pz, Act.put, sIB, sCZ, sCS]
              clear Hx30
              clear Hx37
              clear Hx28
              clear Hx35
              clear Hx3
              clear HML
              go_wp2_with fail
              go_meet
              case rel => exact ⟨l, sn, lo, (fun k => (A1 k)), (fun k => (B1 k)), (fun k => (A2 k)), (fun k => (B2 k)), (by omega), KwlP.out, by omega, by omega, by omega, ((((Kwln.out.mod Cx4.out (fun _ _ h => h) (fun _ _ h => h)).mod Cx29.out (fun _ _ h => h) (fun _ _ h => h)).mod Cx36.out (fun _ _ h => h) (fun _ _ h => h)).mod Cx38.out (fun _ _ h => h) (fun _ _ h => h)), ((((Kwlr.out.mod Cx4.out (fun _ _ h => h) (fun _ _ h => h)).mod Cx29.out (fun _ _ h => h) (fun _ _ h => h)).mod Cx36.out (fun _ _ h => h) (fun _ _ h => h)).mod Cx38.out (fun _ _ h => h) (fun _ _ h => h)), ⟨(by intro k h1 h2; first | omega | (have hb := KwlbA1.out k h1; omega) | (have hb := KwlbA2.out k h2; omega) | exact Kwlaa.out k h1 h2 | exact Kwlaa.out k h2 h1 | exact Kwlab.out k h1 h2 | exact Kwlab.out k h2 h1 | exact Kwlba.out k h1 h2 | exact Kwlba.out k h2 h1 | exact Kwl1R.out k h1 h2 | exact Kwl1R.out k h2 h1 | exact Kwl2R.out k h1 h2 | exact Kwl2R.out k h2 h1 | (have hb := KwlbA1.out k h1; have hb2 := KwlbA2.out k h2; omega)), (by intro k h1 h2; first | omega | (have hb := KwlbA1.out k h1; omega) | (have hb := KwlbB2.out k h2; omega) | exact Kwlaa.out k h1 h2 | exact Kwlaa.out k h2 h1 | exact Kwlab.out k h1 h2 | exact Kwlab.out k h2 h1 | exact Kwlba.out k h1 h2 | exact Kwlba.out k h2 h1 | exact Kwl1R.out k h1 h2 | exact Kwl1R.out k h2 h1 | exact Kwl2R.out k h1 h2 | exact Kwl2R.out k h2 h1 | (have hb := KwlbA1.out k h1; have hb2 := KwlbB2.out k h2; omega)), (by intro k h1 h2; first | omega | (have hb := KwlbA2.out k h1; omega) | (have hb := KwlbB1.out k h2; omega) | exact Kwlaa.out k h1 h2 | exact Kwlaa.out k h2 h1 | exact Kwlab.out k h1 h2 | exact Kwlab.out k h2 h1 | exact Kwlba.out k h1 h2 | exact Kwlba.out k h2 h1 | exact Kwl1R.out k h1 h2 | exact Kwl1R.out k h2 h1 | exact Kwl2R.out k h1 h2 | exact Kwl2R.out k h2 h1 | (have hb := KwlbA2.out k h1; have hb2 := KwlbB1.out k h2; omega))⟩, (by intro k h1; (try dsimp only at h1); first | exact (KwlsA1.out k h1).elim Or.inl (fun h => Or.inr (by unfold New at h ⊢; omega)) | exact Or.inr (by unfold New; omega)), (by intro k h1; (try dsimp only at h1); first | exact (KwlsB1.out k h1).elim Or.inl (fun h => Or.inr (by unfold New at h ⊢; omega)) | exact Or.inr (by unfold New; omega)), (by intro k h1; (try dsimp only at h1); first | exact (KwlsA2.out k h1).elim Or.inl (fun h => Or.inr (by unfold New at h ⊢; omega)) | exact Or.inr (by unfold New; omega)), (by intro k h1; (try dsimp only at h1); first | exact (KwlsB2.out k h1).elim Or.inl (fun h => h.elim (fun h => Or.inr (Or.inl h)) (fun h => Or.inr (Or.inr (by unfold New at h ⊢; omega)))) | exact Or.inr (Or.inl h1) | exact Or.inr (Or.inr (by unfold New; omega))), ((((Kwlac.out.mod Cx4.out (fun _ _ h => h)).mod Cx29.out (fun _ _ h => h)).mod Cx36.out (fun _ _ h => h)).mod Cx38.out (fun _ _ h => h)), ((((Kwlm.out.trans Cx4.out (fun _ _ h => h.elim)).trans Cx29.out (fun _ _ h => h.elim)).trans Cx36.out (fun _ _ h => h.elim)).trans Cx38.out (fun _ _ h => h.elim))⟩
          · skip
            go_upto_region 16 with (fail)
            refine wp_region_U 211 [79, 78] [0, 1] (fun a0 HA0 => ?_)
            have oe50 := ev HA0 50 rfl
            refine QSeq.pure rfl (.bool false) (fun E => ex_binE rfl (E.v oe50) rfl (guard_ints _ _ _ _ _ _) (run_eql_i _ _ _ Try.underlying3) (congrArg Value.bool (eq_ff (by omega)))) ?_
            refine QSeq.pure rfl _ (fun E => ex_assign rfl (E.d 0 0)) ?_
            refine QSeq.nil (t' := [_, _]) rfl ?_
            obtain rfl := HA0.out
            clear HA0 oe50
            simp only [pz, Act.put, sIB, sCZ, sCS]
            by_cases h3m : m = 3
            · skip
              go_upto_region 21 with (fail)
              refine wp_region_U 211 [102, 101] [0, 1] (fun a0 HA0 => ?_)
              have oe50 := ev HA0 50 rfl
              refine QSeq.pure rfl (.bool true) (fun E => ex_binE rfl (E.v oe50) rfl (guard_ints _ _ _ _ _ _) (run_eql_i _ _ _ Try.underlying3) (congrArg Value.bool (eq_tt (by omega)))) ?_
              refine QSeq.pure rfl _ (fun E => ex_assign rfl (E.d 0 0)) ?_
              refine QSeq.nil (t' := [_, _]) rfl ?_
              obtain rfl := HA0.out
              clear HA0 oe50
              simp only [pz, Act.put, sIB, sCZ, sCS]
              by_cases hin : 0 ≤ kk ∧ kk < ((l.length : Nat) : Int)
              · obtain ⟨q, rfl⟩ : ∃ q : Nat, kk = (q : Int) := ⟨kk.toNat, by omega⟩
                have hql : q < l.length := by omega
                by_cases hfu : mo ≤ ((l.length : Nat) : Int)
                · skip
                  go_upto_region 22 with (fail)
                  refine wp_region_U 211 [103, 104, 105, 106, 107, 108, 109] [0, 1, 2, 3, 4, 5, 6] (fun a0 HA0 => ?_)
                  have oe0 := ev HA0 0 rfl
                  have oe1 := ev HA0 1 rfl
                  have oe9 := ev HA0 9 rfl
                  refine QSeq.pure rfl _ (fun E => ex_move rfl (E.v oe0)) ?_
                  refine QSeq.pure rfl _ (fun E => ex_move rfl (E.v oe9)) ?_
                  refine QSeq.call rfl rfl Try.func16 (DoubSN (k := ((q : Nat) : Int)) (Kwln.out.mod Cx4.out (fun _ _ h => h) (fun _ _ h => h)) (Or.inr hfu)) (fun E => args2 (E.d 0 1) (E.d 1 0)) ?_
                  rintro e u22_2 ⟨rfl, hm⟩
                  refine ⟨_, rfl, ?_⟩
                  have zu22_2 := hm.size
                  have Cx39 := hid (show Mod (fun _ => False) u4_5 u22_2 from hm)
                  clear hm
                  refine QSeq.pure rfl _ (fun E => ex_move rfl (E.v oe1)) ?_
                  refine QSeq.pure rfl _ (fun E => ex_move rfl (E.v oe9)) ?_
                  refine QSeq.call rfl rfl Try.func30 (RDoubSN (k := ((q : Nat) : Int)) ((Kwlr.out.mod Cx4.out (fun _ _ h => h) (fun _ _ h => h)).mod Cx39.out (fun _ _ h => h) (fun _ _ h => h)) (Or.inr hfu)) (fun E => args2 (E.d 3 1) (E.d 4 0)) ?_
                  rintro e u22_5 ⟨rfl, hm⟩
                  refine ⟨_, rfl, ?_⟩
                  have zu22_5 := hm.size
                  have HMu22_5 := hid hm
                  have Cx40 := hid (Cx39.out.goE hm)
                  clear hm Cx39
                  refine QSeq.pure rfl (.bool false) (fun E => ex_bin rfl (E.d 2 3) (E.d 5 0) (guard_bools _ _ _ _ _ _) (run_neq_bools _ _ _ Try.underlying4)) ?_
                  clear HMu22_5
                  refine QSeq.nil (t' := [_, _, _, _, _, _, _]) rfl ?_
                  obtain rfl := HA0.out
                  clear HA0 oe0 oe1 oe9
                  simp only [pz, Act.put, sIB, sCZ, sCS]
                  clear Hx3
                  clear HML
                  go_wp2_with fail
                  go_meet
                  case rel => exact ⟨l, sn, lo, (fun k => (A1 k)), (fun k => (B1 k)), (fun k => (A2 k)), (fun k => (B2 k)), (by omega), KwlP.out, by omega, by omega, by omega, ((Kwln.out.mod Cx4.out (fun _ _ h => h) (fun _ _ h => h)).mod Cx40.out (fun _ _ h => h) (fun _ _ h => h)), ((Kwlr.out.mod Cx4.out (fun _ _ h => h) (fun _ _ h => h)).mod Cx40.out (fun _ _ h => h) (fun _ _ h => h)), ⟨(by intro k h1 h2; first | omega | (have hb := KwlbA1.out k h1; omega) | (have hb := KwlbA2.out k h2; omega) | exact Kwlaa.out k h1 h2 | exact Kwlaa.out k h2 h1 | exact Kwlab.out k h1 h2 | exact Kwlab.out k h2 h1 | exact Kwlba.out k h1 h2 | exact Kwlba.out k h2 h1 | exact Kwl1R.out k h1 h2 | exact Kwl1R.out k h2 h1 | exact Kwl2R.out k h1 h2 | exact Kwl2R.out k h2 h1 | (have hb := KwlbA1.out k h1; have hb2 := KwlbA2.out k h2; omega)), (by intro k h1 h2; first | omega | (have hb := KwlbA1.out k h1; omega) | (have hb := KwlbB2.out k h2; omega) | exact Kwlaa.out k h1 h2 | exact Kwlaa.out k h2 h1 | exact Kwlab.out k h1 h2 | exact Kwlab.out k h2 h1 | exact Kwlba.out k h1 h2 | exact Kwlba.out k h2 h1 | exact Kwl1R.out k h1 h2 | exact Kwl1R.out k h2 h1 | exact Kwl2R.out k h1 h2 | exact Kwl2R.out k h2 h1 | (have hb := KwlbA1.out k h1; have hb2 := KwlbB2.out k h2; omega)), (by intro k h1 h2; first | omega | (have hb := KwlbA2.out k h1; omega) | (have hb := KwlbB1.out k h2; omega) | exact Kwlaa.out k h1 h2 | exact Kwlaa.out k h2 h1 | exact Kwlab.out k h1 h2 | exact Kwlab.out k h2 h1 | exact Kwlba.out k h1 h2 | exact Kwlba.out k h2 h1 | exact Kwl1R.out k h1 h2 | exact Kwl1R.out k h2 h1 | exact Kwl2R.out k h1 h2 | exact Kwl2R.out k h2 h1 | (have hb := KwlbA2.out k h1; have hb2 := KwlbB1.out k h2; omega))⟩, (by intro k h1; (try dsimp only at h1); first | exact (KwlsA1.out k h1).elim Or.inl (fun h => Or.inr (by unfold New at h ⊢; omega)) | exact Or.inr (by unfold New; omega)), (by intro k h1; (try dsimp only at h1); first | exact (KwlsB1.out k h1).elim Or.inl (fun h => Or.inr (by unfold New at h ⊢; omega)) | exact Or.inr (by unfold New; omega)), (by intro k h1; (try dsimp only at h1); first | exact (KwlsA2.out k h1).elim Or.inl (fun h => Or.inr (by unfold New at h ⊢; omega)) | exact Or.inr (by unfold New; omega)), (by intro k h1; (try dsimp only at h1); first | exact (KwlsB2.out k h1).elim Or.inl (fun h => h.elim (fun h => Or.inr (Or.inl h)) (fun h => Or.inr (Or.inr (by unfold New at h ⊢; omega)))) | exact Or.inr (Or.inl h1) | exact Or.inr (Or.inr (by unfold New; omega))), ((Kwlac.out.mod Cx4.out (fun _ _ h => h)).mod Cx40.out (fun _ _ h => h)), ((Kwlm.out.trans Cx4.out (fun _ _ h => h.elim)).trans Cx40.out (fun _ _ h => h.elim))⟩
                · have hd : q < l.length ∧ ((l.length : Nat) : Int) < mo := ⟨hql, by omega⟩
                  go_upto_region 22 with (fail)
                  refine wp_region_U 211 [103, 104, 105, 106, 107, 108, 109] [0, 1, 2, 3, 4, 5, 6] (fun a0 HA0 => ?_)
                  have oe0 := ev HA0 0 rfl
                  have oe1 := ev HA0 1 rfl
                  have oe9 := ev HA0 9 rfl
                  refine QSeq.pure rfl _ (fun E => ex_move rfl (E.v oe0)) ?_
                  refine QSeq.pure rfl _ (fun E => ex_move rfl (E.v oe9)) ?_
                  refine QSeq.call rfl rfl Try.func16 (DoubS (k := q) (Kwln.out.mod Cx4.out (fun _ _ h => h) (fun _ _ h => h)) hd (by omega)) (fun E => args2 (E.d 0 1) (E.d 1 0)) ?_
                  rintro e u22_2 ⟨rfl, qnt, hm⟩
                  refine ⟨_, rfl, ?_⟩
                  have Hx41 := hid (qnt.widen (R' := (fun k => (A1 k) ∨ (New u4_5 u22_2 k))) (E' := (fun k => (B1 k) ∨ (New u4_5 u22_2 k))) (fun _ h => h) (fun _ h => h))
                  have zu22_2 := hm.size
                  have Cx42 := hid (show Mod (fun k => (A1 k)) u4_5 u22_2 from hm)
                  clear hm
                  clear qnt Kwln
                  refine QSeq.pure rfl _ (fun E => ex_move rfl (E.v oe1)) ?_
                  refine QSeq.pure rfl _ (fun E => ex_move rfl (E.v oe9)) ?_
                  refine QSeq.call rfl rfl Try.func30 (RDoubS (k := q) ((Kwlr.out.mod Cx4.out (fun _ _ h => h) (fun _ _ h => h)).mod Cx42.out (by intro k h1 h2; first | omega | (have hb := KwlbA2.out k h1; omega) | (have hb := KwlbA1.out k h2; omega) | exact Kwlaa.out k h1 h2 | exact Kwlaa.out k h2 h1 | exact Kwlab.out k h1 h2 | exact Kwlab.out k h2 h1 | exact Kwlba.out k h1 h2 | exact Kwlba.out k h2 h1 | exact Kwl1R.out k h1 h2 | exact Kwl1R.out k h2 h1 | exact Kwl2R.out k h1 h2 | exact Kwl2R.out k h2 h1 | (have hb := KwlbA2.out k h1; have hb2 := KwlbA1.out k h2; omega)) (by intro k h1 h2; first | omega | (have hb := KwlbB2.out k h1; omega) | (have hb := KwlbA1.out k h2; omega) | exact Kwlaa.out k h1 h2 | exact Kwlaa.out k h2 h1 | exact Kwlab.out k h1 h2 | exact Kwlab.out k h2 h1 | exact Kwlba.out k h1 h2 | exact Kwlba.out k h2 h1 | exact Kwl1R.out k h1 h2 | exact Kwl1R.out k h2 h1 | exact Kwl2R.out k h1 h2 | exact Kwl2R.out k h2 h1 | (have hb := KwlbB2.out k h1; have hb2 := KwlbA1.out k h2; omega))) hd (by omega)) (fun E => args2 (E.d 3 1) (E.d 4 0)) ?_
                  rintro e u22_5 ⟨rfl, qrn, hm⟩
                  refine ⟨_, rfl, ?_⟩
                  have Hx43 := hid (qrn.widen (R' := (fun k => (A2 k) ∨ (New u22_2 u22_5 k))) (E' := (fun k => (B2 k) ∨ (New u22_2 u22_5 k))) (fun _ h => h) (fun _ h => h))
                  have zu22_5 := hm.size
                  have HMu22_5 := hid hm
                  have Cx44 := hid (Mod.goS (S' := (fun k => (A1 k) ∨ (A2 k))) Cx42.out hm (fun _ h => Or.inl h) (by intro k h0 h2; exact Or.inr (h2)))
                  clear hm Cx42
                  clear qrn Kwlr
                  refine QSeq.pure rfl (.bool false) (fun E => ex_bin rfl (E.d 2 3) (E.d 5 0) (guard_bools _ _ _ _ _ _) (run_neq_bools _ _ _ Try.underlying4)) ?_
                  have Hx45 := hid (Hx41.out.mod HMu22_5.out (by intro k h1 h2; rcases h1 with h1 | h1 <;> first | omega | (have hb := KwlbA1.out k h1; omega) | (have hb := KwlbA2.out k h2; omega) | exact Kwlaa.out k h1 h2 | exact Kwlaa.out k h2 h1 | exact Kwlab.out k h1 h2 | exact Kwlab.out k h2 h1 | exact Kwlba.out k h1 h2 | exact Kwlba.out k h2 h1 | exact Kwl1R.out k h1 h2 | exact Kwl1R.out k h2 h1 | exact Kwl2R.out k h1 h2 | exact Kwl2R.out k h2 h1 | (have hb := KwlbA1.out k h1; have hb2 := KwlbA2.out k h2; omega)) (by intro k h1 h2; rcases h1 with h1 | h1 <;> first | omega | (have hb := KwlbB1.out k h1; omega) | (have hb := KwlbA2.out k h2; omega) | exact Kwlaa.out k h1 h2 | exact Kwlaa.out k h2 h1 | exact Kwlab.out k h1 h2 | exact Kwlab.out k h2 h1 | exact Kwlba.out k h1 h2 | exact Kwlba.out k h2 h1 | exact Kwl1R.out k h1 h2 | exact Kwl1R.out k h2 h1 | exact Kwl2R.out k h1 h2 | exact Kwl2R.out k h2 h1 | (have hb := KwlbB1.out k h1; have hb2 := KwlbA2.out k h2; omega)))
                  clear Hx41 HMu22_5
                  refine QSeq.nil (t' := [_, _, _, _, _, _, _]) rfl ?_
                  obtain rfl := HA0.out
                  clear HA0 oe0 oe1 oe9
                  simp only [pz, Act.put, sIB, sCZ, sCS]
                  have hle : (l ++ [l[q]'hd.1]).length = l.length + 1 := by rw [List.length_append]; rfl
                  clear Hx3
                  clear HML
                  go_wp2_with fail
                  go_meet
                  case rel => exact ⟨l ++ [l[q]'hd.1], sn, lo, (fun k => (A1 k) ∨ (New u4_5 u22_2 k)), (fun k => (B1 k) ∨ (New u4_5 u22_2 k)), (fun k => (A2 k) ∨ (New u22_2 u22_5 k)), (fun k => (B2 k) ∨ (New u22_2 u22_5 k)), (by omega), cp_snoc KwlP.out (KwlP.out _ (List.getElem_mem _)), by omega, by omega, by omega, Hx45.out, Hx43.out, ⟨(by intro k h1 h2; rcases h1 with h1 | h1 <;> rcases h2 with h2 | h2 <;> first | omega | (have hb := KwlbA1.out k h1; omega) | (have hb := KwlbA2.out k h2; omega) | exact Kwlaa.out k h1 h2 | exact Kwlaa.out k h2 h1 | exact Kwlab.out k h1 h2 | exact Kwlab.out k h2 h1 | exact Kwlba.out k h1 h2 | exact Kwlba.out k h2 h1 | exact Kwl1R.out k h1 h2 | exact Kwl1R.out k h2 h1 | exact Kwl2R.out k h1 h2 | exact Kwl2R.out k h2 h1 | (have hb := KwlbA1.out k h1; have hb2 := KwlbA2.out k h2; omega)), (by intro k h1 h2; rcases h1 with h1 | h1 <;> rcases h2 with h2 | h2 <;> first | omega | (have hb := KwlbA1.out k h1; omega) | (have hb := KwlbB2.out k h2; omega) | exact Kwlaa.out k h1 h2 | exact Kwlaa.out k h2 h1 | exact Kwlab.out k h1 h2 | exact Kwlab.out k h2 h1 | exact Kwlba.out k h1 h2 | exact Kwlba.out k h2 h1 | exact Kwl1R.out k h1 h2 | exact Kwl1R.out k h2 h1 | exact Kwl2R.out k h1 h2 | exact Kwl2R.out k h2 h1 | (have hb := KwlbA1.out k h1; have hb2 := KwlbB2.out k h2; omega)), (by intro k h1 h2; rcases h1 with h1 | h1 <;> rcases h2 with h2 | h2 <;> first | omega | (have hb := KwlbA2.out k h1; omega) | (have hb := KwlbB1.out k h2; omega) | exact Kwlaa.out k h1 h2 | exact Kwlaa.out k h2 h1 | exact Kwlab.out k h1 h2 | exact Kwlab.out k h2 h1 | exact Kwlba.out k h1 h2 | exact Kwlba.out k h2 h1 | exact Kwl1R.out k h1 h2 | exact Kwl1R.out k h2 h1 | exact Kwl2R.out k h1 h2 | exact Kwl2R.out k h2 h1 | (have hb := KwlbA2.out k h1; have hb2 := KwlbB1.out k h2; omega))⟩, (by intro k h1; (try dsimp only at h1); rcases h1 with h1 | h1 <;> first | exact (KwlsA1.out k h1).elim Or.inl (fun h => Or.inr (by unfold New at h ⊢; omega)) | exact Or.inr (by unfold New; omega)), (by intro k h1; (try dsimp only at h1); rcases h1 with h1 | h1 <;> first | exact (KwlsB1.out k h1).elim Or.inl (fun h => Or.inr (by unfold New at h ⊢; omega)) | exact Or.inr (by unfold New; omega)), (by intro k h1; (try dsimp only at h1); rcases h1 with h1 | h1 <;> first | exact (KwlsA2.out k h1).elim Or.inl (fun h => Or.inr (by unfold New at h ⊢; omega)) | exact Or.inr (by unfold New; omega)), (by intro k h1; (try dsimp only at h1); rcases h1 with h1 | h1 <;> first | exact (KwlsB2.out k h1).elim Or.inl (fun h => h.elim (fun h => Or.inr (Or.inl h)) (fun h => Or.inr (Or.inr (by unfold New at h ⊢; omega)))) | exact Or.inr (Or.inl h1) | exact Or.inr (Or.inr (by unfold New; omega))), ((Kwlac.out.mod Cx4.out (fun _ _ h => h)).mod Cx44.out (by intro k h1 h2; rcases h2 with h2 | h2 <;> first | omega | (have hb := HBR0.out k h1; omega) | (have hb := KwlbA1.out k h2; omega) | (have hb := KwlbA2.out k h2; omega) | exact Kwlaa.out k h1 h2 | exact Kwlaa.out k h2 h1 | exact Kwlab.out k h1 h2 | exact Kwlab.out k h2 h1 | exact Kwlba.out k h1 h2 | exact Kwlba.out k h2 h1 | exact Kwl1R.out k h1 h2 | exact Kwl1R.out k h2 h1 | exact Kwl2R.out k h1 h2 | exact Kwl2R.out k h2 h1 | (have hb := HBR0.out k h1; have hb2 := KwlbA1.out k h2; omega) | (have hb := HBR0.out k h1; have hb2 := KwlbA2.out k h2; omega))), ((Kwlm.out.trans Cx4.out (fun _ _ h => h.elim)).trans Cx44.out (by intro k h1 h2; rcases h2 with h2 | h2 <;> first | exact h2 | omega | exact Or.inl h2 | exact Or.inr h2 | exact Or.inr (Or.inl h2) | exact Or.inr (Or.inr h2) | (have hb := KwlbA1.out k h2; omega) | (have hb := KwlbA2.out k h2; omega) | exact (KwlsA1.out _ h2).elim Or.inl (fun h => absurd h.1 (by omega)) | exact (KwlsA2.out _ h2).elim Or.inr (fun h => absurd h.1 (by omega))))⟩
              · have hnk := hin
                go_upto_region 22 with (fail)
                refine wp_region_U 211 [103, 104, 105, 106, 107, 108, 109] [0, 1, 2, 3, 4, 5, 6] (fun a0 HA0 => ?_)
                have oe0 := ev HA0 0 rfl
                have oe1 := ev HA0 1 rfl
                have oe9 := ev HA0 9 rfl
                refine QSeq.pure rfl _ (fun E => ex_move rfl (E.v oe0)) ?_
                refine QSeq.pure rfl _ (fun E => ex_move rfl (E.v oe9)) ?_
                refine QSeq.call rfl rfl Try.func16 (DoubSN (k := kk) (Kwln.out.mod Cx4.out (fun _ _ h => h) (fun _ _ h => h)) (Or.inl hnk)) (fun E => args2 (E.d 0 1) (E.d 1 0)) ?_
                rintro e u22_2 ⟨rfl, hm⟩
                refine ⟨_, rfl, ?_⟩
                have zu22_2 := hm.size
                have Cx46 := hid (show Mod (fun _ => False) u4_5 u22_2 from hm)
                clear hm
                refine QSeq.pure rfl _ (fun E => ex_move rfl (E.v oe1)) ?_
                refine QSeq.pure rfl _ (fun E => ex_move rfl (E.v oe9)) ?_
                refine QSeq.call rfl rfl Try.func30 (RDoubSN (k := kk) ((Kwlr.out.mod Cx4.out (fun _ _ h => h) (fun _ _ h => h)).mod Cx46.out (fun _ _ h => h) (fun _ _ h => h)) (Or.inl hnk)) (fun E => args2 (E.d 3 1) (E.d 4 0)) ?_
                rintro e u22_5 ⟨rfl, hm⟩
                refine ⟨_, rfl, ?_⟩
                have zu22_5 := hm.size
                have HMu22_5 := hid hm
                have Cx47 := hid (Cx46.out.goE hm)
                clear hm Cx46
                refine QSeq.pure rfl (.bool false) (fun E => ex_bin rfl (E.d 2 3) (E.d 5 0) (guard_bools _ _ _ _ _ _) (run_neq_bools _ _ _ Try.underlying4)) ?_
                clear HMu22_5
                refine QSeq.nil (t' := [_, _, _, _, _, _, _]) rfl ?_
                obtain rfl := HA0.out
                clear HA0 oe0 oe1 oe9
                simp only [pz, Act.put, sIB, sCZ, sCS]
                clear Hx3
                clear HML
                go_wp2_with fail
                go_meet
                case rel => exact ⟨l, sn, lo, (fun k => (A1 k)), (fun k => (B1 k)), (fun k => (A2 k)), (fun k => (B2 k)), (by omega), KwlP.out, by omega, by omega, by omega, ((Kwln.out.mod Cx4.out (fun _ _ h => h) (fun _ _ h => h)).mod Cx47.out (fun _ _ h => h) (fun _ _ h => h)), ((Kwlr.out.mod Cx4.out (fun _ _ h => h) (fun _ _ h => h)).mod Cx47.out (fun _ _ h => h) (fun _ _ h => h)), ⟨(by intro k h1 h2; first | omega | (have hb := KwlbA1.out k h1; omega) | (have hb := KwlbA2.out k h2; omega) | exact Kwlaa.out k h1 h2 | exact Kwlaa.out k h2 h1 | exact Kwlab.out k h1 h2 | exact Kwlab.out k h2 h1 | exact Kwlba.out k h1 h2 | exact Kwlba.out k h2 h1 | exact Kwl1R.out k h1 h2 | exact Kwl1R.out k h2 h1 | exact Kwl2R.out k h1 h2 | exact Kwl2R.out k h2 h1 | (have hb := KwlbA1.out k h1; have hb2 := KwlbA2.out k h2; omega)), (by intro k h1 h2; first | omega | (have hb := KwlbA1.out k h1; omega) | (have hb := KwlbB2.out k h2; omega) | exact Kwlaa.out k h1 h2 | exact Kwlaa.out k h2 h1 | exact Kwlab.out k h1 h2 | exact Kwlab.out k h2 h1 | exact Kwlba.out k h1 h2 | exact Kwlba.out k h2 h1 | exact Kwl1R.out k h1 h2 | exact Kwl1R.out k h2 h1 | exact Kwl2R.out k h1 h2 | exact Kwl2R.out k h2 h1 | (have hb := KwlbA1.out k h1; have hb2 := KwlbB2.out k h2; omega)), (by intro k h1 h2; first | omega | (have hb := KwlbA2.out k h1; omega) | (have hb := KwlbB1.out k h2; omega) | exact Kwlaa.out k h1 h2 | exact Kwlaa.out k h2 h1 | exact Kwlab.out k h1 h2 | exact Kwlab.out k h2 h1 | exact Kwlba.out k h1 h2 | exact Kwlba.out k h2 h1 | exact Kwl1R.out k h1 h2 | exact Kwl1R.out k h2 h1 | exact Kwl2R.out k h1 h2 | exact Kwl2R.out k h2 h1 | (have hb := KwlbA2.out k h1; have hb2 := KwlbB1.out k h2; omega))⟩, (by intro k h1; (try dsimp only at h1); first | exact (KwlsA1.out k h1).elim Or.inl (fun h => Or.inr (by unfold New at h ⊢; omega)) | exact Or.inr (by unfold New; omega)), (by intro k h1; (try dsimp only at h1); first | exact (KwlsB1.out k h1).elim Or.inl (fun h => Or.inr (by unfold New at h ⊢; omega)) | exact Or.inr (by unfold New; omega)), (by intro k h1; (try dsimp only at h1); first | exact (KwlsA2.out k h1).elim Or.inl (fun h => Or.inr (by unfold New at h ⊢; omega)) | exact Or.inr (by unfold New; omega)), (by intro k h1; (try dsimp only at h1); first | exact (KwlsB2.out k h1).elim Or.inl (fun h => h.elim (fun h => Or.inr (Or.inl h)) (fun h => Or.inr (Or.inr (by unfold New at h ⊢; omega)))) | exact Or.inr (Or.inl h1) | exact Or.inr (Or.inr (by unfold New; omega))), ((Kwlac.out.mod Cx4.out (fun _ _ h => h)).mod Cx47.out (fun _ _ h => h)), ((Kwlm.out.trans Cx4.out (fun _ _ h => h.elim)).trans Cx47.out (fun _ _ h => h.elim))⟩
            · skip
              go_upto_region 21 with (fail)
              refine wp_region_U 211 [102, 101] [0, 1] (fun a0 HA0 => ?_)
              have oe50 := ev HA0 50 rfl
              refine QSeq.pure rfl (.bool false) (fun E => ex_binE rfl (E.v oe50) rfl (guard_ints _ _ _ _ _ _) (run_eql_i _ _ _ Try.underlying3) (congrArg Value.bool (eq_ff (by omega)))) ?_
              refine QSeq.pure rfl _ (fun E => ex_assign rfl (E.d 0 0)) ?_
              refine QSeq.nil (t' := [_, _]) rfl ?_
              obtain rfl := HA0.out
              clear HA0 oe50
              simp only [pz, Act.put, sIB, sCZ, sCS]
              by_cases h4m : m = 4
              · skip
                go_upto_region 24 with (fail)
                refine wp_region_U 211 [111, 110] [0, 1] (fun a0 HA0 => ?_)
                have oe50 := ev HA0 50 rfl
                refine QSeq.pure rfl (.bool true) (fun E => ex_binE rfl (E.v oe50) rfl (guard_ints _ _ _ _ _ _) (run_eql_i _ _ _ Try.underlying3) (congrArg Value.bool (eq_tt (by omega)))) ?_
                refine QSeq.pure rfl _ (fun E => ex_assign rfl (E.d 0 0)) ?_
                refine QSeq.nil (t' := [_, _]) rfl ?_
                obtain rfl := HA0.out
                clear HA0 oe50
                simp only [pz, Act.put, sIB, sCZ, sCS]
                by_cases hin : 0 ≤ kk ∧ kk < ((l.length : Nat) : Int)
                · obtain ⟨q, rfl⟩ : ∃ q : Nat, kk = (q : Int) := ⟨kk.toNat, by omega⟩
                  have hql : q < l.length := by omega
                  go_upto_region 25 with (fail)
                  refine wp_region_U 211 [113, 114, 115, 112, 116, 117, 14, 218, 15] [0, 1, 2, 3, 4, 5, 6, 7, 8] (fun a0 HA0 => ?_)
                  have oe0 := ev HA0 0 rfl
                  have oe9 := ev HA0 9 rfl
                  refine QSeq.pure rfl _ (fun E => ex_move rfl (E.v oe0)) ?_
                  refine QSeq.pure rfl _ (fun E => ex_move rfl (E.v oe9)) ?_
                  refine QSeq.call rfl rfl Try.func14 (LookS (k := q) (Kwln.out.mod Cx4.out (fun _ _ h => h) (fun _ _ h => h)) hql KwlP.out) (fun E => args2 (E.d 0 1) (E.d 1 0)) ?_
                  rintro e u25_2 ⟨ca, rfl, qa, hm⟩
                  have HLa := hid (MgR.len qa)
                  have HOa := hid (MgR.one qa)
                  refine ⟨_, rfl, ?_⟩
                  have Hx48 := hid qa
                  have zu25_2 := hm.size
                  have Cx49 := hid (show Mod (fun _ => False) u4_5 u25_2 from hm)
                  clear hm
                  clear qa
                  refine QSeq.pure rfl _ (fun E => ex_move rfl (E.d 2 0)) ?_
                  refine QSeq.pure rfl (.agg ca.toArray) (fun E => ex_extract rfl (E.d 3 0) rfl) ?_
                  refine QSeq.pure rfl (.bool true) (fun E => ex_extract rfl (E.d 3 1) rfl) ?_
                  refine QSeq.go fun act E => ?_
                  refine qc_alloc rfl (wanted_none rfl) rfl (z := (mg0C 0 0 0)) (by kernel_rfl) ?_
                  intro u25_6 qb14 hm
                  have zl25_6 := qb14.lt
                  have Hx50 := hid qb14
                  have zu25_6 := hm.size
                  have HMu25_6 := hid hm
                  have Cx51 := hid (Cx49.out.goE hm)
                  clear hm Cx49
                  clear act E qb14
                  refine QSeq.go fun act E => ?_
                  have hlz : (ca).length = List.length ((mg0C 0 0 0) : List Value) := (by rw [HLa.out]; kernel_rfl)
                  refine qc_store rfl (wanted_none rfl) rfl Hx50.out (off := 0) (vs := ca) (by rw [hlz]; kernel_rfl) HOa.out (by rw [hlz]; exact Nat.le_of_eq (Nat.zero_add _)) (E.d 6 0) (ec (E.d 4 2)) ?_
                  intro u25_7 qc0 hm
                  have qb14 := qc0.eqv (b := (ca : List Value).toArray) (lay_whole (((mg0C 0 0 0) : List Value).toArray) _ (by rw [hlz]; rfl))
                  clear qc0 hlz
                  have Hx52 := hid qb14
                  have zu25_7 := hm.size
                  have HMu25_7 := hid hm
                  have Cx53 := hid (Mod.goS (S' := (fun _ => False)) Cx51.out hm (fun _ h => h) (by intro k h0 h2; omega))
                  clear hm Cx51
                  clear act E qb14 Hx50
                  refine QSeq.pure rfl _ (fun E => ex_assign rfl (E.d 5 2)) ?_
                  have Hx54 := hid ((Hx48.out.mod HMu25_6.out (fun _ _ h => h)).mod HMu25_7.out (by intro k h1 h2; omega))
                  clear Hx48 HMu25_6 HMu25_7
                  refine QSeq.nil (t' := [_, _, _, _, _, _, _, _, _]) rfl ?_
                  obtain rfl := HA0.out
                  clear HA0 oe0 oe9
                  simp only [pz, Act.put, sIB, sCZ, sCS, List.set_nil]
                  obtain ⟨aor, capr, hry, hrO, hrl⟩ := (((Kwlr.out.mod Cx4.out (fun _ _ h => h) (fun _ _ h => h)).mod Cx53.out (fun _ _ h => h) (fun _ _ h => h))).cell
                  have hylr := hry.lt
                  have HRYr := Lib.hid hry
                  have HRLr := Lib.hid hrl
                  clear hry hrO hrl
                  obtain ⟨gr, orr, ce, ear, hrg, hrd, hcs⟩ := HRLr.out.at hql
                  have HEA := Lib.hid ear
                  have HLe := hid (MgR.len hrd)
                  have HRE := hid (show MgR.rd (fun k => (A2 k) ∨ (B2 k)) u25_7 ce l[q] from hrd)
                  have HRA := hid (show CellsAt (fun k => (A2 k) ∨ (B2 k)) u25_7 gr (orr + q * 295) ce from ⟨hrg, hcs⟩)
                  clear hrg hrd hcs ear
                  have ear := HEA.out
                  subst ear
                  clear HEA
                  go_upto_region 26 with (fail)
                  generalize ha0 : Act.mk _ _ = a0
                  have oe1 : a0.eval (.tmp 1) = .pointer (some ⟨y, 0, none⟩) := by rw [← ha0]; rfl
                  have oe9 : a0.eval (.tmp 9) = .int .i64 ((q : Nat) : Int) := by rw [← ha0]; rfl
                  have oe14 : a0.eval (.tmp 14) = .pointer (some ⟨u25_2.heap.size, 0, none⟩) := by rw [← ha0]; rfl
                  have oe15 : a0.eval (.tmp 15) = .bool true := by rw [← ha0]; rfl
                  have hsz0 : a0.tmps.size = 211 := by rw [← ha0]; rfl
                  have HA0 := hid ha0
                  clear ha0
                  refine wp_region_Q0 211 hsz0 [118, 119, 120, 121, 122, 123, 124, 125, 126, 127, 128, 129, 130, 131, 132, 133, 134, 135, 136, 137, 138, 139, 140, 141, 142, 143, 144, 145, 146, 147, 148, 149, 150, 151, 152, 153, 154, 155] [qi (.bool true), qi (.int .i64 ((q : Nat) : Int)), qi (.bool true), qi (.bool true), qi (.int .i64 ((q : Nat) : Int)), qi (.pointer (some ⟨y, 0, none⟩)), qi (.pointer (some ⟨y, 0, none⟩)), qi (.pointer (some ⟨y, 3, none⟩)), qi (.slice (some ⟨gr, orr, none⟩) l.length capr), qi (.int .i64 l.length), qi (.bool true), qi (.bool true), qi (.bool false), qi (.bool false), qi (.bool true), qi (.bool true), qi (.agg ca.toArray), qi (.pointer (some ⟨y, 0, none⟩)), qi (.pointer (some ⟨y, 0, none⟩)), qi (.pointer (some ⟨y, 3, none⟩)), qi (.slice (some ⟨gr, orr, none⟩) l.length capr), qi (.int .i64 ((q : Nat) : Int)), qi (.pointer (some ⟨gr, orr + q * 295, none⟩)), qi (.agg ce.toArray), qi (.bool true), qi (.bool false), qi (.bool false), qi (.bool false), qi (.bool false), qi (.bool true), qi (.bool false), qi (.bool false), qi undef, qi undef, qi undef, qi undef, qi (.bool false), qi (.bool false)] ⟨qi_stable, qi_stable, qi_stable, qi_stable, qi_stable, qi_stable, qi_stable, qi_stable, qi_stable, qi_stable, qi_stable, qi_stable, qi_stable, qi_stable, qi_stable, qi_stable, qi_stable, qi_stable, qi_stable, qi_stable, qi_stable, qi_stable, qi_stable, qi_stable, qi_stable, qi_stable, qi_stable, qi_stable, qi_stable, qi_stable, qi_stable, qi_stable, qi_stable, qi_stable, qi_stable, qi_stable, qi_stable, qi_stable, trivial⟩ [] ⟨?_, ?_, ?_, ?_, ?_, ?_, ?_, ?_, ?_, ?_, ?_, ?_, ?_, ?_, ?_, ?_, ?_, ?_, ?_, ?_, ?_, ?_, ?_, ?_, ?_, ?_, ?_, ?_, ?_, ?_, ?_, ?_, ?_, ?_, ?_, ?_, ?_, ?_, trivial⟩ ?_
                  · exact stq (fun E => ex_move rfl (E.v oe15))
                  · exact stq (fun E => ex_move rfl (E.v oe9))
                  · exact stq (fun E => ex_binE rfl (E.d 1) rfl (guard_ints _ _ _ _ _ _) (run_geq_i _ _ _ Try.underlying3) (congrArg Value.bool (decide_eq_true (by omega))))
                  · exact stq (fun E => ex_move rfl (E.d 2))
                  · refine stepq_env rfl rfl rfl fun _ _ _ _ _ _ _ hout hsz hd _ _ => ?_
                    have h3 := hd ⟨3, .guard⟩ (by simp) rfl _ rfl
                    refine qe_run rfl ((wanted_of rfl rfl (hsz 121 (by decide)) h3).trans rfl) (ex_move rfl ((hout 9 (by decide)).trans oe9)) QE.refl ?_
                    rfl
                  · refine stepq_env rfl rfl rfl fun _ _ _ _ _ _ _ hout hsz hd _ _ => ?_
                    have h3 := hd ⟨3, .guard⟩ (by simp) rfl _ rfl
                    refine qe_run rfl ((wanted_of rfl rfl (hsz 121 (by decide)) h3).trans rfl) (ex_move rfl ((hout 1 (by decide)).trans oe1)) QE.refl ?_
                    rfl
                  · refine stepq_env rfl rfl rfl fun _ _ _ _ _ _ _ _ hsz hd _ _ => ?_
                    have h3 := hd ⟨3, .guard⟩ (by simp) rfl _ rfl
                    have h5 := hd ⟨5, .data⟩ (by simp) rfl _ rfl
                    refine qe_run rfl ((wanted_of rfl rfl (hsz 121 (by decide)) h3).trans rfl) (ex_nil rfl h5) QE.refl ?_
                    rfl
                  · refine stepq_env rfl rfl rfl fun _ _ _ _ _ _ _ _ hsz hd _ _ => ?_
                    have h3 := hd ⟨3, .guard⟩ (by simp) rfl _ rfl
                    have h6 := hd ⟨6, .data⟩ (by simp) rfl _ rfl
                    refine qe_run rfl ((wanted_of rfl rfl (hsz 121 (by decide)) h3).trans rfl) (ex_field rfl Try.underlying82 rfl (by kernel_rfl) h6) QE.refl ?_
                    rfl
                  · refine stepq_env rfl rfl rfl fun _ _ _ _ _ hm _ _ hsz hd _ _ => ?_
                    have h3 := hd ⟨3, .guard⟩ (by simp) rfl _ rfl
                    have h7 := hd ⟨7, .data⟩ (by simp) rfl _ rfl
                    refine qe_run rfl ((wanted_of rfl rfl (hsz 121 (by decide)) h3).trans rfl) (ex_load1 rfl Try.underlying76 rfl h7 (Cs.lit1 (HRYr.out.mod hm.old (by intro h2; omega)) rfl)) QE.refl ?_
                    rfl
                  · refine stepq_env rfl rfl rfl fun _ _ _ _ _ _ _ _ hsz hd _ _ => ?_
                    have h3 := hd ⟨3, .guard⟩ (by simp) rfl _ rfl
                    have h8 := hd ⟨8, .data⟩ (by simp) rfl _ rfl
                    refine qe_run rfl ((wanted_of rfl rfl (hsz 121 (by decide)) h3).trans rfl) (ex_lenS rfl h8 Try.underlying76) QE.refl ?_
                    rfl
                  · refine stepq_env rfl rfl rfl fun _ _ _ _ _ _ _ _ hsz hd _ _ => ?_
                    have h3 := hd ⟨3, .guard⟩ (by simp) rfl _ rfl
                    have h4 := hd ⟨4, .data⟩ (by simp) rfl _ rfl
                    have h9 := hd ⟨9, .data⟩ (by simp) rfl _ rfl
                    refine qe_run rfl ((wanted_of rfl rfl (hsz 121 (by decide)) h3).trans rfl) (ex_binE rfl h4 h9 (guard_ints _ _ _ _ _ _) (run_lss_i _ _ _ Try.underlying3) (congrArg Value.bool (decide_eq_true (by omega)))) QE.refl ?_
                    rfl
                  · exact stq (fun E => ex_pick rfl (E.d 3) (E.d 10) rfl)
                  · exact stq (fun E => ex_bin rfl (E.d 0) (E.d 11) (guard_bools _ _ _ _ _ _) (run_neq_bools _ _ _ Try.underlying4))
                  · exact stq (fun E => ex_move rfl (E.d 12))
                  · refine stepq_env rfl rfl rfl fun _ _ _ _ _ _ _ hout hsz hd _ _ => ?_
                    have h13 := hd ⟨13, .guard⟩ (by simp) rfl _ rfl
                    refine qe_run rfl ((wanted_of rfl rfl (hsz 131 (by decide)) h13).trans rfl) (ex_move rfl ((hout 15 (by decide)).trans oe15)) QE.refl ?_
                    rfl
                  · refine stepq_env rfl rfl rfl fun _ _ _ _ _ _ _ _ hsz hd _ _ => ?_
                    have h13 := hd ⟨13, .chain⟩ (by simp) rfl _ rfl
                    have h14 := hd ⟨14, .data⟩ (by simp) rfl _ rfl
                    refine qe_run rfl ((wanted_of rfl rfl (hsz 131 (by decide)) h13).trans rfl) (ex_move rfl h14) QE.refl ?_
                    rfl
                  · refine stepq_env rfl rfl rfl fun _ _ _ _ _ hm _ hout hsz hd _ _ => ?_
                    have h15 := hd ⟨15, .guard⟩ (by simp) rfl _ rfl
                    refine qe_run rfl ((wanted_of rfl rfl (hsz 133 (by decide)) h15).trans rfl) (ex_loadA rfl Try.underlying67 rfl (off := 0) (cs := ca) (by rw [HLa.out]; kernel_rfl) ((hout 14 (by decide)).trans oe14) (Cs.whole (Hx52.out.mod hm.old (by intro h2; omega)))) QE.refl ?_
                    rfl
                  · refine stepq_env rfl rfl rfl fun _ _ _ _ _ _ _ hout hsz hd _ _ => ?_
                    have h15 := hd ⟨15, .guard⟩ (by simp) rfl _ rfl
                    refine qe_run rfl ((wanted_of rfl rfl (hsz 133 (by decide)) h15).trans rfl) (ex_move rfl ((hout 1 (by decide)).trans oe1)) QE.refl ?_
                    rfl
                  · refine stepq_env rfl rfl rfl fun _ _ _ _ _ _ _ _ hsz hd _ _ => ?_
                    have h15 := hd ⟨15, .guard⟩ (by simp) rfl _ rfl
                    have h17 := hd ⟨17, .data⟩ (by simp) rfl _ rfl
                    refine qe_run rfl ((wanted_of rfl rfl (hsz 133 (by decide)) h15).trans rfl) (ex_nil rfl h17) QE.refl ?_
                    rfl
                  · refine stepq_env rfl rfl rfl fun _ _ _ _ _ _ _ _ hsz hd _ _ => ?_
                    have h15 := hd ⟨15, .guard⟩ (by simp) rfl _ rfl
                    have h18 := hd ⟨18, .data⟩ (by simp) rfl _ rfl
                    refine qe_run rfl ((wanted_of rfl rfl (hsz 133 (by decide)) h15).trans rfl) (ex_field rfl Try.underlying82 rfl (by kernel_rfl) h18) QE.refl ?_
                    rfl
                  · refine stepq_env rfl rfl rfl fun _ _ _ _ _ hm _ _ hsz hd _ _ => ?_
                    have h15 := hd ⟨15, .guard⟩ (by simp) rfl _ rfl
                    have h19 := hd ⟨19, .data⟩ (by simp) rfl _ rfl
                    refine qe_run rfl ((wanted_of rfl rfl (hsz 133 (by decide)) h15).trans rfl) (ex_load1 rfl Try.underlying76 rfl h19 (Cs.lit1 (HRYr.out.mod hm.old (by intro h2; omega)) rfl)) QE.refl ?_
                    rfl
                  · refine stepq_env rfl rfl rfl fun _ _ _ _ _ _ _ hout hsz hd _ _ => ?_
                    have h15 := hd ⟨15, .guard⟩ (by simp) rfl _ rfl
                    refine qe_run rfl ((wanted_of rfl rfl (hsz 133 (by decide)) h15).trans rfl) (ex_move rfl ((hout 9 (by decide)).trans oe9)) QE.refl ?_
                    rfl
                  · refine stepq_env rfl rfl rfl fun _ _ _ _ _ _ _ _ hsz hd _ _ => ?_
                    have h15 := hd ⟨15, .guard⟩ (by simp) rfl _ rfl
                    have h20 := hd ⟨20, .data⟩ (by simp) rfl _ rfl
                    have h21 := hd ⟨21, .data⟩ (by simp) rfl _ rfl
                    refine qe_run rfl ((wanted_of rfl rfl (hsz 133 (by decide)) h15).trans rfl) (ex_idxS (i := q) (s := 295) rfl Try.underlying76 (by kernel_rfl) h20 h21 (by omega)) QE.refl ?_
                    rfl
                  · refine stepq_env rfl rfl rfl fun _ _ _ _ _ hm _ _ hsz hd _ _ => ?_
                    have h15 := hd ⟨15, .guard⟩ (by simp) rfl _ rfl
                    have h22 := hd ⟨22, .data⟩ (by simp) rfl _ rfl
                    refine qe_run rfl ((wanted_of rfl rfl (hsz 133 (by decide)) h15).trans rfl) (ex_loadA rfl Try.underlying67 rfl (off := orr + q * 295) (cs := ce) (by rw [HLe.out]; kernel_rfl) h22 (fun j u hu => ((HRA.out.mod hm.old (by intro k h1 h2; rcases h1 with h1 | h1 <;> first | omega | (have hb := KwlbA2.out k h1; omega) | (have hb := KwlbB2.out k h1; omega)))).2 j u hu)) QE.refl ?_
                    rfl
                  · refine stepq_env rfl rfl rfl fun _ _ _ _ _ hm hm0 _ hsz hd _ _ => ?_
                    have h15 := hd ⟨15, .chain⟩ (by simp) rfl _ rfl
                    have h16 := hd ⟨16, .data⟩ (by simp) rfl _ rfl
                    have h23 := hd ⟨23, .data⟩ (by simp) rfl _ rfl
                    refine qe_callF (args := #[.agg ca.toArray, .agg ce.toArray]) rfl ((wanted_of rfl rfl (hsz 133 (by decide)) h15).trans rfl) rfl Try.func15 (args2 h16 h23) (Eqs.same Eq_Mg (Hx54.out.mod hm.old (by intro k h1 h2; omega)) (HRE.out.mod hm.old (by intro k h1 h2; rcases h1 with h1 | h1 <;> first | omega | (have hb := KwlbA2.out k h1; omega) | (have hb := KwlbB2.out k h1; omega))) (by intro k h1; have hzz := hm0.size; first | omega) (by intro k h1; have hzz := hm0.size; rcases h1 with h1 | h1 <;> first | omega | (have hb := KwlbA2.out k h1; omega) | (have hb := KwlbB2.out k h1; omega))) ?_
                    rintro e w2 ⟨rfl, hm2⟩
                    exact ⟨_, rfl, QE.still hm2, rfl⟩
                  · refine stepq_env rfl rfl rfl fun _ _ _ _ _ _ _ _ hsz hd _ _ => ?_
                    have h15 := hd ⟨15, .guard⟩ (by simp) rfl _ rfl
                    have h24 := hd ⟨24, .data⟩ (by simp) rfl _ rfl
                    refine qe_run rfl ((wanted_of rfl rfl (hsz 133 (by decide)) h15).trans rfl) (ex_not rfl h24) QE.refl ?_
                    rfl
                  · refine stepq_env rfl rfl rfl fun _ _ _ _ _ _ _ _ hsz hd _ _ => ?_
                    have h13 := hd ⟨13, .guard⟩ (by simp) rfl _ rfl
                    have h15 := hd ⟨15, .data⟩ (by simp) rfl _ rfl
                    have h25 := hd ⟨25, .data⟩ (by simp) rfl _ rfl
                    refine qe_run rfl ((wanted_of rfl rfl (hsz 131 (by decide)) h13).trans rfl) (ex_pick rfl h15 h25 rfl) QE.refl ?_
                    rfl
                  · exact stq (fun E => ex_pick rfl (E.d 13) rfl (E.d 26))
                  · exact stq (fun E => ex_move rfl (E.d 27))
                  · refine stepq_env rfl rfl rfl fun _ _ _ _ _ _ _ hout hsz hd _ _ => ?_
                    have h28 := hd ⟨28, .guard⟩ (by simp) rfl _ rfl
                    refine qe_run rfl ((wanted_of rfl rfl (hsz 146 (by decide)) h28).trans rfl) (ex_move rfl ((hout 15 (by decide)).trans oe15)) QE.refl ?_
                    rfl
                  · refine stepq_env rfl rfl rfl fun _ _ _ _ _ _ _ _ hsz hd _ _ => ?_
                    have h28 := hd ⟨28, .guard⟩ (by simp) rfl _ rfl
                    have h29 := hd ⟨29, .data⟩ (by simp) rfl _ rfl
                    refine qe_run rfl ((wanted_of rfl rfl (hsz 146 (by decide)) h28).trans rfl) (ex_not rfl h29) QE.refl ?_
                    rfl
                  · refine stepq_env rfl rfl rfl fun _ _ _ _ _ _ _ _ hsz hd _ _ => ?_
                    have h28 := hd ⟨28, .chain⟩ (by simp) rfl _ rfl
                    have h30 := hd ⟨30, .data⟩ (by simp) rfl _ rfl
                    refine qe_run rfl ((wanted_of rfl rfl (hsz 146 (by decide)) h28).trans rfl) (ex_move rfl h30) QE.refl ?_
                    rfl
                  · refine stepq_env rfl rfl rfl fun _ _ _ _ _ _ _ _ hsz hd _ _ => ?_
                    have h31 := hd ⟨31, .guard⟩ (by simp) rfl _ rfl
                    exact qe_skip rfl ((wanted_of rfl rfl (hsz 149 (by decide)) h31).trans rfl) rfl
                  · refine stepq_env rfl rfl rfl fun _ _ _ _ _ _ _ _ hsz hd _ _ => ?_
                    have h31 := hd ⟨31, .guard⟩ (by simp) rfl _ rfl
                    exact qe_skip rfl ((wanted_of rfl rfl (hsz 149 (by decide)) h31).trans rfl) rfl
                  · refine stepq_env rfl rfl rfl fun _ _ _ _ _ _ _ _ hsz hd _ _ => ?_
                    have h31 := hd ⟨31, .chain⟩ (by simp) rfl _ rfl
                    exact qe_skip rfl ((wanted_of rfl rfl (hsz 149 (by decide)) h31).trans rfl) rfl
                  · refine stepq_env rfl rfl rfl fun _ _ _ _ _ _ _ _ hsz hd _ _ => ?_
                    have h31 := hd ⟨31, .guard⟩ (by simp) rfl _ rfl
                    exact qe_skip rfl ((wanted_of rfl rfl (hsz 149 (by decide)) h31).trans rfl) rfl
                  · refine stepq_env rfl rfl rfl fun _ _ _ _ _ _ _ _ hsz hd _ _ => ?_
                    have h28 := hd ⟨28, .guard⟩ (by simp) rfl _ rfl
                    have h31 := hd ⟨31, .data⟩ (by simp) rfl _ rfl
                    have h35 := hd ⟨35, .data⟩ (by simp) rfl _ rfl
                    refine qe_run rfl ((wanted_of rfl rfl (hsz 146 (by decide)) h28).trans rfl) (ex_pick rfl h31 h35 rfl) QE.refl ?_
                    rfl
                  · exact stq (fun E => ex_pick rfl (E.d 28) rfl (E.d 36))
                  intro u26_0 hr
                  have zu26_0 := hr.size
                  have Cx55 := hid (hr.new (S := (fun _ => False)))
                  clear hr
                  refine QChain.nil fun vs hl hzz hrows hne => ?_
                  obtain ⟨Z, hYZ, hZb, hV⟩ := hzz
                  have f0 := fvi hV hl 0
                  have f1 := fvi hV hl 1
                  have f3 := fvi hV hl 3
                  have f4 := fvi hV hl 4
                  have f5 := fvi hV hl 5
                  have f9 := fvi hV hl 9
                  have f13 := fvi hV hl 13
                  have f14 := fvi hV hl 14
                  have f15 := fvi hV hl 15
                  have f17 := fvi hV hl 17
                  have f21 := fvi hV hl 21
                  have f24 := fvi hV hl 24
                  have f28 := fvi hV hl 28
                  have f29 := fvi hV hl 29
                  have f31 := fvi hV hl 31
                  have f34 := fvi hV hl 34
                  have f37 := fvi hV hl 37
                  rw [show vs = [gw vs 0, gw vs 1, gw vs 2, gw vs 3, gw vs 4, gw vs 5, gw vs 6, gw vs 7, gw vs 8, gw vs 9, gw vs 10, gw vs 11, gw vs 12, gw vs 13, gw vs 14, gw vs 15, gw vs 16, gw vs 17, gw vs 18, gw vs 19, gw vs 20, gw vs 21, gw vs 22, gw vs 23, gw vs 24, gw vs 25, gw vs 26, gw vs 27, gw vs 28, gw vs 29, gw vs 30, gw vs 31, gw vs 32, gw vs 33, gw vs 34, gw vs 35, gw vs 36, gw vs 37] from (gw_eta hl).trans rfl]
                  have ha0 := HA0.out
                  subst ha0
                  clear HA0 hV hYZ hZb hsz0 hrows hne oe1 oe9 oe14 oe15
                  simp only [putAll, Act.put, sIB, sCZ, sCS, f0, f1, f3, f4, f5, f9, f13, f14, f15, f17, f21, f24, f28, f29, f31, f34, f37]
                  clear hl f0 f1 f3 f4 f5 f9 f13 f14 f15 f17 f21 f24 f28 f29 f31 f34 f37
                  clear Hx54
                  clear Hx52
                  clear HRE
                  clear HRA
                  clear HRLr
                  clear HRYr
                  clear Hx3
                  clear HML
                  go_wp2_with fail
                  go_meet
                  case rel => exact ⟨l, sn, lo, (fun k => (A1 k)), (fun k => (B1 k)), (fun k => (A2 k)), (fun k => (B2 k)), (by omega), KwlP.out, by omega, by omega, by omega, (((Kwln.out.mod Cx4.out (fun _ _ h => h) (fun _ _ h => h)).mod Cx53.out (fun _ _ h => h) (fun _ _ h => h)).mod Cx55.out (fun _ _ h => h) (fun _ _ h => h)), (((Kwlr.out.mod Cx4.out (fun _ _ h => h) (fun _ _ h => h)).mod Cx53.out (fun _ _ h => h) (fun _ _ h => h)).mod Cx55.out (fun _ _ h => h) (fun _ _ h => h)), ⟨(by intro k h1 h2; first | omega | (have hb := KwlbA1.out k h1; omega) | (have hb := KwlbA2.out k h2; omega) | exact Kwlaa.out k h1 h2 | exact Kwlaa.out k h2 h1 | exact Kwlab.out k h1 h2 | exact Kwlab.out k h2 h1 | exact Kwlba.out k h1 h2 | exact Kwlba.out k h2 h1 | exact Kwl1R.out k h1 h2 | exact Kwl1R.out k h2 h1 | exact Kwl2R.out k h1 h2 | exact Kwl2R.out k h2 h1 | (have hb := KwlbA1.out k h1; have hb2 := KwlbA2.out k h2; omega)), (by intro k h1 h2; first | omega | (have hb := KwlbA1.out k h1; omega) | (have hb := KwlbB2.out k h2; omega) | exact Kwlaa.out k h1 h2 | exact Kwlaa.out k h2 h1 | exact Kwlab.out k h1 h2 | exact Kwlab.out k h2 h1 | exact Kwlba.out k h1 h2 | exact Kwlba.out k h2 h1 | exact Kwl1R.out k h1 h2 | exact Kwl1R.out k h2 h1 | exact Kwl2R.out k h1 h2 | exact Kwl2R.out k h2 h1 | (have hb := KwlbA1.out k h1; have hb2 := KwlbB2.out k h2; omega)), (by intro k h1 h2; first | omega | (have hb := KwlbA2.out k h1; omega) | (have hb := KwlbB1.out k h2; omega) | exact Kwlaa.out k h1 h2 | exact Kwlaa.out k h2 h1 | exact Kwlab.out k h1 h2 | exact Kwlab.out k h2 h1 | exact Kwlba.out k h1 h2 | exact Kwlba.out k h2 h1 | exact Kwl1R.out k h1 h2 | exact Kwl1R.out k h2 h1 | exact Kwl2R.out k h1 h2 | exact Kwl2R.out k h2 h1 | (have hb := KwlbA2.out k h1; have hb2 := KwlbB1.out k h2; omega))⟩, (by intro k h1; (try dsimp only at h1); first | exact (KwlsA1.out k h1).elim Or.inl (fun h => Or.inr (by unfold New at h ⊢; omega)) | exact Or.inr (by unfold New; omega)), (by intro k h1; (try dsimp only at h1); first | exact (KwlsB1.out k h1).elim Or.inl (fun h => Or.inr (by unfold New at h ⊢; omega)) | exact Or.inr (by unfold New; omega)), (by intro k h1; (try dsimp only at h1); first | exact (KwlsA2.out k h1).elim Or.inl (fun h => Or.inr (by unfold New at h ⊢; omega)) | exact Or.inr (by unfold New; omega)), (by intro k h1; (try dsimp only at h1); first | exact (KwlsB2.out k h1).elim Or.inl (fun h => h.elim (fun h => Or.inr (Or.inl h)) (fun h => Or.inr (Or.inr (by unfold New at h ⊢; omega)))) | exact Or.inr (Or.inl h1) | exact Or.inr (Or.inr (by unfold New; omega))), (((Kwlac.out.mod Cx4.out (fun _ _ h => h)).mod Cx53.out (fun _ _ h => h)).mod Cx55.out (fun _ _ h => h)), (((Kwlm.out.trans Cx4.out (fun _ _ h => h.elim)).trans Cx53.out (fun _ _ h => h.elim)).trans Cx55.out (fun _ _ h => h.elim))⟩
                · have hnk := hin
                  go_upto_region 25 with (fail)
                  refine wp_region_U 211 [113, 114, 115, 112, 116, 117, 14, 218, 15] [0, 1, 2, 3, 4, 5, 6, 7, 8] (fun a0 HA0 => ?_)
                  have oe0 := ev HA0 0 rfl
                  have oe9 := ev HA0 9 rfl
                  refine QSeq.pure rfl _ (fun E => ex_move rfl (E.v oe0)) ?_
                  refine QSeq.pure rfl _ (fun E => ex_move rfl (E.v oe9)) ?_
                  refine QSeq.call rfl rfl Try.func14 (LookSN (Kwln.out.mod Cx4.out (fun _ _ h => h) (fun _ _ h => h)) hnk) (fun E => args2 (E.d 0 1) (E.d 1 0)) ?_
                  rintro e u25_2 ⟨ca, rfl, qa, hm⟩
                  have HLa := hid (MgR.len qa)
                  have HOa := hid (MgR.one qa)
                  refine ⟨_, rfl, ?_⟩
                  have Hx56 := hid qa
                  have zu25_2 := hm.size
                  have Cx57 := hid (show Mod (fun _ => False) u4_5 u25_2 from hm)
                  clear hm
                  clear qa
                  refine QSeq.pure rfl _ (fun E => ex_move rfl (E.d 2 0)) ?_
                  refine QSeq.pure rfl (.agg ca.toArray) (fun E => ex_extract rfl (E.d 3 0) rfl) ?_
                  refine QSeq.pure rfl (.bool false) (fun E => ex_extract rfl (E.d 3 1) rfl) ?_
                  refine QSeq.go fun act E => ?_
                  refine qc_alloc rfl (wanted_none rfl) rfl (z := (mg0C 0 0 0)) (by kernel_rfl) ?_
                  intro u25_6 qb14 hm
                  have zl25_6 := qb14.lt
                  have Hx58 := hid qb14
                  have zu25_6 := hm.size
                  have HMu25_6 := hid hm
                  have Cx59 := hid (Cx57.out.goE hm)
                  clear hm Cx57
                  clear act E qb14
                  refine QSeq.go fun act E => ?_
                  have hlz : (ca).length = List.length ((mg0C 0 0 0) : List Value) := (by rw [HLa.out]; kernel_rfl)
                  refine qc_store rfl (wanted_none rfl) rfl Hx58.out (off := 0) (vs := ca) (by rw [hlz]; kernel_rfl) HOa.out (by rw [hlz]; exact Nat.le_of_eq (Nat.zero_add _)) (E.d 6 0) (ec (E.d 4 2)) ?_
                  intro u25_7 qc0 hm
                  have qb14 := qc0.eqv (b := (ca : List Value).toArray) (lay_whole (((mg0C 0 0 0) : List Value).toArray) _ (by rw [hlz]; rfl))
                  clear qc0 hlz
                  have Hx60 := hid qb14
                  have zu25_7 := hm.size
                  have HMu25_7 := hid hm
                  have Cx61 := hid (Mod.goS (S' := (fun _ => False)) Cx59.out hm (fun _ h => h) (by intro k h0 h2; omega))
                  clear hm Cx59
                  clear act E qb14 Hx58
                  refine QSeq.pure rfl _ (fun E => ex_assign rfl (E.d 5 2)) ?_
                  have Hx62 := hid ((Hx56.out.mod HMu25_6.out (fun _ _ h => h)).mod HMu25_7.out (by intro k h1 h2; omega))
                  clear Hx56 HMu25_6 HMu25_7
                  refine QSeq.nil (t' := [_, _, _, _, _, _, _, _, _]) rfl ?_
                  obtain rfl := HA0.out
                  clear HA0 oe0 oe9
                  simp only [pz, Act.put, sIB, sCZ, sCS, List.set_nil]
                  obtain ⟨aor, capr, hry, hrO, hrl⟩ := (((Kwlr.out.mod Cx4.out (fun _ _ h => h) (fun _ _ h => h)).mod Cx61.out (fun _ _ h => h) (fun _ _ h => h))).cell
                  have hylr := hry.lt
                  have HRYr := Lib.hid hry
                  have HRLr := Lib.hid hrl
                  clear hry hrO hrl
                  by_cases hk0 : 0 ≤ kk
                  · skip
                    go_upto_region 26 with (fail)
                    generalize ha0 : Act.mk _ _ = a0
                    have oe1 : a0.eval (.tmp 1) = .pointer (some ⟨y, 0, none⟩) := by rw [← ha0]; rfl
                    have oe9 : a0.eval (.tmp 9) = .int .i64 kk := by rw [← ha0]; rfl
                    have oe14 : a0.eval (.tmp 14) = .pointer (some ⟨u25_2.heap.size, 0, none⟩) := by rw [← ha0]; rfl
                    have oe15 : a0.eval (.tmp 15) = .bool false := by rw [← ha0]; rfl
                    have hsz0 : a0.tmps.size = 211 := by rw [← ha0]; rfl
                    have HA0 := hid ha0
                    clear ha0
                    refine wp_region_Q0 211 hsz0 [118, 119, 120, 121, 122, 123, 124, 125, 126, 127, 128, 129, 130, 131, 132, 133, 134, 135, 136, 137, 138, 139, 140, 141, 142, 143, 144, 145, 146, 147, 148, 149, 150, 151, 152, 153, 154, 155] [qi (.bool false), qi (.int .i64 kk), qi (.bool true), qi (.bool true), qi (.int .i64 kk), qi (.pointer (some ⟨y, 0, none⟩)), qi (.pointer (some ⟨y, 0, none⟩)), qi (.pointer (some ⟨y, 3, none⟩)), qi (.slice aor l.length capr), qi (.int .i64 l.length), qi (.bool false), qi (.bool false), qi (.bool false), qi (.bool false), qi (.bool false), qi (.bool false), qi undef, qi undef, qi undef, qi undef, qi undef, qi undef, qi undef, qi undef, qi undef, qi undef, qi (.bool false), qi (.bool false), qi (.bool false), qi (.bool false), qi (.bool true), qi (.bool true), qi (.agg ca.toArray), qi (.agg ((mg0C 0 0 0) : List Value).toArray), qi (.bool true), qi (.bool false), qi (.bool false), qi (.bool false)] ⟨qi_stable, qi_stable, qi_stable, qi_stable, qi_stable, qi_stable, qi_stable, qi_stable, qi_stable, qi_stable, qi_stable, qi_stable, qi_stable, qi_stable, qi_stable, qi_stable, qi_stable, qi_stable, qi_stable, qi_stable, qi_stable, qi_stable, qi_stable, qi_stable, qi_stable, qi_stable, qi_stable, qi_stable, qi_stable, qi_stable, qi_stable, qi_stable, qi_stable, qi_stable, qi_stable, qi_stable, qi_stable, qi_stable, trivial⟩ [] ⟨?_, ?_, ?_, ?_, ?_, ?_, ?_, ?_, ?_, ?_, ?_, ?_, ?_, ?_, ?_, ?_, ?_, ?_, ?_, ?_, ?_, ?_, ?_, ?_, ?_, ?_, ?_, ?_, ?_, ?_, ?_, ?_, ?_, ?_, ?_, ?_, ?_, ?_, trivial⟩ ?_
                    · exact stq (fun E => ex_move rfl (E.v oe15))
                    · exact stq (fun E => ex_move rfl (E.v oe9))
                    · exact stq (fun E => ex_binE rfl (E.d 1) rfl (guard_ints _ _ _ _ _ _) (run_geq_i _ _ _ Try.underlying3) (congrArg Value.bool (decide_eq_true (by omega))))
                    · exact stq (fun E => ex_move rfl (E.d 2))
                    · refine stepq_env rfl rfl rfl fun _ _ _ _ _ _ _ hout hsz hd _ _ => ?_
                      have h3 := hd ⟨3, .guard⟩ (by simp) rfl _ rfl
                      refine qe_run rfl ((wanted_of rfl rfl (hsz 121 (by decide)) h3).trans rfl) (ex_move rfl ((hout 9 (by decide)).trans oe9)) QE.refl ?_
                      rfl
                    · refine stepq_env rfl rfl rfl fun _ _ _ _ _ _ _ hout hsz hd _ _ => ?_
                      have h3 := hd ⟨3, .guard⟩ (by simp) rfl _ rfl
                      refine qe_run rfl ((wanted_of rfl rfl (hsz 121 (by decide)) h3).trans rfl) (ex_move rfl ((hout 1 (by decide)).trans oe1)) QE.refl ?_
                      rfl
                    · refine stepq_env rfl rfl rfl fun _ _ _ _ _ _ _ _ hsz hd _ _ => ?_
                      have h3 := hd ⟨3, .guard⟩ (by simp) rfl _ rfl
                      have h5 := hd ⟨5, .data⟩ (by simp) rfl _ rfl
                      refine qe_run rfl ((wanted_of rfl rfl (hsz 121 (by decide)) h3).trans rfl) (ex_nil rfl h5) QE.refl ?_
                      rfl
                    · refine stepq_env rfl rfl rfl fun _ _ _ _ _ _ _ _ hsz hd _ _ => ?_
                      have h3 := hd ⟨3, .guard⟩ (by simp) rfl _ rfl
                      have h6 := hd ⟨6, .data⟩ (by simp) rfl _ rfl
                      refine qe_run rfl ((wanted_of rfl rfl (hsz 121 (by decide)) h3).trans rfl) (ex_field rfl Try.underlying82 rfl (by kernel_rfl) h6) QE.refl ?_
                      rfl
                    · refine stepq_env rfl rfl rfl fun _ _ _ _ _ hm _ _ hsz hd _ _ => ?_
                      have h3 := hd ⟨3, .guard⟩ (by simp) rfl _ rfl
                      have h7 := hd ⟨7, .data⟩ (by simp) rfl _ rfl
                      refine qe_run rfl ((wanted_of rfl rfl (hsz 121 (by decide)) h3).trans rfl) (ex_load1 rfl Try.underlying76 rfl h7 (Cs.lit1 (HRYr.out.mod hm.old (by intro h2; omega)) rfl)) QE.refl ?_
                      rfl
                    · refine stepq_env rfl rfl rfl fun _ _ _ _ _ _ _ _ hsz hd _ _ => ?_
                      have h3 := hd ⟨3, .guard⟩ (by simp) rfl _ rfl
                      have h8 := hd ⟨8, .data⟩ (by simp) rfl _ rfl
                      refine qe_run rfl ((wanted_of rfl rfl (hsz 121 (by decide)) h3).trans rfl) (ex_lenS rfl h8 Try.underlying76) QE.refl ?_
                      rfl
                    · refine stepq_env rfl rfl rfl fun _ _ _ _ _ _ _ _ hsz hd _ _ => ?_
                      have h3 := hd ⟨3, .guard⟩ (by simp) rfl _ rfl
                      have h4 := hd ⟨4, .data⟩ (by simp) rfl _ rfl
                      have h9 := hd ⟨9, .data⟩ (by simp) rfl _ rfl
                      refine qe_run rfl ((wanted_of rfl rfl (hsz 121 (by decide)) h3).trans rfl) (ex_binE rfl h4 h9 (guard_ints _ _ _ _ _ _) (run_lss_i _ _ _ Try.underlying3) (congrArg Value.bool (decide_eq_false (by omega)))) QE.refl ?_
                      rfl
                    · exact stq (fun E => ex_pick rfl (E.d 3) (E.d 10) rfl)
                    · exact stq (fun E => ex_bin rfl (E.d 0) (E.d 11) (guard_bools _ _ _ _ _ _) (run_neq_bools _ _ _ Try.underlying4))
                    · exact stq (fun E => ex_move rfl (E.d 12))
                    · refine stepq_env rfl rfl rfl fun _ _ _ _ _ _ _ hout hsz hd _ _ => ?_
                      have h13 := hd ⟨13, .guard⟩ (by simp) rfl _ rfl
                      refine qe_run rfl ((wanted_of rfl rfl (hsz 131 (by decide)) h13).trans rfl) (ex_move rfl ((hout 15 (by decide)).trans oe15)) QE.refl ?_
                      rfl
                    · refine stepq_env rfl rfl rfl fun _ _ _ _ _ _ _ _ hsz hd _ _ => ?_
                      have h13 := hd ⟨13, .chain⟩ (by simp) rfl _ rfl
                      have h14 := hd ⟨14, .data⟩ (by simp) rfl _ rfl
                      refine qe_run rfl ((wanted_of rfl rfl (hsz 131 (by decide)) h13).trans rfl) (ex_move rfl h14) QE.refl ?_
                      rfl
                    · refine stepq_env rfl rfl rfl fun _ _ _ _ _ _ _ _ hsz hd _ _ => ?_
                      have h15 := hd ⟨15, .guard⟩ (by simp) rfl _ rfl
                      exact qe_skip rfl ((wanted_of rfl rfl (hsz 133 (by decide)) h15).trans rfl) rfl
                    · refine stepq_env rfl rfl rfl fun _ _ _ _ _ _ _ _ hsz hd _ _ => ?_
                      have h15 := hd ⟨15, .guard⟩ (by simp) rfl _ rfl
                      exact qe_skip rfl ((wanted_of rfl rfl (hsz 133 (by decide)) h15).trans rfl) rfl
                    · refine stepq_env rfl rfl rfl fun _ _ _ _ _ _ _ _ hsz hd _ _ => ?_
                      have h15 := hd ⟨15, .guard⟩ (by simp) rfl _ rfl
                      exact qe_skip rfl ((wanted_of rfl rfl (hsz 133 (by decide)) h15).trans rfl) rfl
                    · refine stepq_env rfl rfl rfl fun _ _ _ _ _ _ _ _ hsz hd _ _ => ?_
                      have h15 := hd ⟨15, .guard⟩ (by simp) rfl _ rfl
                      exact qe_skip rfl ((wanted_of rfl rfl (hsz 133 (by decide)) h15).trans rfl) rfl
                    · refine stepq_env rfl rfl rfl fun _ _ _ _ _ _ _ _ hsz hd _ _ => ?_
                      have h15 := hd ⟨15, .guard⟩ (by simp) rfl _ rfl
                      exact qe_skip rfl ((wanted_of rfl rfl (hsz 133 (by decide)) h15).trans rfl) rfl
                    · refine stepq_env rfl rfl rfl fun _ _ _ _ _ _ _ _ hsz hd _ _ => ?_
                      have h15 := hd ⟨15, .guard⟩ (by simp) rfl _ rfl
                      exact qe_skip rfl ((wanted_of rfl rfl (hsz 133 (by decide)) h15).trans rfl) rfl
                    · refine stepq_env rfl rfl rfl fun _ _ _ _ _ _ _ _ hsz hd _ _ => ?_
                      have h15 := hd ⟨15, .guard⟩ (by simp) rfl _ rfl
                      exact qe_skip rfl ((wanted_of rfl rfl (hsz 133 (by decide)) h15).trans rfl) rfl
                    · refine stepq_env rfl rfl rfl fun _ _ _ _ _ _ _ _ hsz hd _ _ => ?_
                      have h15 := hd ⟨15, .guard⟩ (by simp) rfl _ rfl
                      exact qe_skip rfl ((wanted_of rfl rfl (hsz 133 (by decide)) h15).trans rfl) rfl
                    · refine stepq_env rfl rfl rfl fun _ _ _ _ _ _ _ _ hsz hd _ _ => ?_
                      have h15 := hd ⟨15, .chain⟩ (by simp) rfl _ rfl
                      exact qe_skip rfl ((wanted_of rfl rfl (hsz 133 (by decide)) h15).trans rfl) rfl
                    · refine stepq_env rfl rfl rfl fun _ _ _ _ _ _ _ _ hsz hd _ _ => ?_
                      have h15 := hd ⟨15, .guard⟩ (by simp) rfl _ rfl
                      exact qe_skip rfl ((wanted_of rfl rfl (hsz 133 (by decide)) h15).trans rfl) rfl
                    · refine stepq_env rfl rfl rfl fun _ _ _ _ _ _ _ _ hsz hd _ _ => ?_
                      have h13 := hd ⟨13, .guard⟩ (by simp) rfl _ rfl
                      have h15 := hd ⟨15, .data⟩ (by simp) rfl _ rfl
                      have h25 := hd ⟨25, .data⟩ (by simp) rfl _ rfl
                      refine qe_run rfl ((wanted_of rfl rfl (hsz 131 (by decide)) h13).trans rfl) (ex_pick rfl h15 h25 rfl) QE.refl ?_
                      rfl
                    · exact stq (fun E => ex_pick rfl (E.d 13) rfl (E.d 26))
                    · exact stq (fun E => ex_move rfl (E.d 27))
                    · refine stepq_env rfl rfl rfl fun _ _ _ _ _ _ _ hout hsz hd _ _ => ?_
                      have h28 := hd ⟨28, .guard⟩ (by simp) rfl _ rfl
                      refine qe_run rfl ((wanted_of rfl rfl (hsz 146 (by decide)) h28).trans rfl) (ex_move rfl ((hout 15 (by decide)).trans oe15)) QE.refl ?_
                      rfl
                    · refine stepq_env rfl rfl rfl fun _ _ _ _ _ _ _ _ hsz hd _ _ => ?_
                      have h28 := hd ⟨28, .guard⟩ (by simp) rfl _ rfl
                      have h29 := hd ⟨29, .data⟩ (by simp) rfl _ rfl
                      refine qe_run rfl ((wanted_of rfl rfl (hsz 146 (by decide)) h28).trans rfl) (ex_not rfl h29) QE.refl ?_
                      rfl
                    · refine stepq_env rfl rfl rfl fun _ _ _ _ _ _ _ _ hsz hd _ _ => ?_
                      have h28 := hd ⟨28, .chain⟩ (by simp) rfl _ rfl
                      have h30 := hd ⟨30, .data⟩ (by simp) rfl _ rfl
                      refine qe_run rfl ((wanted_of rfl rfl (hsz 146 (by decide)) h28).trans rfl) (ex_move rfl h30) QE.refl ?_
                      rfl
                    · refine stepq_env rfl rfl rfl fun _ _ _ _ _ hm _ hout hsz hd _ _ => ?_
                      have h31 := hd ⟨31, .guard⟩ (by simp) rfl _ rfl
                      refine qe_run rfl ((wanted_of rfl rfl (hsz 149 (by decide)) h31).trans rfl) (ex_loadA rfl Try.underlying67 rfl (off := 0) (cs := ca) (by rw [HLa.out]; kernel_rfl) ((hout 14 (by decide)).trans oe14) (Cs.whole (Hx60.out.mod hm.old (by intro h2; omega)))) QE.refl ?_
                      rfl
                    · refine stepq_env rfl rfl rfl fun _ _ _ _ _ _ _ _ hsz hd _ _ => ?_
                      have h31 := hd ⟨31, .guard⟩ (by simp) rfl _ rfl
                      refine qe_run rfl ((wanted_of rfl rfl (hsz 149 (by decide)) h31).trans rfl) (ex_build0 rfl (r := ((mg0C 0 0 0) : List Value).toArray) (by kernel_rfl)) QE.refl ?_
                      rfl
                    · refine stepq_env rfl rfl rfl fun _ _ _ _ _ hm hm0 _ hsz hd _ _ => ?_
                      have h31 := hd ⟨31, .chain⟩ (by simp) rfl _ rfl
                      have h32 := hd ⟨32, .data⟩ (by simp) rfl _ rfl
                      have h33 := hd ⟨33, .data⟩ (by simp) rfl _ rfl
                      refine qe_callF (args := #[.agg ca.toArray, .agg (mg0C 0 0 0).toArray]) rfl ((wanted_of rfl rfl (hsz 149 (by decide)) h31).trans rfl) rfl Try.func15 (args2 h32 h33) (Eqs.same Eq_Mg (Hx62.out.mod hm.old (by intro k h1 h2; omega)) (mg0_rd (k := 0) (f := 0) (t := 0) I64_0 I64_0 I64_0 (fun _ => False) _) (by intro k h1; have hzz := hm0.size; first | omega) (fun _ h => h.elim)) ?_
                      rintro e w2 ⟨rfl, hm2⟩
                      exact ⟨_, rfl, QE.still hm2, rfl⟩
                    · refine stepq_env rfl rfl rfl fun _ _ _ _ _ _ _ _ hsz hd _ _ => ?_
                      have h31 := hd ⟨31, .guard⟩ (by simp) rfl _ rfl
                      have h34 := hd ⟨34, .data⟩ (by simp) rfl _ rfl
                      refine qe_run rfl ((wanted_of rfl rfl (hsz 149 (by decide)) h31).trans rfl) (ex_not rfl h34) QE.refl ?_
                      rfl
                    · refine stepq_env rfl rfl rfl fun _ _ _ _ _ _ _ _ hsz hd _ _ => ?_
                      have h28 := hd ⟨28, .guard⟩ (by simp) rfl _ rfl
                      have h31 := hd ⟨31, .data⟩ (by simp) rfl _ rfl
                      have h35 := hd ⟨35, .data⟩ (by simp) rfl _ rfl
                      refine qe_run rfl ((wanted_of rfl rfl (hsz 146 (by decide)) h28).trans rfl) (ex_pick rfl h31 h35 rfl) QE.refl ?_
                      rfl
                    · exact stq (fun E => ex_pick rfl (E.d 28) rfl (E.d 36))
                    intro u26_0 hr
                    have zu26_0 := hr.size
                    have Cx63 := hid (hr.new (S := (fun _ => False)))
                    clear hr
                    refine QChain.nil fun vs hl hzz hrows hne => ?_
                    obtain ⟨Z, hYZ, hZb, hV⟩ := hzz
                    have f0 := fvi hV hl 0
                    have f1 := fvi hV hl 1
                    have f3 := fvi hV hl 3
                    have f4 := fvi hV hl 4
                    have f5 := fvi hV hl 5
                    have f9 := fvi hV hl 9
                    have f13 := fvi hV hl 13
                    have f14 := fvi hV hl 14
                    have f15 := fvi hV hl 15
                    have f17 := fvi hV hl 17
                    have f21 := fvi hV hl 21
                    have f24 := fvi hV hl 24
                    have f28 := fvi hV hl 28
                    have f29 := fvi hV hl 29
                    have f31 := fvi hV hl 31
                    have f34 := fvi hV hl 34
                    have f37 := fvi hV hl 37
                    rw [show vs = [gw vs 0, gw vs 1, gw vs 2, gw vs 3, gw vs 4, gw vs 5, gw vs 6, gw vs 7, gw vs 8, gw vs 9, gw vs 10, gw vs 11, gw vs 12, gw vs 13, gw vs 14, gw vs 15, gw vs 16, gw vs 17, gw vs 18, gw vs 19, gw vs 20, gw vs 21, gw vs 22, gw vs 23, gw vs 24, gw vs 25, gw vs 26, gw vs 27, gw vs 28, gw vs 29, gw vs 30, gw vs 31, gw vs 32, gw vs 33, gw vs 34, gw vs 35, gw vs 36, gw vs 37] from (gw_eta hl).trans rfl]
                    have ha0 := HA0.out
                    subst ha0
                    clear HA0 hV hYZ hZb hsz0 hrows hne oe1 oe9 oe14 oe15
                    simp only [putAll, Act.put, sIB, sCZ, sCS, f0, f1, f3, f4, f5, f9, f13, f14, f15, f17, f21, f24, f28, f29, f31, f34, f37]
                    clear hl f0 f1 f3 f4 f5 f9 f13 f14 f15 f17 f21 f24 f28 f29 f31 f34 f37
                    clear Hx62
                    clear Hx60
                    clear HRLr
                    clear HRYr
                    clear Hx3
                    clear HML
                    go_wp2_with fail
                    go_meet
                    case rel => exact ⟨l, sn, lo, (fun k => (A1 k)), (fun k => (B1 k)), (fun k => (A2 k)), (fun k => (B2 k)), (by omega), KwlP.out, by omega, by omega, by omega, (((Kwln.out.mod Cx4.out (fun _ _ h => h) (fun _ _ h => h)).mod Cx61.out (fun _ _ h => h) (fun _ _ h => h)).mod Cx63.out (fun _ _ h => h) (fun _ _ h => h)), (((Kwlr.out.mod Cx4.out (fun _ _ h => h) (fun _ _ h => h)).mod Cx61.out (fun _ _ h => h) (fun _ _ h => h)).mod Cx63.out (fun _ _ h => h) (fun _ _ h => h)), ⟨(by intro k h1 h2; first | omega | (have hb := KwlbA1.out k h1; omega) | (have hb := KwlbA2.out k h2; omega) | exact Kwlaa.out k h1 h2 | exact Kwlaa.out k h2 h1 | exact Kwlab.out k h1 h2 | exact Kwlab.out k h2 h1 | exact Kwlba.out k h1 h2 | exact Kwlba.out k h2 h1 | exact Kwl1R.out k h1 h2 | exact Kwl1R.out k h2 h1 | exact Kwl2R.out k h1 h2 | exact Kwl2R.out k h2 h1 | (have hb := KwlbA1.out k h1; have hb2 := KwlbA2.out k h2; omega)), (by intro k h1 h2; first | omega | (have hb := KwlbA1.out k h1; omega) | (have hb := KwlbB2.out k h2; omega) | exact Kwlaa.out k h1 h2 | exact Kwlaa.out k h2 h1 | exact Kwlab.out k h1 h2 | exact Kwlab.out k h2 h1 | exact Kwlba.out k h1 h2 | exact Kwlba.out k h2 h1 | exact Kwl1R.out k h1 h2 | exact Kwl1R.out k h2 h1 | exact Kwl2R.out k h1 h2 | exact Kwl2R.out k h2 h1 | (have hb := KwlbA1.out k h1; have hb2 := KwlbB2.out k h2; omega)), (by intro k h1 h2; first | omega | (have hb := KwlbA2.out k h1; omega) | (have hb := KwlbB1.out k h2; omega) | exact Kwlaa.out k h1 h2 | exact Kwlaa.out k h2 h1 | exact Kwlab.out k h1 h2 | exact Kwlab.out k h2 h1 | exact Kwlba.out k h1 h2 | exact Kwlba.out k h2 h1 | exact Kwl1R.out k h1 h2 | exact Kwl1R.out k h2 h1 | exact Kwl2R.out k h1 h2 | exact Kwl2R.out k h2 h1 | (have hb := KwlbA2.out k h1; have hb2 := KwlbB1.out k h2; omega))⟩, (by intro k h1; (try dsimp only at h1); first | exact (KwlsA1.out k h1).elim Or.inl (fun h => Or.inr (by unfold New at h ⊢; omega)) | exact Or.inr (by unfold New; omega)), (by intro k h1; (try dsimp only at h1); first | exact (KwlsB1.out k h1).elim Or.inl (fun h => Or.inr (by unfold New at h ⊢; omega)) | exact Or.inr (by unfold New; omega)), (by intro k h1; (try dsimp only at h1); first | exact (KwlsA2.out k h1).elim Or.inl (fun h => Or.inr (by unfold New at h ⊢; omega)) | exact Or.inr (by unfold New; omega)), (by intro k h1; (try dsimp only at h1); first | exact (KwlsB2.out k h1).elim Or.inl (fun h => h.elim (fun h => Or.inr (Or.inl h)) (fun h => Or.inr (Or.inr (by unfold New at h ⊢; omega)))) | exact Or.inr (Or.inl h1) | exact Or.inr (Or.inr (by unfold New; omega))), (((Kwlac.out.mod Cx4.out (fun _ _ h => h)).mod Cx61.out (fun _ _ h => h)).mod Cx63.out (fun _ _ h => h)), (((Kwlm.out.trans Cx4.out (fun _ _ h => h.elim)).trans Cx61.out (fun _ _ h => h.elim)).trans Cx63.out (fun _ _ h => h.elim))⟩
                  · skip
                    go_upto_region 26 with (fail)
                    generalize ha0 : Act.mk _ _ = a0
                    have oe9 : a0.eval (.tmp 9) = .int .i64 kk := by rw [← ha0]; rfl
                    have oe14 : a0.eval (.tmp 14) = .pointer (some ⟨u25_2.heap.size, 0, none⟩) := by rw [← ha0]; rfl
                    have oe15 : a0.eval (.tmp 15) = .bool false := by rw [← ha0]; rfl
                    have hsz0 : a0.tmps.size = 211 := by rw [← ha0]; rfl
                    have HA0 := hid ha0
                    clear ha0
                    refine wp_region_Q0 211 hsz0 [118, 119, 120, 121, 122, 123, 124, 125, 126, 127, 128, 129, 130, 131, 132, 133, 134, 135, 136, 137, 138, 139, 140, 141, 142, 143, 144, 145, 146, 147, 148, 149, 150, 151, 152, 153, 154, 155] [qi (.bool false), qi (.int .i64 kk), qi (.bool false), qi (.bool false), qi undef, qi undef, qi undef, qi undef, qi undef, qi undef, qi undef, qi (.bool false), qi (.bool false), qi (.bool false), qi (.bool false), qi (.bool false), qi undef, qi undef, qi undef, qi undef, qi undef, qi undef, qi undef, qi undef, qi undef, qi undef, qi (.bool false), qi (.bool false), qi (.bool false), qi (.bool false), qi (.bool true), qi (.bool true), qi (.agg ca.toArray), qi (.agg ((mg0C 0 0 0) : List Value).toArray), qi (.bool true), qi (.bool false), qi (.bool false), qi (.bool false)] ⟨qi_stable, qi_stable, qi_stable, qi_stable, qi_stable, qi_stable, qi_stable, qi_stable, qi_stable, qi_stable, qi_stable, qi_stable, qi_stable, qi_stable, qi_stable, qi_stable, qi_stable, qi_stable, qi_stable, qi_stable, qi_stable, qi_stable, qi_stable, qi_stable, qi_stable, qi_stable, qi_stable, qi_stable, qi_stable, qi_stable, qi_stable, qi_stable, qi_stable, qi_stable, qi_stable, qi_stable, qi_stable, qi_stable, trivial⟩ [] ⟨?_, ?_, ?_, ?_, ?_, ?_, ?_, ?_, ?_, ?_, ?_, ?_, ?_, ?_, ?_, ?_, ?_, ?_, ?_, ?_, ?_, ?_, ?_, ?_, ?_, ?_, ?_, ?_, ?_, ?_, ?_, ?_, ?_, ?_, ?_, ?_, ?_, ?_, trivial⟩ ?_
                    · exact stq (fun E => ex_move rfl (E.v oe15))
                    · exact stq (fun E => ex_move rfl (E.v oe9))
                    · exact stq (fun E => ex_binE rfl (E.d 1) rfl (guard_ints _ _ _ _ _ _) (run_geq_i _ _ _ Try.underlying3) (congrArg Value.bool (decide_eq_false (by omega))))
                    · exact stq (fun E => ex_move rfl (E.d 2))
                    · refine stepq_env rfl rfl rfl fun _ _ _ _ _ _ _ _ hsz hd _ _ => ?_
                      have h3 := hd ⟨3, .guard⟩ (by simp) rfl _ rfl
                      exact qe_skip rfl ((wanted_of rfl rfl (hsz 121 (by decide)) h3).trans rfl) rfl
                    · refine stepq_env rfl rfl rfl fun _ _ _ _ _ _ _ _ hsz hd _ _ => ?_
                      have h3 := hd ⟨3, .guard⟩ (by simp) rfl _ rfl
                      exact qe_skip rfl ((wanted_of rfl rfl (hsz 121 (by decide)) h3).trans rfl) rfl
                    · refine stepq_env rfl rfl rfl fun _ _ _ _ _ _ _ _ hsz hd _ _ => ?_
                      have h3 := hd ⟨3, .guard⟩ (by simp) rfl _ rfl
                      exact qe_skip rfl ((wanted_of rfl rfl (hsz 121 (by decide)) h3).trans rfl) rfl
                    · refine stepq_env rfl rfl rfl fun _ _ _ _ _ _ _ _ hsz hd _ _ => ?_
                      have h3 := hd ⟨3, .guard⟩ (by simp) rfl _ rfl
                      exact qe_skip rfl ((wanted_of rfl rfl (hsz 121 (by decide)) h3).trans rfl) rfl
                    · refine stepq_env rfl rfl rfl fun _ _ _ _ _ _ _ _ hsz hd _ _ => ?_
                      have h3 := hd ⟨3, .guard⟩ (by simp) rfl _ rfl
                      exact qe_skip rfl ((wanted_of rfl rfl (hsz 121 (by decide)) h3).trans rfl) rfl
                    · refine stepq_env rfl rfl rfl fun _ _ _ _ _ _ _ _ hsz hd _ _ => ?_
                      have h3 := hd ⟨3, .guard⟩ (by simp) rfl _ rfl
                      exact qe_skip rfl ((wanted_of rfl rfl (hsz 121 (by decide)) h3).trans rfl) rfl
                    · refine stepq_env rfl rfl rfl fun _ _ _ _ _ _ _ _ hsz hd _ _ => ?_
                      have h3 := hd ⟨3, .guard⟩ (by simp) rfl _ rfl
                      exact qe_skip rfl ((wanted_of rfl rfl (hsz 121 (by decide)) h3).trans rfl) rfl
                    · exact stq (fun E => ex_pick rfl (E.d 3) (E.d 10) rfl)
                    · exact stq (fun E => ex_bin rfl (E.d 0) (E.d 11) (guard_bools _ _ _ _ _ _) (run_neq_bools _ _ _ Try.underlying4))
                    · exact stq (fun E => ex_move rfl (E.d 12))
                    · refine stepq_env rfl rfl rfl fun _ _ _ _ _ _ _ hout hsz hd _ _ => ?_
                      have h13 := hd ⟨13, .guard⟩ (by simp) rfl _ rfl
                      refine qe_run rfl ((wanted_of rfl rfl (hsz 131 (by decide)) h13).trans rfl) (ex_move rfl ((hout 15 (by decide)).trans oe15)) QE.refl ?_
                      rfl
                    · refine stepq_env rfl rfl rfl fun _ _ _ _ _ _ _ _ hsz hd _ _ => ?_
                      have h13 := hd ⟨13, .chain⟩ (by simp) rfl _ rfl
                      have h14 := hd ⟨14, .data⟩ (by simp) rfl _ rfl
                      refine qe_run rfl ((wanted_of rfl rfl (hsz 131 (by decide)) h13).trans rfl) (ex_move rfl h14) QE.refl ?_
                      rfl
                    · refine stepq_env rfl rfl rfl fun _ _ _ _ _ _ _ _ hsz hd _ _ => ?_
                      have h15 := hd ⟨15, .guard⟩ (by simp) rfl _ rfl
                      exact qe_skip rfl ((wanted_of rfl rfl (hsz 133 (by decide)) h15).trans rfl) rfl
                    · refine stepq_env rfl rfl rfl fun _ _ _ _ _ _ _ _ hsz hd _ _ => ?_
                      have h15 := hd ⟨15, .guard⟩ (by simp) rfl _ rfl
                      exact qe_skip rfl ((wanted_of rfl rfl (hsz 133 (by decide)) h15).trans rfl) rfl
                    · refine stepq_env rfl rfl rfl fun _ _ _ _ _ _ _ _ hsz hd _ _ => ?_
                      have h15 := hd ⟨15, .guard⟩ (by simp) rfl _ rfl
                      exact qe_skip rfl ((wanted_of rfl rfl (hsz 133 (by decide)) h15).trans rfl) rfl
                    · refine stepq_env rfl rfl rfl fun _ _ _ _ _ _ _ _ hsz hd _ _ => ?_
                      have h15 := hd ⟨15, .guard⟩ (by simp) rfl _ rfl
                      exact qe_skip rfl ((wanted_of rfl rfl (hsz 133 (by decide)) h15).trans rfl) rfl
                    · refine stepq_env rfl rfl rfl fun _ _ _ _ _ _ _ _ hsz hd _ _ => ?_
                      have h15 := hd ⟨15, .guard⟩ (by simp) rfl _ rfl
                      exact qe_skip rfl ((wanted_of rfl rfl (hsz 133 (by decide)) h15).trans rfl) rfl
                    · refine stepq_env rfl rfl rfl fun _ _ _ _ _ _ _ _ hsz hd _ _ => ?_
                      have h15 := hd ⟨15, .guard⟩ (by simp) rfl _ rfl
                      exact qe_skip rfl ((wanted_of rfl rfl (hsz 133 (by decide)) h15).trans rfl) rfl
                    · refine stepq_env rfl rfl rfl fun _ _ _ _ _ _ _ _ hsz hd _ _ => ?_
                      have h15 := hd ⟨15, .guard⟩ (by simp) rfl _ rfl
                      exact qe_skip rfl ((wanted_of rfl rfl (hsz 133 (by decide)) h15).trans rfl) rfl
                    · refine stepq_env rfl rfl rfl fun _ _ _ _ _ _ _ _ hsz hd _ _ => ?_
                      have h15 := hd ⟨15, .guard⟩ (by simp) rfl _ rfl
                      exact qe_skip rfl ((wanted_of rfl rfl (hsz 133 (by decide)) h15).trans rfl) rfl
                    · refine stepq_env rfl rfl rfl fun _ _ _ _ _ _ _ _ hsz hd _ _ => ?_
                      have h15 := hd ⟨15, .chain⟩ (by simp) rfl _ rfl
                      exact qe_skip rfl ((wanted_of rfl rfl (hsz 133 (by decide)) h15).trans rfl) rfl
                    · refine stepq_env rfl rfl rfl fun _ _ _ _ _ _ _ _ hsz hd _ _ => ?_
                      have h15 := hd ⟨15, .guard⟩ (by simp) rfl _ rfl
                      exact qe_skip rfl ((wanted_of rfl rfl (hsz 133 (by decide)) h15).trans rfl) rfl
                    · refine stepq_env rfl rfl rfl fun _ _ _ _ _ _ _ _ hsz hd _ _ => ?_
                      have h13 := hd ⟨13, .guard⟩ (by simp) rfl _ rfl
                      have h15 := hd ⟨15, .data⟩ (by simp) rfl _ rfl
                      have h25 := hd ⟨25, .data⟩ (by simp) rfl _ rfl
                      refine qe_run rfl ((wanted_of rfl rfl (hsz 131 (by decide)) h13).trans rfl) (ex_pick rfl h15 h25 rfl) QE.refl ?_
                      rfl
                    · exact stq (fun E => ex_pick rfl (E.d 13) rfl (E.d 26))
                    · exact stq (fun E => ex_move rfl (E.d 27))
                    · refine stepq_env rfl rfl rfl fun _ _ _ _ _ _ _ hout hsz hd _ _ => ?_
                      have h28 := hd ⟨28, .guard⟩ (by simp) rfl _ rfl
                      refine qe_run rfl ((wanted_of rfl rfl (hsz 146 (by decide)) h28).trans rfl) (ex_move rfl ((hout 15 (by decide)).trans oe15)) QE.refl ?_
                      rfl
                    · refine stepq_env rfl rfl rfl fun _ _ _ _ _ _ _ _ hsz hd _ _ => ?_
                      have h28 := hd ⟨28, .guard⟩ (by simp) rfl _ rfl
                      have h29 := hd ⟨29, .data⟩ (by simp) rfl _ rfl
                      refine qe_run rfl ((wanted_of rfl rfl (hsz 146 (by decide)) h28).trans rfl) (ex_not rfl h29) QE.refl ?_
                      rfl
                    · refine stepq_env rfl rfl rfl fun _ _ _ _ _ _ _ _ hsz hd _ _ => ?_
                      have h28 := hd ⟨28, .chain⟩ (by simp) rfl _ rfl
                      have h30 := hd ⟨30, .data⟩ (by simp) rfl _ rfl
                      refine qe_run rfl ((wanted_of rfl rfl (hsz 146 (by decide)) h28).trans rfl) (ex_move rfl h30) QE.refl ?_
                      rfl
                    · refine stepq_env rfl rfl rfl fun _ _ _ _ _ hm _ hout hsz hd _ _ => ?_
                      have h31 := hd ⟨31, .guard⟩ (by simp) rfl _ rfl
                      refine qe_run rfl ((wanted_of rfl rfl (hsz 149 (by decide)) h31).trans rfl) (ex_loadA rfl Try.underlying67 rfl (off := 0) (cs := ca) (by rw [HLa.out]; kernel_rfl) ((hout 14 (by decide)).trans oe14) (Cs.whole (Hx60.out.mod hm.old (by intro h2; omega)))) QE.refl ?_
                      rfl
                    · refine stepq_env rfl rfl rfl fun _ _ _ _ _ _ _ _ hsz hd _ _ => ?_
                      have h31 := hd ⟨31, .guard⟩ (by simp) rfl _ rfl
                      refine qe_run rfl ((wanted_of rfl rfl (hsz 149 (by decide)) h31).trans rfl) (ex_build0 rfl (r := ((mg0C 0 0 0) : List Value).toArray) (by kernel_rfl)) QE.refl ?_
                      rfl
                    · refine stepq_env rfl rfl rfl fun _ _ _ _ _ hm hm0 _ hsz hd _ _ => ?_
                      have h31 := hd ⟨31, .chain⟩ (by simp) rfl _ rfl
                      have h32 := hd ⟨32, .data⟩ (by simp) rfl _ rfl
                      have h33 := hd ⟨33, .data⟩ (by simp) rfl _ rfl
                      refine qe_callF (args := #[.agg ca.toArray, .agg (mg0C 0 0 0).toArray]) rfl ((wanted_of rfl rfl (hsz 149 (by decide)) h31).trans rfl) rfl Try.func15 (args2 h32 h33) (Eqs.same Eq_Mg (Hx62.out.mod hm.old (by intro k h1 h2; omega)) (mg0_rd (k := 0) (f := 0) (t := 0) I64_0 I64_0 I64_0 (fun _ => False) _) (by intro k h1; have hzz := hm0.size; first | omega) (fun _ h => h.elim)) ?_
                      rintro e w2 ⟨rfl, hm2⟩
                      exact ⟨_, rfl, QE.still hm2, rfl⟩
                    · refine stepq_env rfl rfl rfl fun _ _ _ _ _ _ _ _ hsz hd _ _ => ?_
                      have h31 := hd ⟨31, .guard⟩ (by simp) rfl _ rfl
                      have h34 := hd ⟨34, .data⟩ (by simp) rfl _ rfl
                      refine qe_run rfl ((wanted_of rfl rfl (hsz 149 (by decide)) h31).trans rfl) (ex_not rfl h34) QE.refl ?_
                      rfl
                    · refine stepq_env rfl rfl rfl fun _ _ _ _ _ _ _ _ hsz hd _ _ => ?_
                      have h28 := hd ⟨28, .guard⟩ (by simp) rfl _ rfl
                      have h31 := hd ⟨31, .data⟩ (by simp) rfl _ rfl
                      have h35 := hd ⟨35, .data⟩ (by simp) rfl _ rfl
                      refine qe_run rfl ((wanted_of rfl rfl (hsz 146 (by decide)) h28).trans rfl) (ex_pick rfl h31 h35 rfl) QE.refl ?_
                      rfl
                    · exact stq (fun E => ex_pick rfl (E.d 28) rfl (E.d 36))
                    intro u26_0 hr
                    have zu26_0 := hr.size
                    have Cx64 := hid (hr.new (S := (fun _ => False)))
                    clear hr
                    refine QChain.nil fun vs hl hzz hrows hne => ?_
                    obtain ⟨Z, hYZ, hZb, hV⟩ := hzz
                    have f0 := fvi hV hl 0
                    have f1 := fvi hV hl 1
                    have f3 := fvi hV hl 3
                    have f4 := fvi hV hl 4
                    have f5 := fvi hV hl 5
                    have f9 := fvi hV hl 9
                    have f13 := fvi hV hl 13
                    have f14 := fvi hV hl 14
                    have f15 := fvi hV hl 15
                    have f17 := fvi hV hl 17
                    have f21 := fvi hV hl 21
                    have f24 := fvi hV hl 24
                    have f28 := fvi hV hl 28
                    have f29 := fvi hV hl 29
                    have f31 := fvi hV hl 31
                    have f34 := fvi hV hl 34
                    have f37 := fvi hV hl 37
                    rw [show vs = [gw vs 0, gw vs 1, gw vs 2, gw vs 3, gw vs 4, gw vs 5, gw vs 6, gw vs 7, gw vs 8, gw vs 9, gw vs 10, gw vs 11, gw vs 12, gw vs 13, gw vs 14, gw vs 15, gw vs 16, gw vs 17, gw vs 18, gw vs 19, gw vs 20, gw vs 21, gw vs 22, gw vs 23, gw vs 24, gw vs 25, gw vs 26, gw vs 27, gw vs 28, gw vs 29, gw vs 30, gw vs 31, gw vs 32, gw vs 33, gw vs 34, gw vs 35, gw vs 36, gw vs 37] from (gw_eta hl).trans rfl]
                    have ha0 := HA0.out
                    subst ha0
                    clear HA0 hV hYZ hZb hsz0 hrows hne oe9 oe14 oe15
                    simp only [putAll, Act.put, sIB, sCZ, sCS, f0, f1, f3, f4, f5, f9, f13, f14, f15, f17, f21, f24, f28, f29, f31, f34, f37]
                    clear hl f0 f1 f3 f4 f5 f9 f13 f14 f15 f17 f21 f24 f28 f29 f31 f34 f37
                    clear Hx62
                    clear Hx60
                    clear HRLr
                    clear HRYr
                    clear Hx3
                    clear HML
                    go_wp2_with fail
                    go_meet
                    case rel => exact ⟨l, sn, lo, (fun k => (A1 k)), (fun k => (B1 k)), (fun k => (A2 k)), (fun k => (B2 k)), (by omega), KwlP.out, by omega, by omega, by omega, (((Kwln.out.mod Cx4.out (fun _ _ h => h) (fun _ _ h => h)).mod Cx61.out (fun _ _ h => h) (fun _ _ h => h)).mod Cx64.out (fun _ _ h => h) (fun _ _ h => h)), (((Kwlr.out.mod Cx4.out (fun _ _ h => h) (fun _ _ h => h)).mod Cx61.out (fun _ _ h => h) (fun _ _ h => h)).mod Cx64.out (fun _ _ h => h) (fun _ _ h => h)), ⟨(by intro k h1 h2; first | omega | (have hb := KwlbA1.out k h1; omega) | (have hb := KwlbA2.out k h2; omega) | exact Kwlaa.out k h1 h2 | exact Kwlaa.out k h2 h1 | exact Kwlab.out k h1 h2 | exact Kwlab.out k h2 h1 | exact Kwlba.out k h1 h2 | exact Kwlba.out k h2 h1 | exact Kwl1R.out k h1 h2 | exact Kwl1R.out k h2 h1 | exact Kwl2R.out k h1 h2 | exact Kwl2R.out k h2 h1 | (have hb := KwlbA1.out k h1; have hb2 := KwlbA2.out k h2; omega)), (by intro k h1 h2; first | omega | (have hb := KwlbA1.out k h1; omega) | (have hb := KwlbB2.out k h2; omega) | exact Kwlaa.out k h1 h2 | exact Kwlaa.out k h2 h1 | exact Kwlab.out k h1 h2 | exact Kwlab.out k h2 h1 | exact Kwlba.out k h1 h2 | exact Kwlba.out k h2 h1 | exact Kwl1R.out k h1 h2 | exact Kwl1R.out k h2 h1 | exact Kwl2R.out k h1 h2 | exact Kwl2R.out k h2 h1 | (have hb := KwlbA1.out k h1; have hb2 := KwlbB2.out k h2; omega)), (by intro k h1 h2; first | omega | (have hb := KwlbA2.out k h1; omega) | (have hb := KwlbB1.out k h2; omega) | exact Kwlaa.out k h1 h2 | exact Kwlaa.out k h2 h1 | exact Kwlab.out k h1 h2 | exact Kwlab.out k h2 h1 | exact Kwlba.out k h1 h2 | exact Kwlba.out k h2 h1 | exact Kwl1R.out k h1 h2 | exact Kwl1R.out k h2 h1 | exact Kwl2R.out k h1 h2 | exact Kwl2R.out k h2 h1 | (have hb := KwlbA2.out k h1; have hb2 := KwlbB1.out k h2; omega))⟩, (by intro k h1; (try dsimp only at h1); first | exact (KwlsA1.out k h1).elim Or.inl (fun h => Or.inr (by unfold New at h ⊢; omega)) | exact Or.inr (by unfold New; omega)), (by intro k h1; (try dsimp only at h1); first | exact (KwlsB1.out k h1).elim Or.inl (fun h => Or.inr (by unfold New at h ⊢; omega)) | exact Or.inr (by unfold New; omega)), (by intro k h1; (try dsimp only at h1); first | exact (KwlsA2.out k h1).elim Or.inl (fun h => Or.inr (by unfold New at h ⊢; omega)) | exact Or.inr (by unfold New; omega)), (by intro k h1; (try dsimp only at h1); first | exact (KwlsB2.out k h1).elim Or.inl (fun h => h.elim (fun h => Or.inr (Or.inl h)) (fun h => Or.inr (Or.inr (by unfold New at h ⊢; omega)))) | exact Or.inr (Or.inl h1) | exact Or.inr (Or.inr (by unfold New; omega))), (((Kwlac.out.mod Cx4.out (fun _ _ h => h)).mod Cx61.out (fun _ _ h => h)).mod Cx64.out (fun _ _ h => h)), (((Kwlm.out.trans Cx4.out (fun _ _ h => h.elim)).trans Cx61.out (fun _ _ h => h.elim)).trans Cx64.out (fun _ _ h => h.elim))⟩
              · skip
                go_upto_region 24 with (fail)
                refine wp_region_U 211 [111, 110] [0, 1] (fun a0 HA0 => ?_)
                have oe50 := ev HA0 50 rfl
                refine QSeq.pure rfl (.bool false) (fun E => ex_binE rfl (E.v oe50) rfl (guard_ints _ _ _ _ _ _) (run_eql_i _ _ _ Try.underlying3) (congrArg Value.bool (eq_ff (by omega)))) ?_
                refine QSeq.pure rfl _ (fun E => ex_assign rfl (E.d 0 0)) ?_
                refine QSeq.nil (t' := [_, _]) rfl ?_
                obtain rfl := HA0.out
                clear HA0 oe50
                simp only [pz, Act.put, sIB, sCZ, sCS]
                go_upto_region 9 with (fail)
                refine wp_region_U 211 [16] [0] (fun a0 HA0 => ?_)
                refine QSeq.pure rfl (.slice none 0 0) (fun E => ex_assign rfl rfl) ?_
                refine QSeq.nil (t' := [_]) rfl ?_
                obtain rfl := HA0.out
                clear HA0
                simp only [pz, Act.put, sIB, sCZ, sCS]
                go_upto_region 10 with (fail)
                refine wp_region_U 211 [17] [0] (fun a0 HA0 => ?_)
                refine QSeq.pure rfl (.int .i64 0) (fun E => ex_assign rfl rfl) ?_
                refine QSeq.nil (t' := [_]) rfl ?_
                obtain rfl := HA0.out
                clear HA0
                simp only [pz, Act.put, sIB, sCZ, sCS]
                go_wp2
                go_loopw [16, 17] (fun ta tj wr => ∃ (j : Nat), tj = .int .i64 ((j : Nat) : Int) ∧ j ≤ a.l.length ∧ j ≤ 4 ∧ u4_5.heap.size ≤ wr.heap.size ∧ OwS MgR 67 (fun k => New u4_5 wr k) (fun k => R0 k ∨ New u4_5 wr k) wr ta ((a.l.take j).map smallP) ∧ NtS A1 B1 wr x mo l ((sn : Nat) : Int) ((lo : Nat) : Int) ∧ RnS A2 B2 wr y mo l ((sn : Nat) : Int) ((lo : Nat) : Int) ∧ RdS AnR R0 wr (.slice (some ⟨g0, o0, none⟩) acs.length cap) acs ∧ RdS MgR R0 wr (.slice aoa a.l.length capa) a.l ∧ Cs wr (wl.heap.size) #[Value.int .i64 a.d, Value.int .i64 a.k, Value.slice aoa a.l.length capa] 97 ∧ Mod (fun k => O1 k ∨ O2 k) w wr) (fun _ tj _ => 4 - (intOf tj).toNat)
                case atStart => exact ⟨0, rfl, Nat.zero_le _, by omega, Nat.le_refl _, OwS.nil _ _ _ _ _, (Kwln.out.mod Cx4.out (fun _ _ h => h) (fun _ _ h => h)), (Kwlr.out.mod Cx4.out (fun _ _ h => h) (fun _ _ h => h)), (Kwlac.out.mod Cx4.out (fun _ _ h => h)), (HML.out.mod Cx4.out (fun _ _ h => h)), Hx3.out, (Kwlm.out.trans Cx4.out (fun _ _ h => h.elim))⟩
                case round =>
                  clear Kwln Kwlr Kwlac Kwlm HML Hx3
                  obtain ⟨j, rfl, hj, hj4, hz4, ho, k0, k1, k2, k3, k4, k5⟩ := hrel
                  obtain ⟨wj, rfl⟩ : ∃ x, x = wr := ⟨_, rfl⟩
                  obtain ⟨aos, caps, rfl⟩ := ho.shape
                  have HMS := Lib.hid ho
                  have L0 := Lib.hid k0
                  have L1 := Lib.hid k1
                  have L2 := Lib.hid k2
                  have L3 := Lib.hid k3
                  have L4 := Lib.hid k4
                  have L5 := Lib.hid k5
                  clear ho k0 k1 k2 k3 k4 k5
                  have hll : ((a.l.take j).map smallP).length = j := by rw [List.length_map, List.length_take]; omega
                  go_upto_region 11 with (fail)
                  refine wp_region_U 211 [51, 52, 53, 54, 55, 56, 57, 58, 59] [0, 1, 2, 3, 4, 5, 6, 7, 8] (fun a0 HA0 => ?_)
                  have oe8 := ev HA0 8 rfl
                  have oe17 := ev HA0 17 rfl
                  refine QSeq.pure rfl _ (fun E => ex_move rfl (E.v oe17)) ?_
                  refine QSeq.pure rfl (.pointer (some ⟨wl.heap.size, 2, none⟩)) (fun E => ex_field rfl Try.underlying97 rfl (by kernel_rfl) (E.v oe8)) ?_
                  refine QSeq.pure rfl _ (fun E => ex_load1 rfl Try.underlying76 rfl (E.d 1 0) (Cs.lit1 L4.out rfl)) ?_
                  refine QSeq.pure rfl (.int .i64 a.l.length) (fun E => ex_lenS rfl (E.d 2 0) Try.underlying76) ?_
                  refine QSeq.pure rfl (.bool (decide (((j : Nat) : Int) < ((a.l.length : Nat) : Int)))) (fun E => ex_bin rfl (E.d 0 3) (E.d 3 0) (guard_ints _ _ _ _ _ _) (run_lss_i _ _ _ Try.underlying3)) ?_
                  refine QSeq.pure rfl _ (fun E => ex_move rfl (E.d 4 0)) ?_
                  refine QSeq.may (b := (decide (((j : Nat) : Int) < ((a.l.length : Nat) : Int)))) rfl (.int .i64 ((j : Nat) : Int)) (fun E => ((wanted_of rfl rfl (E.sz 56 (by decide)) (E.d 5 0)).trans (beq_t _))) (fun E hb => ex_move rfl (E.v oe17)) ?_
                  intro v11_6 hw
                  have hv11_6 := hid hw
                  clear hw
                  refine QSeq.may (b := (decide (((j : Nat) : Int) < ((a.l.length : Nat) : Int)))) rfl (.bool (decide (((j : Nat) : Int) < 4))) (fun E => ((wanted_of rfl rfl (E.sz 56 (by decide)) (E.d 5 1)).trans (beq_t _))) (fun E hb => ex_bin rfl ((E.q 6 0 hv11_6.out).1 hb) rfl (guard_ints _ _ _ _ _ _) (run_lss_i _ _ _ Try.underlying3)) ?_
                  intro v11_7 hw
                  have hv11_7 := hid hw
                  clear hw
                  obtain ⟨pb8, hb8⟩ : ∃ b : Bool, b = ((decide (((j : Nat) : Int) < ((a.l.length : Nat) : Int))) && (decide (((j : Nat) : Int) < 4))) := ⟨_, rfl⟩
                  have HB8 := hid hb8
                  clear hb8
                  refine QSeq.pure rfl (.bool pb8) (fun E => ex_pickE rfl (E.d 5 2) rfl rfl ((and_val fun hb => (E.q 7 0 hv11_7.out).1 hb).trans (congrArg Value.bool HB8.out.symm))) ?_
                  clear hv11_6 hv11_7
                  refine QSeq.nil (t' := [_, _, _, _, _, _, _, _, _]) rfl ?_
                  obtain rfl := HA0.out
                  clear HA0 oe8 oe17
                  simp only [pz, Act.put, sIB, sCZ, sCS]
                  by_cases hc3 : j < a.l.length ∧ j < 4
                  · obtain ⟨hc31, hc32⟩ := hc3
                    obtain rfl : pb8 = true := HB8.out.trans (by simp only [Bool.and_eq_true, decide_eq_true_eq]; omega)
                    obtain ⟨g4, o4, c4, ea4, hrg, hrd, hcs⟩ := L3.out.at hc31
                    generalize hmm : a.l[j] = m4 at hrd
                    have HMM := Lib.hid hmm
                    have HL4 := hid (MgR.len hrd)
                    have HAT4 := hid (show CellsAt R0 wj g4 (o4 + j * 295) c4 from ⟨hrg, hcs⟩)
                    have HR4 := hid (show MgR.rd R0 wj c4 m4 from hrd)
                    clear hrg hrd hcs hmm
                    subst ea4
                    go_upto_region 13 with (fail)
                    refine wp_region_U 211 [62, 63, 64, 65, 66, 67, 68, 69, 70, 16] [0, 1, 2, 3, 4, 5, 6, 7, 8, 9] (fun a0 HA0 => ?_)
                    have oe8 := ev HA0 8 rfl
                    have oe16 := ev HA0 16 rfl
                    have oe17 := ev HA0 17 rfl
                    refine QSeq.pure rfl _ (fun E => ex_move rfl (E.y 9 oe16)) ?_
                    refine QSeq.pure rfl (.pointer (some ⟨wl.heap.size, 2, none⟩)) (fun E => ex_field rfl Try.underlying97 rfl (by kernel_rfl) (E.v oe8)) ?_
                    refine QSeq.pure rfl _ (fun E => ex_load1 rfl Try.underlying76 rfl (E.d 1 0) (Cs.lit1 L4.out rfl)) ?_
                    refine QSeq.pure rfl _ (fun E => ex_move rfl (E.v oe17)) ?_
                    refine QSeq.pure rfl (.pointer (some ⟨g4, o4 + j * 295, none⟩)) (fun E => ex_idxS (i := j) (s := 295) rfl Try.underlying76 (by kernel_rfl) (E.d 2 1) (E.d 3 0) (by omega)) ?_
                    refine QSeq.pure rfl _ (fun E => ex_loadA rfl Try.underlying67 rfl (off := o4 + j * 295) (cs := c4) (by rw [HL4.out]; kernel_rfl) (E.d 4 0) (fun j u hu => (HAT4.out).2 j u hu)) ?_
                    refine QSeq.call rfl rfl Try.func31 (SmallP_c _ _ _ _ HR4.out (by intro k h1; have hb := HBR0.out k h1; omega)) (fun E => args1 (E.d 5 0)) ?_
                    rintro e u13_6 ⟨c5, rfl, qel4, hm⟩
                    have HL5 := hid (MgR.len qel4)
                    refine ⟨_, rfl, ?_⟩
                    have Hx65 := hid (qel4.widen (R' := (fun k => (R0 k) ∨ (New wj u13_6 k))) (fun _ h => h))
                    have zu13_6 := hm.size
                    have Cx66 := hid (show Mod (fun _ => False) wj u13_6 from hm)
                    clear hm
                    clear qel4 HR4
                    refine QSeq.go fun act E => ?_
                    refine qc_buildS (e := 67) (cs := c5) (zc := [.int .i64 0, .int .i64 0, .int .i64 0, .int .i64 0, .int .i64 0, .int .u8 0, .int .u8 0, .int .u8 0, .int .u8 0, .int .u8 0, .int .u8 0, .int .u8 0, .int .u8 0, .int .u8 0, .int .u8 0, .int .u8 0, .int .u8 0, .int .u8 0, .int .u8 0, .int .u8 0, .int .u8 0, .int .u8 0, .int .u8 0, .int .u8 0, .int .u8 0, .int .u8 0, .int .u8 0, .int .u8 0, .int .u8 0, .int .u8 0, .int .u8 0, .int .u8 0, .int .u8 0, .int .u8 0, .int .u8 0, .int .u8 0, .int .u8 0, .int .i64 0, .int .i64 0, .int .i64 0, .int .i64 0, .int .i64 0, .int .i64 0, .int .u8 0, .int .u8 0, .int .u8 0, .int .u8 0, .int .u8 0, .int .u8 0, .int .u8 0, .int .u8 0, .int .u8 0, .int .u8 0, .int .u8 0, .int .u8 0, .int .u8 0, .int .u8 0, .int .u8 0, .int .u8 0, .int .u8 0, .int .u8 0, .int .u8 0, .int .u8 0, .int .u8 0, .int .u8 0, .int .u8 0, .int .u8 0, .int .u8 0, .int .u8 0, .int .u8 0, .int .u8 0, .int .u8 0, .int .u8 0, .int .u8 0, .int .u8 0, .int .u64 0, .int .i64 0, .int .i64 0, .int .i64 0, .int .i64 0, .int .u8 0, .int .u8 0, .int .u8 0, .int .u8 0, .int .u8 0, .int .u8 0, .int .u8 0, .int .u8 0, .int .u8 0, .int .u8 0, .int .u8 0, .int .u8 0, .int .u8 0, .int .u8 0, .int .u8 0, .int .u8 0, .int .u8 0, .int .u8 0, .int .u8 0, .int .u8 0, .int .u8 0, .int .u8 0, .int .u8 0, .int .u8 0, .int .u8 0, .int .u8 0, .int .u8 0, .int .u8 0, .int .u8 0, .int .u8 0, .int .u8 0, .int .u8 0, .int .i64 0, .int .i64 0, .int .i64 0, .slice none 0 0, .int .i64 0, .int .i64 0, .int .i64 0, .int .u8 0, .int .u8 0, .int .u8 0, .int .u8 0, .int .u8 0, .int .u8 0, .int .u8 0, .int .u8 0, .int .u8 0, .int .u8 0, .int .u8 0, .int .u8 0, .int .u8 0, .int .u8 0, .int .u8 0, .int .u8 0, .int .u8 0, .int .u8 0, .int .u8 0, .int .u8 0, .int .u8 0, .int .u8 0, .int .u8 0, .int .u8 0, .int .u8 0, .int .u8 0, .int .u8 0, .int .u8 0, .int .u8 0, .int .u8 0, .int .u8 0, .int .u8 0, .int .u64 0, .int .i64 0, .int .i64 0, .int .i64 0, .int .i64 0, .int .u64 0, .int .i64 0, .int .i64 0, .int .u64 0, .slice none 0 0, .int .i64 0, .int .i64 0, .int .i64 0, .int .i64 0, .int .i64 0, .int .i64 0, .int .i64 0, .int .u64 0, .slice none 0 0, .slice none 0 0, .slice none 0 0, .int .i64 0, .int .i64 0, .int .i64 0, .int .i64 0, .int .i64 0, .int .i64 0, .int .u8 0, .int .u8 0, .int .u8 0, .int .u8 0, .int .u8 0, .int .u8 0, .int .u8 0, .int .u8 0, .int .u8 0, .int .u8 0, .int .u8 0, .int .u8 0, .int .u8 0, .int .u8 0, .int .u8 0, .int .u8 0, .int .u8 0, .int .u8 0, .int .u8 0, .int .u8 0, .int .u8 0, .int .u8 0, .int .u8 0, .int .u8 0, .int .u8 0, .int .u8 0, .int .u8 0, .int .u8 0, .int .u8 0, .int .u8 0, .int .u8 0, .int .u8 0, .int .i64 0, .int .i64 0, .int .i64 0, .int .i64 0, .int .i64 0, .int .u8 0, .int .u8 0, .int .u8 0, .int .u8 0, .int .u8 0, .int .u8 0, .int .u8 0, .int .u8 0, .int .u8 0, .int .u8 0, .int .u8 0, .int .u8 0, .int .u8 0, .int .u8 0, .int .u8 0, .int .u8 0, .int .u8 0, .int .u8 0, .int .u8 0, .int .u8 0, .int .u8 0, .int .u8 0, .int .u8 0, .int .u8 0, .int .u8 0, .int .u8 0, .int .u8 0, .int .u8 0, .int .u8 0, .int .u8 0, .int .u8 0, .int .u8 0, .int .u64 0, .int .i64 0, .slice none 0 0, .int .u8 0, .int .u8 0, .int .u8 0, .int .u8 0, .int .u8 0, .int .u8 0, .int .u8 0, .int .u8 0, .int .u8 0, .int .u8 0, .int .u8 0, .int .u8 0, .int .u8 0, .int .u8 0, .int .u8 0, .int .u8 0, .int .u8 0, .int .u8 0, .int .u8 0, .int .u8 0, .int .u8 0, .int .u8 0, .int .u8 0, .int .u8 0, .int .u8 0, .int .u8 0, .int .u8 0, .int .u8 0, .int .u8 0, .int .u8 0, .int .u8 0, .int .u8 0, .int .i64 0, .int .i64 0, .int .i64 0, .int .i64 0, .string ByteArray.empty, .int .i64 0, .int .i64 0, .int .i64 0, .int .u64 0, .slice none 0 0, .slice none 0 0, .slice none 0 0, .slice none 0 0]) (sz := 295) rfl (wanted_none rfl) rfl Try.underlying76 (by kernel_rfl) rfl (by decide) (by decide) (E.d 6 0) (MgR.len Hx65.out) ?_
                    intro u13_7 qrow hm
                    have zl13_7 := qrow.lt
                    have Hx67 := hid qrow
                    have zu13_7 := hm.size
                    have HMu13_7 := hid hm
                    have Cx68 := hid (Cx66.out.goE hm)
                    clear hm Cx66
                    clear act E qrow
                    refine QSeq.go fun act E => ?_
                    refine qc_appS (A := MgR) (e := 67) rfl (wanted_none rfl) rfl (.agg (mg0C 0 0 0).toArray) 960 Try.underlying76 info_Mg (by rfl) (of_decide_eq_true (by kernel_rfl)) (E.d 0 7) (E.d 7 0) ((HMS.out.mod Cx68.out (fun _ _ h => h) (fun _ _ h => h))) (RdS.single (R := (fun k => (R0 k) ∨ (New wj u13_6 k) ∨ (k = u13_6.heap.size))) Hx67.out ((Hx65.out.mod HMu13_7.out (fun _ _ h => h)).widen (by intro k h1; rcases h1 with h1 | h1 <;> first | omega | exact h1.elim | exact Or.inl h1 | exact Or.inr (Or.inl h1) | exact Or.inr (Or.inr (h1)))) (by right; right; rfl)) (by intro k h1 h2; rcases h1 with h1 | h1 | h1 <;> first | omega | (have hb := HBR0.out k h1; omega)) (by rw [hll]; simp only [List.length_cons, List.length_nil]; omega) (by rw [hll, maxLen_val]; simp only [List.length_cons, List.length_nil]; omega) ?_
                    intro ao6 cap6 u13_8 qms hm
                    have Hx69 := hid (qms.widen (R' := (fun k => (New u4_5 wj k) ∨ (New u13_7 u13_8 k))) (E' := (fun k => (R0 k) ∨ (New u4_5 wj k) ∨ (New wj u13_6 k) ∨ (k = u13_6.heap.size))) (fun _ h => h) (by intro k h; (try dsimp only at h ⊢); rcases h with (h | h) | h | h | h <;> first | exact Or.inl h | exact Or.inr (Or.inl h) | exact Or.inr (Or.inr (Or.inl h)) | exact Or.inr (Or.inr (Or.inr h)) | omega))
                    have zu13_8 := hm.size
                    have HMu13_8 := hid hm
                    have Cx70 := hid (Mod.goS (S' := (fun k => (New u4_5 wj k))) Cx68.out hm (fun _ h => h.elim) (by intro k h0 h2; exact h2))
                    clear hm Cx68
                    clear act E qms HMS
                    refine QSeq.pure rfl _ (fun E => ex_assign rfl (E.d 8 0)) ?_
                    have Hx71 := hid ((Hx65.out.mod HMu13_7.out (fun _ _ h => h)).mod HMu13_8.out (by intro k h1 h2; rcases h1 with h1 | h1 <;> first | omega | (have hb := HBR0.out k h1; omega)))
                    have Hx72 := hid (Hx67.out.mod HMu13_8.out (by intro h2; omega))
                    clear Hx65 Hx67 HMu13_7 HMu13_8
                    refine QSeq.nil (t' := [_, _, _, _, _, _, _, _, _, _]) rfl ?_
                    obtain rfl := HA0.out
                    clear HA0 oe8 oe16 oe17
                    simp only [pz, Act.put, sIB, sCZ, sCS]
                    clear HAT4
                    clear Hx71
                    clear Hx72
                    have hq := Hx69.out
                    rw [show ((a.l.take j).map smallP) ++ [smallP m4] = (a.l.take (j + 1)).map smallP from by rw [List.take_succ_eq_append_getElem hc31, List.map_append, HMM.out]; rfl] at hq
                    have HMS2 := Lib.hid hq
                    clear hq
                    clear Hx69
                    go_upto_region 12 with (fail)
                    refine wp_region_U 211 [60, 61, 17] [0, 1, 2] (fun a0 HA0 => ?_)
                    have oe17 := ev HA0 17 rfl
                    refine QSeq.pure rfl _ (fun E => ex_move rfl (E.y 2 oe17)) ?_
                    refine QSeq.pure rfl (.int .i64 ((j + 1 : Nat) : Int)) (fun E => ex_binE rfl (E.d 0 0) rfl (guard_ints _ _ _ _ _ _) (run_add_i _ _ Try.underlying3) (congrArg (Value.int .i64) (i64_eq (b := ((j + 1 : Nat) : Int)) (by omega) (by omega) (by omega)))) ?_
                    refine QSeq.pure rfl _ (fun E => ex_assign rfl (E.d 1 0)) ?_
                    refine QSeq.nil (t' := [_, _, _]) rfl ?_
                    obtain rfl := HA0.out
                    clear HA0 oe17
                    simp only [pz, Act.put, sIB, sCZ, sCS]
                    go_wp2
                    go_roundw
                    case rel => exact ⟨j + 1, by go_num, by omega, by omega, by omega, (HMS2.out).widen (R' := fun k => New u4_5 u13_8 k) (E' := fun k => R0 k ∨ New u4_5 u13_8 k) (by intro k h1; rcases h1 with h1 | h1 <;> (unfold New; omega)) (by intro k h1; rcases h1 with h1 | h1 | h1 | h1 <;> first | exact Or.inl h1 | exact Or.inr (by unfold New; omega)), (L0.out.mod Cx70.out (by intro k h1 h2; have hb := KwlbA1.out k h1; omega) (by intro k h1 h2; have hb := KwlbB1.out k h1; omega)), (L1.out.mod Cx70.out (by intro k h1 h2; have hb := KwlbA2.out k h1; omega) (by intro k h1 h2; have hb := KwlbB2.out k h1; omega)), (L2.out.mod Cx70.out (by intro k h1 h2; have hb := HBR0.out k h1; omega)), (L3.out.mod Cx70.out (by intro k h1 h2; have hb := HBR0.out k h1; omega)), (L4.out.mod Cx70.out (by intro h2; omega)), (L5.out.trans Cx70.out (by intro k h1 h2; first | exact h2 | omega | exact Or.inl h2 | exact Or.inr h2 | exact Or.inr (Or.inl h2) | exact Or.inr (Or.inr h2) | exact (KwlsA1.out _ h2).elim Or.inl (fun h => absurd h.1 (by omega)) | exact (KwlsA2.out _ h2).elim Or.inr (fun h => absurd h.1 (by omega))))⟩
                    case measure => simp [intOf]; omega
                  · obtain rfl : pb8 = false := HB8.out.trans (by rw [Bool.eq_false_iff]; intro h; simp only [Bool.and_eq_true, decide_eq_true_eq] at h; omega)
                    clear hc3
                    obtain ⟨mz, hmz⟩ : ∃ mz, mz = ((a.l.take j).map smallP) := ⟨_, rfl⟩
                    rw [← hmz] at HMS hll
                    have HPM := hid (show ∀ m ∈ mz, cpMg m from fun m hm => by rw [hmz] at hm; obtain ⟨z, -, rfl⟩ := List.mem_map.1 hm; exact smallP_cp z)
                    skip
                    obtain ⟨p, hp⟩ : ∃ p, p = min mz.length (mo - ((l.length : Nat) : Int)).toNat := ⟨_, rfl⟩
                    rw [← hmz]
                    go_upto_region 14 with (fail)
                    refine wp_region_U 211 [71, 72, 73, 74, 75, 76, 77] [0, 1, 2, 3, 4, 5, 6] (fun a0 HA0 => ?_)
                    have oe0 := ev HA0 0 rfl
                    have oe1 := ev HA0 1 rfl
                    have oe16 := ev HA0 16 rfl
                    refine QSeq.pure rfl _ (fun E => ex_move rfl (E.v oe0)) ?_
                    refine QSeq.pure rfl _ (fun E => ex_move rfl (E.v oe16)) ?_
                    refine QSeq.call rfl rfl Try.func8 (SendS (R2 := (fun k => (New u4_5 wj k) ∨ (R0 k))) (ms := mz) (p := p) L0.out ((HMS.out).rd.widen (R' := (fun k => (New u4_5 wj k) ∨ (R0 k))) (by intro k h1; rcases h1 with (h1) | (h1 | h1) <;> first | omega | exact h1.elim | exact Or.inl h1 | exact Or.inr (h1))) (by intro k h1; rcases h1 with h1 | h1 <;> first | omega | (have hb := HBR0.out k h1; omega)) (by intro k h1 h2; rcases h1 with h1 | h1 <;> first | omega | (have hb := HBR0.out k h1; omega) | (have hb := KwlbA1.out k h2; omega) | exact Kwlaa.out k h1 h2 | exact Kwlaa.out k h2 h1 | exact Kwlab.out k h1 h2 | exact Kwlab.out k h2 h1 | exact Kwlba.out k h1 h2 | exact Kwlba.out k h2 h1 | exact Kwl1R.out k h1 h2 | exact Kwl1R.out k h2 h1 | exact Kwl2R.out k h1 h2 | exact Kwl2R.out k h2 h1 | (have hb := HBR0.out k h1; have hb2 := KwlbA1.out k h2; omega)) HPM.out (by omega) (by omega) (by omega) (by omega) (by omega) hp) (fun E => args2 (E.d 0 1) (E.d 1 0)) ?_
                    rintro e u14_2 ⟨rfl, qnt, hm⟩
                    refine ⟨_, rfl, ?_⟩
                    have Hx73 := hid (qnt.widen (R' := (fun k => (A1 k) ∨ (New wj u14_2 k))) (E' := (fun k => (B1 k) ∨ (New wj u14_2 k))) (fun _ h => h) (fun _ h => h))
                    have zu14_2 := hm.size
                    have Cx74 := hid (show Mod (fun k => (A1 k)) wj u14_2 from hm)
                    clear hm
                    clear qnt L0
                    refine QSeq.pure rfl _ (fun E => ex_move rfl (E.v oe1)) ?_
                    refine QSeq.pure rfl _ (fun E => ex_move rfl (E.v oe16)) ?_
                    refine QSeq.call rfl rfl Try.func32 (RSendS (R2 := (fun k => (New u4_5 wj k) ∨ (R0 k))) (ms := mz) (p := p) (L1.out.mod Cx74.out (by intro k h1 h2; first | omega | (have hb := KwlbA2.out k h1; omega) | (have hb := KwlbA1.out k h2; omega) | exact Kwlaa.out k h1 h2 | exact Kwlaa.out k h2 h1 | exact Kwlab.out k h1 h2 | exact Kwlab.out k h2 h1 | exact Kwlba.out k h1 h2 | exact Kwlba.out k h2 h1 | exact Kwl1R.out k h1 h2 | exact Kwl1R.out k h2 h1 | exact Kwl2R.out k h1 h2 | exact Kwl2R.out k h2 h1 | (have hb := KwlbA2.out k h1; have hb2 := KwlbA1.out k h2; omega)) (by intro k h1 h2; first | omega | (have hb := KwlbB2.out k h1; omega) | (have hb := KwlbA1.out k h2; omega) | exact Kwlaa.out k h1 h2 | exact Kwlaa.out k h2 h1 | exact Kwlab.out k h1 h2 | exact Kwlab.out k h2 h1 | exact Kwlba.out k h1 h2 | exact Kwlba.out k h2 h1 | exact Kwl1R.out k h1 h2 | exact Kwl1R.out k h2 h1 | exact Kwl2R.out k h1 h2 | exact Kwl2R.out k h2 h1 | (have hb := KwlbB2.out k h1; have hb2 := KwlbA1.out k h2; omega))) (((HMS.out.mod Cx74.out (by intro k h1 h2; have hb := KwlbA1.out k h2; omega) (by intro k h1 h2; rcases h1 with h1 | h1 <;> first | omega | (have hb := HBR0.out k h1; omega) | (have hb := KwlbA1.out k h2; omega) | exact Kwlaa.out k h1 h2 | exact Kwlaa.out k h2 h1 | exact Kwlab.out k h1 h2 | exact Kwlab.out k h2 h1 | exact Kwlba.out k h1 h2 | exact Kwlba.out k h2 h1 | exact Kwl1R.out k h1 h2 | exact Kwl1R.out k h2 h1 | exact Kwl2R.out k h1 h2 | exact Kwl2R.out k h2 h1 | (have hb := HBR0.out k h1; have hb2 := KwlbA1.out k h2; omega)))).rd.widen (R' := (fun k => (New u4_5 wj k) ∨ (R0 k))) (by intro k h1; rcases h1 with (h1) | (h1 | h1) <;> first | omega | exact h1.elim | exact Or.inl h1 | exact Or.inr (h1))) (by intro k h1; rcases h1 with h1 | h1 <;> first | omega | (have hb := HBR0.out k h1; omega)) (by intro k h1 h2; rcases h1 with h1 | h1 <;> first | omega | (have hb := HBR0.out k h1; omega) | (have hb := KwlbA2.out k h2; omega) | exact Kwlaa.out k h1 h2 | exact Kwlaa.out k h2 h1 | exact Kwlab.out k h1 h2 | exact Kwlab.out k h2 h1 | exact Kwlba.out k h1 h2 | exact Kwlba.out k h2 h1 | exact Kwl1R.out k h1 h2 | exact Kwl1R.out k h2 h1 | exact Kwl2R.out k h1 h2 | exact Kwl2R.out k h2 h1 | (have hb := HBR0.out k h1; have hb2 := KwlbA2.out k h2; omega)) (by omega) (by omega) (by omega) (by omega) (by omega) hp) (fun E => args2 (E.d 3 1) (E.d 4 0)) ?_
                    rintro e u14_5 ⟨rfl, qrn, hm⟩
                    refine ⟨_, rfl, ?_⟩
                    have Hx75 := hid (qrn.widen (R' := (fun k => (A2 k) ∨ (New u14_2 u14_5 k))) (E' := (fun k => (B2 k) ∨ (New u4_5 wj k) ∨ (R0 k) ∨ (New u14_2 u14_5 k))) (fun _ h => h) (by intro k h1; simp only [or_assoc] at h1 ⊢; exact h1))
                    have zu14_5 := hm.size
                    have HMu14_5 := hid hm
                    have Cx76 := hid (Mod.goS (S' := (fun k => (A1 k) ∨ (A2 k))) Cx74.out hm (fun _ h => Or.inl h) (by intro k h0 h2; exact Or.inr (h2)))
                    clear hm Cx74
                    clear qrn L1
                    refine QSeq.pure rfl (.bool false) (fun E => ex_binE rfl (E.d 2 3) (E.d 5 0) (guard_ints _ _ _ _ _ _) (run_neq_i _ _ _ Try.underlying3) (congrArg Value.bool (ne_ff rfl))) ?_
                    have Hx77 := hid (Hx73.out.mod HMu14_5.out (by intro k h1 h2; rcases h1 with h1 | h1 <;> first | omega | (have hb := KwlbA1.out k h1; omega) | (have hb := KwlbA2.out k h2; omega) | exact Kwlaa.out k h1 h2 | exact Kwlaa.out k h2 h1 | exact Kwlab.out k h1 h2 | exact Kwlab.out k h2 h1 | exact Kwlba.out k h1 h2 | exact Kwlba.out k h2 h1 | exact Kwl1R.out k h1 h2 | exact Kwl1R.out k h2 h1 | exact Kwl2R.out k h1 h2 | exact Kwl2R.out k h2 h1 | (have hb := KwlbA1.out k h1; have hb2 := KwlbA2.out k h2; omega)) (by intro k h1 h2; rcases h1 with h1 | h1 <;> first | omega | (have hb := KwlbB1.out k h1; omega) | (have hb := KwlbA2.out k h2; omega) | exact Kwlaa.out k h1 h2 | exact Kwlaa.out k h2 h1 | exact Kwlab.out k h1 h2 | exact Kwlab.out k h2 h1 | exact Kwlba.out k h1 h2 | exact Kwlba.out k h2 h1 | exact Kwl1R.out k h1 h2 | exact Kwl1R.out k h2 h1 | exact Kwl2R.out k h1 h2 | exact Kwl2R.out k h2 h1 | (have hb := KwlbB1.out k h1; have hb2 := KwlbA2.out k h2; omega)))
                    clear Hx73 HMu14_5
                    refine QSeq.nil (t' := [_, _, _, _, _, _, _]) rfl ?_
                    obtain rfl := HA0.out
                    clear HA0 oe0 oe1 oe16
                    simp only [pz, Act.put, sIB, sCZ, sCS]
                    obtain ⟨s1, hs1⟩ : ∃ s1, s1 = sn + p := ⟨_, rfl⟩
                    obtain ⟨o1, ho1⟩ : ∃ o1, o1 + p = lo + mz.length := ⟨lo + mz.length - p, by omega⟩
                    have hle : (l ++ mz.take p).length = l.length + p := by rw [List.length_append, List.length_take]; omega
                    have hq := Hx77.out
                    rw [show ((sn : Nat) : Int) + ((p : Nat) : Int) = ((s1 : Nat) : Int) by omega, show ((lo : Nat) : Int) + ((mz.length : Nat) : Int) - ((p : Nat) : Int) = ((o1 : Nat) : Int) by omega] at hq
                    have HQnt := Lib.hid hq
                    clear hq
                    clear Hx77
                    have hq := Hx75.out
                    rw [show ((sn : Nat) : Int) + ((p : Nat) : Int) = ((s1 : Nat) : Int) by omega, show ((lo : Nat) : Int) + ((mz.length : Nat) : Int) - ((p : Nat) : Int) = ((o1 : Nat) : Int) by omega] at hq
                    have HQrn := Lib.hid hq
                    clear hq
                    clear Hx75
                    clear L4
                    clear L3
                    clear HMS
                    go_wp2_with fail
                    go_meet
                    case rel => exact ⟨l ++ mz.take p, s1, o1, (fun k => (A1 k) ∨ (New wj u14_2 k)), (fun k => (B1 k) ∨ (New wj u14_2 k)), (fun k => (A2 k) ∨ (New u14_2 u14_5 k)), (fun k => (B2 k) ∨ (New u4_5 wj k) ∨ (R0 k) ∨ (New u14_2 u14_5 k)), (by omega), (fun m hm => (List.mem_append.1 hm).elim (KwlP.out m) (fun h => HPM.out m (List.mem_of_mem_take h))), by omega, by omega, by omega, HQnt.out, HQrn.out, ⟨(by intro k h1 h2; rcases h1 with h1 | h1 <;> rcases h2 with h2 | h2 <;> first | omega | (have hb := KwlbA1.out k h1; omega) | (have hb := KwlbA2.out k h2; omega) | exact Kwlaa.out k h1 h2 | exact Kwlaa.out k h2 h1 | exact Kwlab.out k h1 h2 | exact Kwlab.out k h2 h1 | exact Kwlba.out k h1 h2 | exact Kwlba.out k h2 h1 | exact Kwl1R.out k h1 h2 | exact Kwl1R.out k h2 h1 | exact Kwl2R.out k h1 h2 | exact Kwl2R.out k h2 h1 | (have hb := KwlbA1.out k h1; have hb2 := KwlbA2.out k h2; omega)), (by intro k h1 h2; rcases h1 with h1 | h1 <;> rcases h2 with h2 | h2 | h2 | h2 <;> first | omega | (have hb := KwlbA1.out k h1; omega) | (have hb := KwlbB2.out k h2; omega) | (have hb := HBR0.out k h2; omega) | exact Kwlaa.out k h1 h2 | exact Kwlaa.out k h2 h1 | exact Kwlab.out k h1 h2 | exact Kwlab.out k h2 h1 | exact Kwlba.out k h1 h2 | exact Kwlba.out k h2 h1 | exact Kwl1R.out k h1 h2 | exact Kwl1R.out k h2 h1 | exact Kwl2R.out k h1 h2 | exact Kwl2R.out k h2 h1 | (have hb := KwlbA1.out k h1; have hb2 := KwlbB2.out k h2; omega) | (have hb := KwlbA1.out k h1; have hb2 := HBR0.out k h2; omega)), (by intro k h1 h2; rcases h1 with h1 | h1 <;> rcases h2 with h2 | h2 <;> first | omega | (have hb := KwlbA2.out k h1; omega) | (have hb := KwlbB1.out k h2; omega) | exact Kwlaa.out k h1 h2 | exact Kwlaa.out k h2 h1 | exact Kwlab.out k h1 h2 | exact Kwlab.out k h2 h1 | exact Kwlba.out k h1 h2 | exact Kwlba.out k h2 h1 | exact Kwl1R.out k h1 h2 | exact Kwl1R.out k h2 h1 | exact Kwl2R.out k h1 h2 | exact Kwl2R.out k h2 h1 | (have hb := KwlbA2.out k h1; have hb2 := KwlbB1.out k h2; omega))⟩, (by intro k h1; (try dsimp only at h1); rcases h1 with h1 | h1 <;> first | exact (KwlsA1.out k h1).elim Or.inl (fun h => Or.inr (by unfold New at h ⊢; omega)) | exact Or.inr (by unfold New; omega)), (by intro k h1; (try dsimp only at h1); rcases h1 with h1 | h1 <;> first | exact (KwlsB1.out k h1).elim Or.inl (fun h => Or.inr (by unfold New at h ⊢; omega)) | exact Or.inr (by unfold New; omega)), (by intro k h1; (try dsimp only at h1); rcases h1 with h1 | h1 <;> first | exact (KwlsA2.out k h1).elim Or.inl (fun h => Or.inr (by unfold New at h ⊢; omega)) | exact Or.inr (by unfold New; omega)), (by intro k h1; (try dsimp only at h1); rcases h1 with h1 | h1 | h1 | h1 <;> first | exact (KwlsB2.out k h1).elim Or.inl (fun h => h.elim (fun h => Or.inr (Or.inl h)) (fun h => Or.inr (Or.inr (by unfold New at h ⊢; omega)))) | exact Or.inr (Or.inl h1) | exact Or.inr (Or.inr (by unfold New; omega))), (L2.out.mod Cx76.out (by intro k h1 h2; rcases h2 with h2 | h2 <;> first | omega | (have hb := HBR0.out k h1; omega) | (have hb := KwlbA1.out k h2; omega) | (have hb := KwlbA2.out k h2; omega) | exact Kwlaa.out k h1 h2 | exact Kwlaa.out k h2 h1 | exact Kwlab.out k h1 h2 | exact Kwlab.out k h2 h1 | exact Kwlba.out k h1 h2 | exact Kwlba.out k h2 h1 | exact Kwl1R.out k h1 h2 | exact Kwl1R.out k h2 h1 | exact Kwl2R.out k h1 h2 | exact Kwl2R.out k h2 h1 | (have hb := HBR0.out k h1; have hb2 := KwlbA1.out k h2; omega) | (have hb := HBR0.out k h1; have hb2 := KwlbA2.out k h2; omega))), (L5.out.trans Cx76.out (by intro k h1 h2; rcases h2 with h2 | h2 <;> first | exact h2 | omega | exact Or.inl h2 | exact Or.inr h2 | exact Or.inr (Or.inl h2) | exact Or.inr (Or.inr h2) | (have hb := KwlbA1.out k h2; omega) | (have hb := KwlbA2.out k h2; omega) | exact (KwlsA1.out _ h2).elim Or.inl (fun h => absurd h.1 (by omega)) | exact (KwlsA2.out _ h2).elim Or.inr (fun h => absurd h.1 (by omega))))⟩
        case rest =>
          clear Kwln Kwlr Kwlac Kwlm HML Hx3 KwlsA1 KwlsB1 KwlsA2 KwlsB2 KwlbA1 KwlbB1 KwlbA2 KwlbB2 Kwl1R Kwl2R Kwlaa Kwlab Kwlba KwlP hl2 hsn2 hlo2
          obtain ⟨l3, sn3, lo3, A3, B3, A4, B4, hl2, hP, hsn2, hlo2, hz, hn, hr, hd, hsA1, hsB1, hsA2, hsB2, hac, hm⟩ := hcut
          obtain ⟨wq, rfl⟩ : ∃ x, x = wc := ⟨_, rfl⟩
          have KwqbA3 := hid (show ∀ k, A3 k → k < wq.heap.size from fun k hk => by rcases hsA1 k hk with h | h; (have hb := HBO1.out k h; omega); exact h.2)
          have KwqbB3 := hid (show ∀ k, B3 k → k < wq.heap.size from fun k hk => by rcases hsB1 k hk with h | h; (have hb := HBT1.out k h; omega); exact h.2)
          have KwqbA4 := hid (show ∀ k, A4 k → k < wq.heap.size from fun k hk => by rcases hsA2 k hk with h | h; (have hb := HBO2.out k h; omega); exact h.2)
          have KwqbB4 := hid (show ∀ k, B4 k → k < wq.heap.size from fun k hk => by rcases hsB2 k hk with h | h | h; (have hb := HBT2.out k h; omega); (have hb := HBR0.out k h; omega); exact h.2)
          have Kwq1R := hid (show ∀ k, A3 k → R0 k → False from fun k hk h0 => by rcases hsA1 k hk with h | h; exact H1R.out k h h0; (have hb := HBR0.out k h0; have := h.1; omega))
          have Kwq2R := hid (show ∀ k, A4 k → R0 k → False from fun k hk h0 => by rcases hsA2 k hk with h | h; exact H2R.out k h h0; (have hb := HBR0.out k h0; have := h.1; omega))
          have Kwqaa := hid hd.aa
          have Kwqab := hid hd.ab
          have Kwqba := hid hd.ba
          have Kwqn := Lib.hid hn
          have Kwqr := Lib.hid hr
          have Kwqac := Lib.hid hac
          have Kwqm := Lib.hid hm
          have KwqsA1 := Lib.hid hsA1
          have KwqsB1 := Lib.hid hsB1
          have KwqsA2 := Lib.hid hsA2
          have KwqsB2 := Lib.hid hsB2
          have KwqP := Lib.hid hP
          clear hP hn hr hd hac hm hsA1 hsB1 hsA2 hsB2
          obtain ⟨aor, capr, hry, hrO, hrl⟩ := (Kwqr.out).cell
          have hylr := hry.lt
          have HRYr := Lib.hid hry
          have HRLr := Lib.hid hrl
          clear hry hrO hrl
          go_upto_region 28 with (fail)
          generalize ha0 : Act.mk _ _ = a0
          have oe0 : a0.eval (.tmp 0) = .pointer (some ⟨x, 0, none⟩) := by rw [← ha0]; rfl
          have oe1 : a0.eval (.tmp 1) = .pointer (some ⟨y, 0, none⟩) := by rw [← ha0]; rfl
          have hsz0 : a0.tmps.size = 211 := by rw [← ha0]; rfl
          have HA0 := hid ha0
          clear ha0
          refine wp_region_Q0 211 hsz0 [156, 157, 158, 159, 160, 161, 162, 163, 164, 165, 166, 167, 168, 169, 170, 171, 172, 173, 174, 175, 176, 177, 178, 179, 180, 181] [qi (.pointer (some ⟨x, 0, none⟩)), qi (.int .i64 ((l3.length : Nat) : Int)), qi (.pointer (some ⟨y, 0, none⟩)), qi (.pointer (some ⟨y, 0, none⟩)), qi (.pointer (some ⟨y, 3, none⟩)), qi (.slice aor l3.length capr), qi (.int .i64 l3.length), qi (.bool false), qi (.bool false), qi (.pointer (some ⟨x, 0, none⟩)), qi (.int .i64 ((sn3 : Nat) : Int)), qi (.pointer (some ⟨y, 0, none⟩)), qi (.pointer (some ⟨y, 0, none⟩)), qi (.pointer (some ⟨y, 1, none⟩)), qi (.int .i64 ((sn3 : Nat) : Int)), qi (.bool false), qi (.bool false), qi (.bool false), qi (.pointer (some ⟨x, 0, none⟩)), qi (.int .i64 ((lo3 : Nat) : Int)), qi (.pointer (some ⟨y, 0, none⟩)), qi (.pointer (some ⟨y, 0, none⟩)), qi (.pointer (some ⟨y, 2, none⟩)), qi (.int .i64 ((lo3 : Nat) : Int)), qi (.bool false), qi (.bool false)] ⟨qi_stable, qi_stable, qi_stable, qi_stable, qi_stable, qi_stable, qi_stable, qi_stable, qi_stable, qi_stable, qi_stable, qi_stable, qi_stable, qi_stable, qi_stable, qi_stable, qi_stable, qi_stable, qi_stable, qi_stable, qi_stable, qi_stable, qi_stable, qi_stable, qi_stable, qi_stable, trivial⟩ [] ⟨?_, ?_, ?_, ?_, ?_, ?_, ?_, ?_, ?_, ?_, ?_, ?_, ?_, ?_, ?_, ?_, ?_, ?_, ?_, ?_, ?_, ?_, ?_, ?_, ?_, ?_, trivial⟩ ?_
          · exact stq (fun E => ex_move rfl (E.v oe0))
          · refine stepq_env rfl rfl rfl fun _ _ _ _ _ hm _ _ _ hd _ _ => ?_
            have h0 := hd ⟨0, .data⟩ (by simp) rfl _ rfl
            refine qe_callF (args := #[.pointer (some ⟨x, 0, none⟩)]) rfl (wanted_none rfl) rfl Try.func11 (args1 h0) (LenS (Kwqn.out.mod hm.old (by intro k h1 h2; have hb := KwqbA3.out k h1; omega) (by intro k h1 h2; have hb := KwqbB3.out k h1; omega))) ?_
            rintro e w2 ⟨rfl, rfl⟩
            exact ⟨_, rfl, QE.refl, rfl⟩
          · exact stq (fun E => ex_move rfl (E.v oe1))
          · exact stq (fun E => ex_nil rfl (E.d 2))
          · exact stq (fun E => ex_field rfl Try.underlying82 rfl (by kernel_rfl) (E.d 3))
          · exact stq (fun E => ex_load1 rfl Try.underlying76 rfl (E.d 4) (Cs.lit1 (HRYr.out.mod E.m.old (by intro h2; omega)) rfl))
          · exact stq (fun E => ex_lenS rfl (E.d 5) Try.underlying76)
          · exact stq (fun E => ex_binE rfl (E.d 1) (E.d 6) (guard_ints _ _ _ _ _ _) (run_neq_i _ _ _ Try.underlying3) (congrArg Value.bool (ne_ff rfl)))
          · exact stq (fun E => ex_move rfl (E.d 7))
          · refine stepq_env rfl rfl rfl fun _ _ _ _ _ _ _ hout hsz hd _ _ => ?_
            have h8 := hd ⟨8, .guard⟩ (by simp) rfl _ rfl
            refine qe_run rfl ((wanted_of rfl rfl (hsz 164 (by decide)) h8).trans rfl) (ex_move rfl ((hout 0 (by decide)).trans oe0)) QE.refl ?_
            rfl
          · refine stepq_env rfl rfl rfl fun _ _ _ _ _ hm _ _ hsz hd _ _ => ?_
            have h8 := hd ⟨8, .chain⟩ (by simp) rfl _ rfl
            have h9 := hd ⟨9, .data⟩ (by simp) rfl _ rfl
            refine qe_callF (args := #[.pointer (some ⟨x, 0, none⟩)]) rfl ((wanted_of rfl rfl (hsz 164 (by decide)) h8).trans rfl) rfl Try.func12 (args1 h9) (SentS (Kwqn.out.mod hm.old (by intro k h1 h2; have hb := KwqbA3.out k h1; omega) (by intro k h1 h2; have hb := KwqbB3.out k h1; omega))) ?_
            rintro e w2 ⟨rfl, rfl⟩
            exact ⟨_, rfl, QE.refl, rfl⟩
          · refine stepq_env rfl rfl rfl fun _ _ _ _ _ _ _ hout hsz hd _ _ => ?_
            have h8 := hd ⟨8, .guard⟩ (by simp) rfl _ rfl
            refine qe_run rfl ((wanted_of rfl rfl (hsz 164 (by decide)) h8).trans rfl) (ex_move rfl ((hout 1 (by decide)).trans oe1)) QE.refl ?_
            rfl
          · refine stepq_env rfl rfl rfl fun _ _ _ _ _ _ _ _ hsz hd _ _ => ?_
            have h8 := hd ⟨8, .guard⟩ (by simp) rfl _ rfl
            have h11 := hd ⟨11, .data⟩ (by simp) rfl _ rfl
            refine qe_run rfl ((wanted_of rfl rfl (hsz 164 (by decide)) h8).trans rfl) (ex_nil rfl h11) QE.refl ?_
            rfl
          · refine stepq_env rfl rfl rfl fun _ _ _ _ _ _ _ _ hsz hd _ _ => ?_
            have h8 := hd ⟨8, .guard⟩ (by simp) rfl _ rfl
            have h12 := hd ⟨12, .data⟩ (by simp) rfl _ rfl
            refine qe_run rfl ((wanted_of rfl rfl (hsz 164 (by decide)) h8).trans rfl) (ex_field rfl Try.underlying82 rfl (by kernel_rfl) h12) QE.refl ?_
            rfl
          · refine stepq_env rfl rfl rfl fun _ _ _ _ _ hm _ _ hsz hd _ _ => ?_
            have h8 := hd ⟨8, .guard⟩ (by simp) rfl _ rfl
            have h13 := hd ⟨13, .data⟩ (by simp) rfl _ rfl
            refine qe_run rfl ((wanted_of rfl rfl (hsz 164 (by decide)) h8).trans rfl) (ex_load1 rfl Try.underlying3 rfl h13 (Cs.lit1 (HRYr.out.mod hm.old (by intro h2; omega)) rfl)) QE.refl ?_
            rfl
          · refine stepq_env rfl rfl rfl fun _ _ _ _ _ _ _ _ hsz hd _ _ => ?_
            have h8 := hd ⟨8, .guard⟩ (by simp) rfl _ rfl
            have h10 := hd ⟨10, .data⟩ (by simp) rfl _ rfl
            have h14 := hd ⟨14, .data⟩ (by simp) rfl _ rfl
            refine qe_run rfl ((wanted_of rfl rfl (hsz 164 (by decide)) h8).trans rfl) (ex_binE rfl h10 h14 (guard_ints _ _ _ _ _ _) (run_neq_i _ _ _ Try.underlying3) (congrArg Value.bool (ne_ff rfl))) QE.refl ?_
            rfl
          · exact stq (fun E => ex_pick rfl (E.d 8) rfl (E.d 15))
          · exact stq (fun E => ex_move rfl (E.d 16))
          · refine stepq_env rfl rfl rfl fun _ _ _ _ _ _ _ hout hsz hd _ _ => ?_
            have h17 := hd ⟨17, .guard⟩ (by simp) rfl _ rfl
            refine qe_run rfl ((wanted_of rfl rfl (hsz 173 (by decide)) h17).trans rfl) (ex_move rfl ((hout 0 (by decide)).trans oe0)) QE.refl ?_
            rfl
          · refine stepq_env rfl rfl rfl fun _ _ _ _ _ hm _ _ hsz hd _ _ => ?_
            have h17 := hd ⟨17, .chain⟩ (by simp) rfl _ rfl
            have h18 := hd ⟨18, .data⟩ (by simp) rfl _ rfl
            refine qe_callF (args := #[.pointer (some ⟨x, 0, none⟩)]) rfl ((wanted_of rfl rfl (hsz 173 (by decide)) h17).trans rfl) rfl Try.func17 (args1 h18) (LostS (Kwqn.out.mod hm.old (by intro k h1 h2; have hb := KwqbA3.out k h1; omega) (by intro k h1 h2; have hb := KwqbB3.out k h1; omega))) ?_
            rintro e w2 ⟨rfl, rfl⟩
            exact ⟨_, rfl, QE.refl, rfl⟩
          · refine stepq_env rfl rfl rfl fun _ _ _ _ _ _ _ hout hsz hd _ _ => ?_
            have h17 := hd ⟨17, .guard⟩ (by simp) rfl _ rfl
            refine qe_run rfl ((wanted_of rfl rfl (hsz 173 (by decide)) h17).trans rfl) (ex_move rfl ((hout 1 (by decide)).trans oe1)) QE.refl ?_
            rfl
          · refine stepq_env rfl rfl rfl fun _ _ _ _ _ _ _ _ hsz hd _ _ => ?_
            have h17 := hd ⟨17, .guard⟩ (by simp) rfl _ rfl
            have h20 := hd ⟨20, .data⟩ (by simp) rfl _ rfl
            refine qe_run rfl ((wanted_of rfl rfl (hsz 173 (by decide)) h17).trans rfl) (ex_nil rfl h20) QE.refl ?_
            rfl
          · refine stepq_env rfl rfl rfl fun _ _ _ _ _ _ _ _ hsz hd _ _ => ?_
            have h17 := hd ⟨17, .guard⟩ (by simp) rfl _ rfl
            have h21 := hd ⟨21, .data⟩ (by simp) rfl _ rfl
            refine qe_run rfl ((wanted_of rfl rfl (hsz 173 (by decide)) h17).trans rfl) (ex_field rfl Try.underlying82 rfl (by kernel_rfl) h21) QE.refl ?_
            rfl
          · refine stepq_env rfl rfl rfl fun _ _ _ _ _ hm _ _ hsz hd _ _ => ?_
            have h17 := hd ⟨17, .guard⟩ (by simp) rfl _ rfl
            have h22 := hd ⟨22, .data⟩ (by simp) rfl _ rfl
            refine qe_run rfl ((wanted_of rfl rfl (hsz 173 (by decide)) h17).trans rfl) (ex_load1 rfl Try.underlying3 rfl h22 (Cs.lit1 (HRYr.out.mod hm.old (by intro h2; omega)) rfl)) QE.refl ?_
            rfl
          · refine stepq_env rfl rfl rfl fun _ _ _ _ _ _ _ _ hsz hd _ _ => ?_
            have h17 := hd ⟨17, .guard⟩ (by simp) rfl _ rfl
            have h19 := hd ⟨19, .data⟩ (by simp) rfl _ rfl
            have h23 := hd ⟨23, .data⟩ (by simp) rfl _ rfl
            refine qe_run rfl ((wanted_of rfl rfl (hsz 173 (by decide)) h17).trans rfl) (ex_binE rfl h19 h23 (guard_ints _ _ _ _ _ _) (run_neq_i _ _ _ Try.underlying3) (congrArg Value.bool (ne_ff rfl))) QE.refl ?_
            rfl
          · exact stq (fun E => ex_pick rfl (E.d 17) rfl (E.d 24))
          intro u28_0 hr
          have zu28_0 := hr.size
          have Cx78 := hid (hr.new (S := (fun _ => False)))
          clear hr
          refine QChain.nil fun vs hl hzz hrows hne => ?_
          obtain ⟨Z, hYZ, hZb, hV⟩ := hzz
          have f0 := fvi hV hl 0
          have f1 := fvi hV hl 1
          have f2 := fvi hV hl 2
          have f6 := fvi hV hl 6
          have f8 := fvi hV hl 8
          have f9 := fvi hV hl 9
          have f10 := fvi hV hl 10
          have f11 := fvi hV hl 11
          have f17 := fvi hV hl 17
          have f18 := fvi hV hl 18
          have f19 := fvi hV hl 19
          have f20 := fvi hV hl 20
          have f25 := fvi hV hl 25
          rw [show vs = [gw vs 0, gw vs 1, gw vs 2, gw vs 3, gw vs 4, gw vs 5, gw vs 6, gw vs 7, gw vs 8, gw vs 9, gw vs 10, gw vs 11, gw vs 12, gw vs 13, gw vs 14, gw vs 15, gw vs 16, gw vs 17, gw vs 18, gw vs 19, gw vs 20, gw vs 21, gw vs 22, gw vs 23, gw vs 24, gw vs 25] from (gw_eta hl).trans rfl]
          have ha0 := HA0.out
          subst ha0
          clear HA0 hV hYZ hZb hsz0 hrows hne oe0 oe1
          simp only [putAll, Act.put, sIB, sCZ, sCS, f0, f1, f2, f6, f8, f9, f10, f11, f17, f18, f19, f20, f25]
          clear hl f0 f1 f2 f6 f8 f9 f10 f11 f17 f18 f19 f20 f25
          go_upto_region 30 with (fail)
          refine wp_region_U 211 [182, 183, 184, 185, 186, 187] [0, 1, 2, 3, 4, 5] (fun a0 HA0 => ?_)
          have oe1 := ev HA0 1 rfl
          refine QSeq.pure rfl _ (fun E => ex_move rfl (E.v oe1)) ?_
          refine QSeq.pure rfl (.pointer (some ⟨y, 0, none⟩)) (fun E => ex_nil rfl (E.d 0 0)) ?_
          refine QSeq.pure rfl (.pointer (some ⟨y, 3, none⟩)) (fun E => ex_field rfl Try.underlying82 rfl (by kernel_rfl) (E.d 1 0)) ?_
          refine QSeq.pure rfl _ (fun E => ex_load1 rfl Try.underlying76 rfl (E.d 2 0) (Cs.lit1 (HRYr.out.mod Cx78.out (fun h => h)) rfl)) ?_
          refine QSeq.pure rfl (.int .i64 l3.length) (fun E => ex_lenS rfl (E.d 3 0) Try.underlying76) ?_
          refine QSeq.pure rfl (.int .i64 0) (fun E => ex_move rfl rfl) ?_
          refine QSeq.nil (t' := [_, _, _, _, _, _]) rfl ?_
          obtain rfl := HA0.out
          clear HA0 oe1
          simp only [pz, Act.put, sIB, sCZ, sCS]
          go_wp2
          go_loopw [187] (fun tj wr => ∃ (j : Nat), tj = .int .i64 ((j : Nat) : Int) ∧ j ≤ l3.length ∧ u28_0.heap.size ≤ wr.heap.size ∧ NtS A3 B3 wr x mo l3 ((sn3 : Nat) : Int) ((lo3 : Nat) : Int) ∧ RnS A4 B4 wr y mo l3 ((sn3 : Nat) : Int) ((lo3 : Nat) : Int) ∧ RdS AnR R0 wr (.slice (some ⟨g0, o0, none⟩) acs.length cap) acs ∧ Cs wr y #[.int .i64 mo, .int .i64 ((sn3 : Nat) : Int), .int .i64 ((lo3 : Nat) : Int), Value.slice aor l3.length capr] 82 ∧ RdS MgR (fun k => (A4 k) ∨ (B4 k)) wr (.slice aor l3.length capr) l3 ∧ Mod (fun k => O1 k ∨ O2 k) w wr) (fun tj _ => l3.length - (intOf tj).toNat)
          case atStart => exact ⟨0, rfl, Nat.zero_le _, Nat.le_refl _, (Kwqn.out.mod Cx78.out (fun _ _ h => h) (fun _ _ h => h)), (Kwqr.out.mod Cx78.out (fun _ _ h => h) (fun _ _ h => h)), (Kwqac.out.mod Cx78.out (fun _ _ h => h)), (HRYr.out.mod Cx78.out (fun h => h)), (HRLr.out.mod Cx78.out (fun _ _ h => h)), (Kwqm.out.trans Cx78.out (fun _ _ h => h.elim))⟩
          case round =>
            clear Kwqn Kwqr Kwqac Kwqm HRYr HRLr
            obtain ⟨j, rfl, hj, hz5, k0, k1, k2, k3, k4, k5⟩ := hrel
            obtain ⟨wk, rfl⟩ : ∃ x, x = wr := ⟨_, rfl⟩
            have J0 := Lib.hid k0
            have J1 := Lib.hid k1
            have J2 := Lib.hid k2
            have J3 := Lib.hid k3
            have J4 := Lib.hid k4
            have J5 := Lib.hid k5
            clear k0 k1 k2 k3 k4 k5
            by_cases hlt : j < l3.length
            · skip
              go_upto_region 31 with (fail)
              refine wp_region_U 211 [188] [0] (fun a0 HA0 => ?_)
              have oe186 := ev HA0 186 rfl
              have oe187 := ev HA0 187 rfl
              refine QSeq.pure rfl (.bool true) (fun E => ex_binE rfl (E.v oe187) (E.v oe186) (guard_ints _ _ _ _ _ _) (run_lss_i _ _ _ Try.underlying3) (congrArg Value.bool (decide_eq_true (by omega)))) ?_
              refine QSeq.nil (t' := [_]) rfl ?_
              obtain rfl := HA0.out
              clear HA0 oe186 oe187
              simp only [pz, Act.put, sIB, sCZ, sCS]
              go_upto_region 32 with (fail)
              refine wp_region_U 211 [189, 18] [0, 1] (fun a0 HA0 => ?_)
              have oe187 := ev HA0 187 rfl
              refine QSeq.pure rfl _ (fun E => ex_move rfl (E.v oe187)) ?_
              refine QSeq.pure rfl _ (fun E => ex_assign rfl (E.d 0 0)) ?_
              refine QSeq.nil (t' := [_, _]) rfl ?_
              obtain rfl := HA0.out
              clear HA0 oe187
              simp only [pz, Act.put, sIB, sCZ, sCS]
              go_upto_region 33 with (fail)
              refine wp_region_U 211 [191, 192, 193, 190, 194, 195, 19, 218, 20] [0, 1, 2, 3, 4, 5, 6, 7, 8] (fun a0 HA0 => ?_)
              have oe0 := ev HA0 0 rfl
              have oe18 := ev HA0 18 rfl
              refine QSeq.pure rfl _ (fun E => ex_move rfl (E.v oe0)) ?_
              refine QSeq.pure rfl _ (fun E => ex_move rfl (E.v oe18)) ?_
              refine QSeq.call rfl rfl Try.func14 (LookS (k := j) J0.out hlt KwqP.out) (fun E => args2 (E.d 0 1) (E.d 1 0)) ?_
              rintro e u33_2 ⟨ca, rfl, qa, hm⟩
              have HLa := hid (MgR.len qa)
              have HOa := hid (MgR.one qa)
              refine ⟨_, rfl, ?_⟩
              have Hx79 := hid qa
              have zu33_2 := hm.size
              have Cx80 := hid (show Mod (fun _ => False) wk u33_2 from hm)
              clear hm
              clear qa
              refine QSeq.pure rfl _ (fun E => ex_move rfl (E.d 2 0)) ?_
              refine QSeq.pure rfl (.agg ca.toArray) (fun E => ex_extract rfl (E.d 3 0) rfl) ?_
              refine QSeq.pure rfl (.bool true) (fun E => ex_extract rfl (E.d 3 1) rfl) ?_
              refine QSeq.go fun act E => ?_
              refine qc_alloc rfl (wanted_none rfl) rfl (z := (mg0C 0 0 0)) (by kernel_rfl) ?_
              intro u33_6 qb19 hm
              have zl33_6 := qb19.lt
              have Hx81 := hid qb19
              have zu33_6 := hm.size
              have HMu33_6 := hid hm
              have Cx82 := hid (Cx80.out.goE hm)
              clear hm Cx80
              clear act E qb19
              refine QSeq.go fun act E => ?_
              have hlz : (ca).length = List.length ((mg0C 0 0 0) : List Value) := (by rw [HLa.out]; kernel_rfl)
              refine qc_store rfl (wanted_none rfl) rfl Hx81.out (off := 0) (vs := ca) (by rw [hlz]; kernel_rfl) HOa.out (by rw [hlz]; exact Nat.le_of_eq (Nat.zero_add _)) (E.d 6 0) (ec (E.d 4 2)) ?_
              intro u33_7 qc0 hm
              have qb19 := qc0.eqv (b := (ca : List Value).toArray) (lay_whole (((mg0C 0 0 0) : List Value).toArray) _ (by rw [hlz]; rfl))
              clear qc0 hlz
              have Hx83 := hid qb19
              have zu33_7 := hm.size
              have HMu33_7 := hid hm
              have Cx84 := hid (Mod.goS (S' := (fun _ => False)) Cx82.out hm (fun _ h => h) (by intro k h0 h2; omega))
              clear hm Cx82
              clear act E qb19 Hx81
              refine QSeq.pure rfl _ (fun E => ex_assign rfl (E.d 5 2)) ?_
              have Hx85 := hid ((Hx79.out.mod HMu33_6.out (fun _ _ h => h)).mod HMu33_7.out (by intro k h1 h2; omega))
              clear Hx79 HMu33_6 HMu33_7
              refine QSeq.nil (t' := [_, _, _, _, _, _, _, _, _]) rfl ?_
              obtain rfl := HA0.out
              clear HA0 oe0 oe18
              simp only [pz, Act.put, sIB, sCZ, sCS, List.set_nil]
              obtain ⟨gr, orr, ce, ear, hrg, hrd, hcs⟩ := (J4.out.mod Cx84.out (fun _ _ h => h)).at hlt
              have HEA := Lib.hid ear
              have HLe := hid (MgR.len hrd)
              have HRE := hid (show MgR.rd (fun k => (A4 k) ∨ (B4 k)) u33_7 ce l3[j] from hrd)
              have HRA := hid (show CellsAt (fun k => (A4 k) ∨ (B4 k)) u33_7 gr (orr + j * 295) ce from ⟨hrg, hcs⟩)
              clear hrg hrd hcs ear
              have ear := HEA.out
              subst ear
              clear HEA
              go_upto_region 34 with (fail)
              generalize ha0 : Act.mk _ _ = a0
              have oe1 : a0.eval (.tmp 1) = .pointer (some ⟨y, 0, none⟩) := by rw [← ha0]; rfl
              have oe18 : a0.eval (.tmp 18) = .int .i64 ((j : Nat) : Int) := by rw [← ha0]; rfl
              have oe19 : a0.eval (.tmp 19) = .pointer (some ⟨u33_2.heap.size, 0, none⟩) := by rw [← ha0]; rfl
              have oe20 : a0.eval (.tmp 20) = .bool true := by rw [← ha0]; rfl
              have hsz0 : a0.tmps.size = 211 := by rw [← ha0]; rfl
              have HA0 := hid ha0
              clear ha0
              refine wp_region_Q0 211 hsz0 [196, 197, 198, 199, 200, 201, 202, 203, 204, 205, 206, 207, 208, 209] [qi (.bool true), qi (.bool false), qi (.bool false), qi (.agg ca.toArray), qi (.pointer (some ⟨y, 0, none⟩)), qi (.pointer (some ⟨y, 0, none⟩)), qi (.pointer (some ⟨y, 3, none⟩)), qi (.slice (some ⟨gr, orr, none⟩) l3.length capr), qi (.int .i64 ((j : Nat) : Int)), qi (.pointer (some ⟨gr, orr + j * 295, none⟩)), qi (.agg ce.toArray), qi (.bool true), qi (.bool false), qi (.bool false)] ⟨qi_stable, qi_stable, qi_stable, qi_stable, qi_stable, qi_stable, qi_stable, qi_stable, qi_stable, qi_stable, qi_stable, qi_stable, qi_stable, qi_stable, trivial⟩ [] ⟨?_, ?_, ?_, ?_, ?_, ?_, ?_, ?_, ?_, ?_, ?_, ?_, ?_, ?_, trivial⟩ ?_
              · exact stq (fun E => ex_move rfl (E.v oe20))
              · exact stq (fun E => ex_not rfl (E.d 0))
              · exact stq (fun E => ex_move rfl (E.d 1))
              · refine stepq_env rfl rfl rfl fun _ _ _ _ _ hm _ hout hsz hd _ _ => ?_
                have h2 := hd ⟨2, .guard⟩ (by simp) rfl _ rfl
                refine qe_run rfl ((wanted_of rfl rfl (hsz 198 (by decide)) h2).trans rfl) (ex_loadA rfl Try.underlying67 rfl (off := 0) (cs := ca) (by rw [HLa.out]; kernel_rfl) ((hout 19 (by decide)).trans oe19) (Cs.whole (Hx83.out.mod hm.old (by intro h2; omega)))) QE.refl ?_
                rfl
              · refine stepq_env rfl rfl rfl fun _ _ _ _ _ _ _ hout hsz hd _ _ => ?_
                have h2 := hd ⟨2, .guard⟩ (by simp) rfl _ rfl
                refine qe_run rfl ((wanted_of rfl rfl (hsz 198 (by decide)) h2).trans rfl) (ex_move rfl ((hout 1 (by decide)).trans oe1)) QE.refl ?_
                rfl
              · refine stepq_env rfl rfl rfl fun _ _ _ _ _ _ _ _ hsz hd _ _ => ?_
                have h2 := hd ⟨2, .guard⟩ (by simp) rfl _ rfl
                have h4 := hd ⟨4, .data⟩ (by simp) rfl _ rfl
                refine qe_run rfl ((wanted_of rfl rfl (hsz 198 (by decide)) h2).trans rfl) (ex_nil rfl h4) QE.refl ?_
                rfl
              · refine stepq_env rfl rfl rfl fun _ _ _ _ _ _ _ _ hsz hd _ _ => ?_
                have h2 := hd ⟨2, .guard⟩ (by simp) rfl _ rfl
                have h5 := hd ⟨5, .data⟩ (by simp) rfl _ rfl
                refine qe_run rfl ((wanted_of rfl rfl (hsz 198 (by decide)) h2).trans rfl) (ex_field rfl Try.underlying82 rfl (by kernel_rfl) h5) QE.refl ?_
                rfl
              · refine stepq_env rfl rfl rfl fun _ _ _ _ _ hm _ _ hsz hd _ _ => ?_
                have h2 := hd ⟨2, .guard⟩ (by simp) rfl _ rfl
                have h6 := hd ⟨6, .data⟩ (by simp) rfl _ rfl
                refine qe_run rfl ((wanted_of rfl rfl (hsz 198 (by decide)) h2).trans rfl) (ex_load1 rfl Try.underlying76 rfl h6 (Cs.lit1 ((J3.out.mod Cx84.out (fun h => h)).mod hm.old (by intro h2; omega)) rfl)) QE.refl ?_
                rfl
              · refine stepq_env rfl rfl rfl fun _ _ _ _ _ _ _ hout hsz hd _ _ => ?_
                have h2 := hd ⟨2, .guard⟩ (by simp) rfl _ rfl
                refine qe_run rfl ((wanted_of rfl rfl (hsz 198 (by decide)) h2).trans rfl) (ex_move rfl ((hout 18 (by decide)).trans oe18)) QE.refl ?_
                rfl
              · refine stepq_env rfl rfl rfl fun _ _ _ _ _ _ _ _ hsz hd _ _ => ?_
                have h2 := hd ⟨2, .guard⟩ (by simp) rfl _ rfl
                have h7 := hd ⟨7, .data⟩ (by simp) rfl _ rfl
                have h8 := hd ⟨8, .data⟩ (by simp) rfl _ rfl
                refine qe_run rfl ((wanted_of rfl rfl (hsz 198 (by decide)) h2).trans rfl) (ex_idxS (i := j) (s := 295) rfl Try.underlying76 (by kernel_rfl) h7 h8 (by omega)) QE.refl ?_
                rfl
              · refine stepq_env rfl rfl rfl fun _ _ _ _ _ hm _ _ hsz hd _ _ => ?_
                have h2 := hd ⟨2, .guard⟩ (by simp) rfl _ rfl
                have h9 := hd ⟨9, .data⟩ (by simp) rfl _ rfl
                refine qe_run rfl ((wanted_of rfl rfl (hsz 198 (by decide)) h2).trans rfl) (ex_loadA rfl Try.underlying67 rfl (off := orr + j * 295) (cs := ce) (by rw [HLe.out]; kernel_rfl) h9 (fun j u hu => ((HRA.out.mod hm.old (by intro k h1 h2; rcases h1 with h1 | h1 <;> first | omega | (have hb := KwqbA4.out k h1; omega) | (have hb := KwqbB4.out k h1; omega)))).2 j u hu)) QE.refl ?_
                rfl
              · refine stepq_env rfl rfl rfl fun _ _ _ _ _ hm hm0 _ hsz hd _ _ => ?_
                have h2 := hd ⟨2, .chain⟩ (by simp) rfl _ rfl
                have h3 := hd ⟨3, .data⟩ (by simp) rfl _ rfl
                have h10 := hd ⟨10, .data⟩ (by simp) rfl _ rfl
                refine qe_callF (args := #[.agg ca.toArray, .agg ce.toArray]) rfl ((wanted_of rfl rfl (hsz 198 (by decide)) h2).trans rfl) rfl Try.func15 (args2 h3 h10) (Eqs.same Eq_Mg (Hx85.out.mod hm.old (by intro k h1 h2; omega)) (HRE.out.mod hm.old (by intro k h1 h2; rcases h1 with h1 | h1 <;> first | omega | (have hb := KwqbA4.out k h1; omega) | (have hb := KwqbB4.out k h1; omega))) (by intro k h1; have hzz := hm0.size; first | omega) (by intro k h1; have hzz := hm0.size; rcases h1 with h1 | h1 <;> first | omega | (have hb := KwqbA4.out k h1; omega) | (have hb := KwqbB4.out k h1; omega))) ?_
                rintro e w2 ⟨rfl, hm2⟩
                exact ⟨_, rfl, QE.still hm2, rfl⟩
              · refine stepq_env rfl rfl rfl fun _ _ _ _ _ _ _ _ hsz hd _ _ => ?_
                have h2 := hd ⟨2, .guard⟩ (by simp) rfl _ rfl
                have h11 := hd ⟨11, .data⟩ (by simp) rfl _ rfl
                refine qe_run rfl ((wanted_of rfl rfl (hsz 198 (by decide)) h2).trans rfl) (ex_not rfl h11) QE.refl ?_
                rfl
              · exact stq (fun E => ex_pick rfl (E.d 2) rfl (E.d 12))
              intro u34_0 hr
              have zu34_0 := hr.size
              have Cx86 := hid (hr.new (S := (fun _ => False)))
              clear hr
              refine QChain.nil fun vs hl hzz hrows hne => ?_
              obtain ⟨Z, hYZ, hZb, hV⟩ := hzz
              have f0 := fvi hV hl 0
              have f2 := fvi hV hl 2
              have f4 := fvi hV hl 4
              have f8 := fvi hV hl 8
              have f11 := fvi hV hl 11
              have f13 := fvi hV hl 13
              rw [show vs = [gw vs 0, gw vs 1, gw vs 2, gw vs 3, gw vs 4, gw vs 5, gw vs 6, gw vs 7, gw vs 8, gw vs 9, gw vs 10, gw vs 11, gw vs 12, gw vs 13] from (gw_eta hl).trans rfl]
              have ha0 := HA0.out
              subst ha0
              clear HA0 hV hYZ hZb hsz0 hrows hne oe1 oe18 oe19 oe20
              simp only [putAll, Act.put, sIB, sCZ, sCS, f0, f2, f4, f8, f11, f13]
              clear hl f0 f2 f4 f8 f11 f13
              clear Hx85
              clear Hx83
              clear HRE
              clear HRA
              go_upto_region 36 with (fail)
              refine wp_region_U 211 [210, 187] [0, 1] (fun a0 HA0 => ?_)
              have oe187 := ev HA0 187 rfl
              refine QSeq.pure rfl (.int .i64 ((j + 1 : Nat) : Int)) (fun E => ex_binE rfl (E.y 1 oe187) rfl (guard_ints _ _ _ _ _ _) (run_add_i _ _ Try.underlying3) (congrArg (Value.int .i64) (i64_eq (b := ((j + 1 : Nat) : Int)) (by omega) (by omega) (by omega)))) ?_
              refine QSeq.pure rfl _ (fun E => ex_move rfl (E.d 0 0)) ?_
              refine QSeq.nil (t' := [_, _]) rfl ?_
              obtain rfl := HA0.out
              clear HA0 oe187
              simp only [pz, Act.put, sIB, sCZ, sCS]
              go_wp2
              go_roundw
              case rel => exact ⟨j + 1, by go_num, by omega, by omega, ((J0.out.mod Cx84.out (fun _ _ h => h) (fun _ _ h => h)).mod Cx86.out (fun _ _ h => h) (fun _ _ h => h)), ((J1.out.mod Cx84.out (fun _ _ h => h) (fun _ _ h => h)).mod Cx86.out (fun _ _ h => h) (fun _ _ h => h)), ((J2.out.mod Cx84.out (fun _ _ h => h)).mod Cx86.out (fun _ _ h => h)), ((J3.out.mod Cx84.out (fun h => h)).mod Cx86.out (fun h => h)), ((J4.out.mod Cx84.out (fun _ _ h => h)).mod Cx86.out (fun _ _ h => h)), ((J5.out.trans Cx84.out (fun _ _ h => h.elim)).trans Cx86.out (fun _ _ h => h.elim))⟩
              case measure => simp [intOf]; omega
            · skip
              go_upto_region 31 with (fail)
              refine wp_region_U 211 [188] [0] (fun a0 HA0 => ?_)
              have oe186 := ev HA0 186 rfl
              have oe187 := ev HA0 187 rfl
              refine QSeq.pure rfl (.bool false) (fun E => ex_binE rfl (E.v oe187) (E.v oe186) (guard_ints _ _ _ _ _ _) (run_lss_i _ _ _ Try.underlying3) (congrArg Value.bool (decide_eq_false (by omega)))) ?_
              refine QSeq.nil (t' := [_]) rfl ?_
              obtain rfl := HA0.out
              clear HA0 oe186 oe187
              simp only [pz, Act.put, sIB, sCZ, sCS]
              clear J3
              clear J4
              go_upto_region 3 with (fail)
              refine wp_region_U 211 [29, 30, 7] [0, 1, 2] (fun a0 HA0 => ?_)
              have oe7 := ev HA0 7 rfl
              refine QSeq.pure rfl _ (fun E => ex_move rfl (E.y 2 oe7)) ?_
              refine QSeq.pure rfl (.int .i64 ((i + 1 : Nat) : Int)) (fun E => ex_binE rfl (E.d 0 0) rfl (guard_ints _ _ _ _ _ _) (run_add_i _ _ Try.underlying3) (congrArg (Value.int .i64) (i64_eq (b := ((i + 1 : Nat) : Int)) (by omega) (by omega) (by omega)))) ?_
              refine QSeq.pure rfl _ (fun E => ex_assign rfl (E.d 1 0)) ?_
              refine QSeq.nil (t' := [_, _, _]) rfl ?_
              obtain rfl := HA0.out
              clear HA0 oe7
              simp only [pz, Act.put, sIB, sCZ, sCS]
              go_wp2
              go_roundw
              case rel => exact ⟨i + 1, l3, sn3, lo3, (fun k => (A3 k)), (fun k => (B3 k)), (fun k => (A4 k)), (fun k => (B4 k)), rfl, by omega, hl2, KwqP.out, by omega, by omega, by omega, J0.out, J1.out, ⟨(by intro k h1 h2; first | omega | (have hb := KwqbA3.out k h1; omega) | (have hb := KwqbA4.out k h2; omega) | exact Kwqaa.out k h1 h2 | exact Kwqaa.out k h2 h1 | exact Kwqab.out k h1 h2 | exact Kwqab.out k h2 h1 | exact Kwqba.out k h1 h2 | exact Kwqba.out k h2 h1 | exact Kwq1R.out k h1 h2 | exact Kwq1R.out k h2 h1 | exact Kwq2R.out k h1 h2 | exact Kwq2R.out k h2 h1 | (have hb := KwqbA3.out k h1; have hb2 := KwqbA4.out k h2; omega)), (by intro k h1 h2; first | omega | (have hb := KwqbA3.out k h1; omega) | (have hb := KwqbB4.out k h2; omega) | exact Kwqaa.out k h1 h2 | exact Kwqaa.out k h2 h1 | exact Kwqab.out k h1 h2 | exact Kwqab.out k h2 h1 | exact Kwqba.out k h1 h2 | exact Kwqba.out k h2 h1 | exact Kwq1R.out k h1 h2 | exact Kwq1R.out k h2 h1 | exact Kwq2R.out k h1 h2 | exact Kwq2R.out k h2 h1 | (have hb := KwqbA3.out k h1; have hb2 := KwqbB4.out k h2; omega)), (by intro k h1 h2; first | omega | (have hb := KwqbA4.out k h1; omega) | (have hb := KwqbB3.out k h2; omega) | exact Kwqaa.out k h1 h2 | exact Kwqaa.out k h2 h1 | exact Kwqab.out k h1 h2 | exact Kwqab.out k h2 h1 | exact Kwqba.out k h1 h2 | exact Kwqba.out k h2 h1 | exact Kwq1R.out k h1 h2 | exact Kwq1R.out k h2 h1 | exact Kwq2R.out k h1 h2 | exact Kwq2R.out k h2 h1 | (have hb := KwqbA4.out k h1; have hb2 := KwqbB3.out k h2; omega))⟩, (by intro k h1; (try dsimp only at h1); first | exact (KwqsA1.out k h1).elim Or.inl (fun h => Or.inr (by unfold New at h ⊢; omega)) | exact Or.inr (by unfold New; omega)), (by intro k h1; (try dsimp only at h1); first | exact (KwqsB1.out k h1).elim Or.inl (fun h => Or.inr (by unfold New at h ⊢; omega)) | exact Or.inr (by unfold New; omega)), (by intro k h1; (try dsimp only at h1); first | exact (KwqsA2.out k h1).elim Or.inl (fun h => Or.inr (by unfold New at h ⊢; omega)) | exact Or.inr (by unfold New; omega)), (by intro k h1; (try dsimp only at h1); first | exact (KwqsB2.out k h1).elim Or.inl (fun h => h.elim (fun h => Or.inr (Or.inl h)) (fun h => Or.inr (Or.inr (by unfold New at h ⊢; omega)))) | exact Or.inr (Or.inl h1) | exact Or.inr (Or.inr (by unfold New; omega))), J2.out, J5.out⟩
              case measure => simp [intOf]; omega
    · obtain rfl : pb7 = false := HB7.out.trans (by rw [Bool.eq_false_iff]; intro h; simp only [Bool.and_eq_true, decide_eq_true_eq] at h; omega)
      go_upto_region 37 with (fail)
      refine wp_region_U 211 [6] [0] (fun a0 HA0 => ?_)
      refine QSeq.pure rfl (.bool true) (fun E => ex_assign rfl rfl) ?_
      refine QSeq.nil (t' := [_]) rfl ?_
      obtain rfl := HA0.out
      clear HA0
      simp only [pz, Act.put, sIB, sCZ, sCS]
      go_wp2
      go_ret
      exact ⟨rfl, l, sn, lo, A1, B1, A2, B2, hl2, KwlP.out, by omega, by omega, Kwln.out, Kwlr.out, ⟨Kwlaa.out, Kwlab.out, Kwlba.out⟩, KwlsA1.out, KwlsB1.out, KwlsA2.out, KwlsB2.out, Kwlm.out⟩
end Go.Proofs.Ytekbmpjdombedaa
