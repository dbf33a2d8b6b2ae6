/- WireBack: for every four readings the law returns true. No condition. -/
import Derived.Test.YtknpapcfhnhheaaHb8
import Derived.Deep.RegionWith
import Derived.ProofKit
import Derived.OpenShut
import Derived.ChangeOld
/- gavelkeep: comparisons of tombstones, batches. -/
set_option maxRecDepth 100000
set_option linter.unusedVariables false
namespace Go.Proofs.Ytknpapcfhnhheaa
open Go Go.RowKit Go.Gv

set_option maxHeartbeats 4000000 in
theorem EqL_Tb : EqsL TbR 88 := by
  intro R R2 v v2 l m w hs ht hB hB2
  obtain ⟨ao, cap, rfl⟩ := hs.shape
  obtain ⟨bo, bcap, rfl⟩ := ht.shape
  have hlm : l.length ≤ maxLen := hs.bd
  rw [maxLen_val] at hlm
  have HS := Lib.hid hs
  have HT := Lib.hid ht
  have HBR := Lib.hid hB
  have HBT := Lib.hid hB2
  clear hs ht hB hB2
  go_enter Try.func88, Try.ntmps88
  go_upto_region 1 with (fail)
  have HM0 := hid (Mod.refl (fun _ => False) w)
  by_cases hl : l.length = m.length
  rotate_left
  · skip
    go_upto_region 1 with (fail)
    generalize ha0 : Act.mk _ _ = a0
    have oe0 : a0.eval (.tmp 0) = .slice ao l.length cap := by rw [← ha0]; rfl
    have oe1 : a0.eval (.tmp 1) = .slice bo m.length bcap := by rw [← ha0]; rfl
    have hsz0 : a0.tmps.size = 42 := by rw [← ha0]; rfl
    have HA0 := hid ha0
    clear ha0
    refine wp_region_S 42 hsz0 [6, 7, 8, 9, 10] [0, 1, 2, 3, 4] ?_
    refine QSeq.pure rfl (.slice ao l.length cap) (fun E => ex_move rfl (E.v oe0)) ?_
    refine QSeq.pure rfl (.int .i64 l.length) (fun E => ex_lenS rfl (E.d 0 0) Try.underlying58) ?_
    refine QSeq.pure rfl (.slice bo m.length bcap) (fun E => ex_move rfl (E.v oe1)) ?_
    refine QSeq.pure rfl (.int .i64 m.length) (fun E => ex_lenS rfl (E.d 2 0) Try.underlying58) ?_
    refine QSeq.pure rfl (.bool true) (fun E => ex_binE rfl (E.d 1 2) (E.d 3 0) (guard_ints _ _ _ _ _ _) (run_neq_i _ _ _ Try.underlying3) (congrArg Value.bool (ne_tt (by omega)))) ?_
    refine QSeq.nil (t' := [_, _, _, _, _]) rfl ?_
    have ha0 := HA0.out
    subst ha0
    clear HA0 hsz0 oe0 oe1
    simp only [putAll, Act.put, List.setIfInBounds_toArray, List.set_cons_zero, List.set_cons_succ]
    go_upto_region 2 with (fail)
    generalize ha0 : Act.mk _ _ = a0
    have hsz0 : a0.tmps.size = 42 := by rw [← ha0]; rfl
    have HA0 := hid ha0
    clear ha0
    refine wp_region_S 42 hsz0 [4] [0] ?_
    refine QSeq.pure rfl (.bool false) (fun E => ex_assign rfl rfl) ?_
    refine QSeq.nil (t' := [_]) rfl ?_
    have ha0 := HA0.out
    subst ha0
    clear HA0 hsz0
    simp only [putAll, Act.put, List.setIfInBounds_toArray, List.set_cons_zero, List.set_cons_succ]
    go_wp2
    go_ret
    exact ⟨ret_bool (eqb_ne fun e => hl (by rw [e])).symm, HM0.out⟩
  · skip
    go_upto_region 1 with (fail)
    generalize ha0 : Act.mk _ _ = a0
    have oe0 : a0.eval (.tmp 0) = .slice ao l.length cap := by rw [← ha0]; rfl
    have oe1 : a0.eval (.tmp 1) = .slice bo m.length bcap := by rw [← ha0]; rfl
    have hsz0 : a0.tmps.size = 42 := by rw [← ha0]; rfl
    have HA0 := hid ha0
    clear ha0
    refine wp_region_S 42 hsz0 [6, 7, 8, 9, 10] [0, 1, 2, 3, 4] ?_
    refine QSeq.pure rfl (.slice ao l.length cap) (fun E => ex_move rfl (E.v oe0)) ?_
    refine QSeq.pure rfl (.int .i64 l.length) (fun E => ex_lenS rfl (E.d 0 0) Try.underlying58) ?_
    refine QSeq.pure rfl (.slice bo m.length bcap) (fun E => ex_move rfl (E.v oe1)) ?_
    refine QSeq.pure rfl (.int .i64 m.length) (fun E => ex_lenS rfl (E.d 2 0) Try.underlying58) ?_
    refine QSeq.pure rfl (.bool false) (fun E => ex_binE rfl (E.d 1 2) (E.d 3 0) (guard_ints _ _ _ _ _ _) (run_neq_i _ _ _ Try.underlying3) (congrArg Value.bool (ne_ff (by omega)))) ?_
    refine QSeq.nil (t' := [_, _, _, _, _]) rfl ?_
    have ha0 := HA0.out
    subst ha0
    clear HA0 hsz0 oe0 oe1
    simp only [putAll, Act.put, List.setIfInBounds_toArray, List.set_cons_zero, List.set_cons_succ]
    go_upto_region 3 with (fail)
    generalize ha0 : Act.mk _ _ = a0
    have oe0 : a0.eval (.tmp 0) = .slice ao l.length cap := by rw [← ha0]; rfl
    have hsz0 : a0.tmps.size = 42 := by rw [← ha0]; rfl
    have HA0 := hid ha0
    clear ha0
    refine wp_region_S 42 hsz0 [11, 12, 13] [0, 1, 2] ?_
    refine QSeq.pure rfl (.slice ao l.length cap) (fun E => ex_move rfl (E.v oe0)) ?_
    refine QSeq.pure rfl (.int .i64 l.length) (fun E => ex_lenS rfl (E.d 0 0) Try.underlying58) ?_
    refine QSeq.pure rfl (.int .i64 0) (fun E => ex_move rfl rfl) ?_
    refine QSeq.nil (t' := [_, _, _]) rfl ?_
    have ha0 := HA0.out
    subst ha0
    clear HA0 hsz0 oe0
    simp only [putAll, Act.put, List.setIfInBounds_toArray, List.set_cons_zero, List.set_cons_succ]
    have HLE := Lib.hid hl
    clear hl
    go_wp2
    go_loopw [13, 5] (fun ti t5 wr => ∃ k : Nat, ti = .int .i64 (k : Int) ∧ k ≤ l.length ∧ l.take k = m.take k ∧ w.heap.size ≤ wr.heap.size ∧ RdS TbR R wr (.slice ao l.length cap) l ∧ RdS TbR R2 wr (.slice bo m.length bcap) m ∧ Mod (fun _ => False) w wr) (fun ti t5 _ => l.length - (intOf ti).toNat)
    case atStart => exact ⟨0, rfl, Nat.zero_le _, rfl, Nat.le_refl _, HS.out, HT.out, HM0.out⟩
    case round =>
      obtain ⟨k, rfl, hk, htk, hz, hs, ht, hm⟩ := hrel
      obtain ⟨wl, rfl⟩ : ∃ x, x = wr := ⟨_, rfl⟩
      have HS2 := Lib.hid hs
      have HT2 := Lib.hid ht
      have HML := Lib.hid hm
      have HTK := Lib.hid htk
      clear hs ht hm htk HS HT HM0
      by_cases hlt : k < l.length
      · have hlt2 : k < m.length := by have := HLE.out; omega
        go_upto_region 4 with (fail)
        generalize ha0 : Act.mk _ _ = a0
        have oe12 : a0.eval (.tmp 12) = .int .i64 (l.length : Int) := by rw [← ha0]; rfl
        have oe13 : a0.eval (.tmp 13) = .int .i64 ((k : Nat) : Int) := by rw [← ha0]; rfl
        have hsz0 : a0.tmps.size = 42 := by rw [← ha0]; rfl
        have HA0 := hid ha0
        clear ha0
        refine wp_region_S 42 hsz0 [14] [0] ?_
        refine QSeq.pure rfl (.bool true) (fun E => ex_binE rfl (E.v oe13) (E.v oe12) (guard_ints _ _ _ _ _ _) (run_lss_i _ _ _ Try.underlying3) (congrArg Value.bool (decide_eq_true (by omega)))) ?_
        refine QSeq.nil (t' := [_]) rfl ?_
        have ha0 := HA0.out
        subst ha0
        clear HA0 hsz0 oe12 oe13
        simp only [putAll, Act.put, List.setIfInBounds_toArray, List.set_cons_zero, List.set_cons_succ]
        go_upto_region 5 with (fail)
        generalize ha0 : Act.mk _ _ = a0
        have oe13 : a0.eval (.tmp 13) = .int .i64 ((k : Nat) : Int) := by rw [← ha0]; rfl
        have hsz0 : a0.tmps.size = 42 := by rw [← ha0]; rfl
        have HA0 := hid ha0
        clear ha0
        refine wp_region_S 42 hsz0 [15, 5] [0, 1] ?_
        refine QSeq.pure rfl (.int .i64 ((k : Nat) : Int)) (fun E => ex_move rfl (E.v oe13)) ?_
        refine QSeq.pure rfl (.int .i64 ((k : Nat) : Int)) (fun E => ex_assign rfl (E.d 0 0)) ?_
        refine QSeq.nil (t' := [_, _]) rfl ?_
        have ha0 := HA0.out
        subst ha0
        clear HA0 hsz0 oe13
        simp only [putAll, Act.put, List.setIfInBounds_toArray, List.set_cons_zero, List.set_cons_succ]
        have hat := HS2.out.at hlt
        obtain ⟨g1, o1, c1, eao, hrg, hrd, hcs⟩ := hat
        subst eao
        obtain ⟨x, hx⟩ : ∃ z, z = l[k] := ⟨_, rfl⟩
        rw [← hx] at hrd
        have HX1 := Lib.hid hx
        have hcl : c1.length = 2 := TbR.len hrd
        have HCL1 := Lib.hid hcl
        have HAT1 := hid (show CellsAt R wl g1 (o1 + k * 2) c1 from ⟨hrg, hcs⟩)
        have HRD1 := Lib.hid hrd
        clear hcl hcs hrd hrg hx
        have hat := HT2.out.at hlt2
        obtain ⟨g2, o2, c2, eao, hrg, hrd, hcs⟩ := hat
        subst eao
        obtain ⟨y, hy⟩ : ∃ z, z = m[k] := ⟨_, rfl⟩
        rw [← hy] at hrd
        have HX2 := Lib.hid hy
        have hcl : c2.length = 2 := TbR.len hrd
        have HCL2 := Lib.hid hcl
        have HAT2 := hid (show CellsAt R2 wl g2 (o2 + k * 2) c2 from ⟨hrg, hcs⟩)
        have HRD2 := Lib.hid hrd
        clear hcl hcs hrd hrg hy
        obtain ⟨b, hb⟩ : ∃ b, b = eqb x y := ⟨_, rfl⟩
        have HB := Lib.hid hb
        clear hb
        obtain ⟨v_l1, rfl, hok1, hsl1⟩ := HRD1.out
        obtain ⟨al1, kl1, rfl⟩ := hsl1.shape
        have HSL1 := Lib.hid hsl1
        clear hok1 hsl1
        clear HRD1
        obtain ⟨v_l2, rfl, hok2, hsl2⟩ := HRD2.out
        obtain ⟨al2, kl2, rfl⟩ := hsl2.shape
        have HSL2 := Lib.hid hsl2
        clear hok2 hsl2
        clear HRD2
        go_upto_region 6 with (fail)
        generalize ha0 : Act.mk _ _ = a0
        have oe0 : a0.eval (.tmp 0) = .slice (some ⟨g1, o1, none⟩) l.length cap := by rw [← ha0]; rfl
        have oe1 : a0.eval (.tmp 1) = .slice (some ⟨g2, o2, none⟩) m.length bcap := by rw [← ha0]; rfl
        have oe5 : a0.eval (.tmp 5) = .int .i64 ((k : Nat) : Int) := by rw [← ha0]; rfl
        have hsz0 : a0.tmps.size = 42 := by rw [← ha0]; rfl
        have HA0 := hid ha0
        clear ha0
        refine wp_region_Q0 42 hsz0 [16, 17, 18, 19, 20, 21, 22, 23, 24, 25, 26, 27, 28, 29, 30, 31, 32, 33, 34, 35, 36, 37, 38, 39, 40] [qi (.slice (some ⟨g1, o1, none⟩) l.length cap), qi (.int .i64 ((k : Nat) : Int)), qi (.pointer (some ⟨g1, o1 + k * 2, none⟩)), qi (.pointer (some ⟨g1, o1 + k * 2, none⟩)), qi (.int .i64 x.ix), qi (.slice (some ⟨g2, o2, none⟩) m.length bcap), qi (.int .i64 ((k : Nat) : Int)), qi (.pointer (some ⟨g2, o2 + k * 2, none⟩)), qi (.pointer (some ⟨g2, o2 + k * 2, none⟩)), qi (.int .i64 y.ix), qi (.bool (!(x.ix == y.ix))), qi (.bool (!(x.ix == y.ix))), qc (!(!(x.ix == y.ix))) (qi (.slice (some ⟨g1, o1, none⟩) l.length cap)), qc (!(!(x.ix == y.ix))) (qi (.int .i64 ((k : Nat) : Int))), qc (!(!(x.ix == y.ix))) (qi (.pointer (some ⟨g1, o1 + k * 2, none⟩))), qc (!(!(x.ix == y.ix))) (qi (.pointer (some ⟨g1, o1 + k * 2 + 1, none⟩))), qc (!(!(x.ix == y.ix))) (qi (.slice al1 x.l.length kl1)), qc (!(!(x.ix == y.ix))) (qi (.slice (some ⟨g2, o2, none⟩) m.length bcap)), qc (!(!(x.ix == y.ix))) (qi (.int .i64 ((k : Nat) : Int))), qc (!(!(x.ix == y.ix))) (qi (.pointer (some ⟨g2, o2 + k * 2, none⟩))), qc (!(!(x.ix == y.ix))) (qi (.pointer (some ⟨g2, o2 + k * 2 + 1, none⟩))), qc (!(!(x.ix == y.ix))) (qi (.slice al2 y.l.length kl2)), qc (!(!(x.ix == y.ix))) (qi (.bool (eqb x.l y.l))), qc (!(!(x.ix == y.ix))) (qi (.bool (!(eqb x.l y.l)))), qi (.bool ((!(x.ix == y.ix)) || (!(eqb x.l y.l))))] ⟨qi_stable, qi_stable, qi_stable, qi_stable, qi_stable, qi_stable, qi_stable, qi_stable, qi_stable, qi_stable, qi_stable, qi_stable, (qc_stable qi_stable), (qc_stable qi_stable), (qc_stable qi_stable), (qc_stable qi_stable), (qc_stable qi_stable), (qc_stable qi_stable), (qc_stable qi_stable), (qc_stable qi_stable), (qc_stable qi_stable), (qc_stable qi_stable), (qc_stable qi_stable), (qc_stable qi_stable), qi_stable, trivial⟩ [] ⟨?_, ?_, ?_, ?_, ?_, ?_, ?_, ?_, ?_, ?_, ?_, ?_, ?_, ?_, ?_, ?_, ?_, ?_, ?_, ?_, ?_, ?_, ?_, ?_, ?_, trivial⟩ ?_
        · exact stq (fun E => ex_move rfl (E.v oe0))
        · exact stq (fun E => ex_move rfl (E.v oe5))
        · exact stq (fun E => ex_idxS (i := k) (s := 2) rfl Try.underlying58 (by kernel_rfl) (E.d 0) (E.d 1) (by first | exact hlt | exact hlt2))
        · exact stq (fun E => ex_field rfl Try.underlying90 rfl (by kernel_rfl) (E.d 2))
        · exact stq (fun E => ex_load1 rfl Try.underlying3 rfl (E.d 3) ((HAT1.out.mod E.m.old (by intro k h1 h2; have hb := HBR.out k h1; omega)).2 0 _ rfl))
        · exact stq (fun E => ex_move rfl (E.v oe1))
        · exact stq (fun E => ex_move rfl (E.v oe5))
        · exact stq (fun E => ex_idxS (i := k) (s := 2) rfl Try.underlying58 (by kernel_rfl) (E.d 5) (E.d 6) (by first | exact hlt | exact hlt2))
        · exact stq (fun E => ex_field rfl Try.underlying90 rfl (by kernel_rfl) (E.d 7))
        · exact stq (fun E => ex_load1 rfl Try.underlying3 rfl (E.d 8) ((HAT2.out.mod E.m.old (by intro k h1 h2; have hb := HBT.out k h1; omega)).2 0 _ rfl))
        · exact stq (fun E => ex_bin rfl (E.d 4) (E.d 9) (guard_ints _ _ _ _ _ _) (run_neq_i _ _ _ Try.underlying3))
        · exact stq (fun E => ex_move rfl (E.d 10))
        · refine stepq_env rfl rfl rfl fun _ _ _ _ _ _ _ hout hsz hd _ _ => ?_
          have h11 := hd ⟨11, .guard⟩ (by simp) rfl _ rfl
          refine qe_guard rfl (b := (!(!(x.ix == y.ix)))) ((wanted_of rfl rfl (hsz 27 (by decide)) h11).trans (by simp)) rfl (fun hb l' hl' => ?_)
          have hb0 := hb
          have hb : (!(x.ix == y.ix)) = false := by simpa using hb
          refine qe_run rfl ((wanted_of rfl rfl (hsz 27 (by decide)) h11).trans (by rw [hb]; rfl)) (ex_move rfl ((hout 0 (by decide)).trans oe0)) QE.refl ?_
          rw [hl']; rfl
        · refine stepq_env rfl rfl rfl fun _ _ _ _ _ _ _ hout hsz hd _ _ => ?_
          have h11 := hd ⟨11, .guard⟩ (by simp) rfl _ rfl
          refine qe_guard rfl (b := (!(!(x.ix == y.ix)))) ((wanted_of rfl rfl (hsz 27 (by decide)) h11).trans (by simp)) rfl (fun hb l' hl' => ?_)
          have hb0 := hb
          have hb : (!(x.ix == y.ix)) = false := by simpa using hb
          refine qe_run rfl ((wanted_of rfl rfl (hsz 27 (by decide)) h11).trans (by rw [hb]; rfl)) (ex_move rfl ((hout 5 (by decide)).trans oe5)) QE.refl ?_
          rw [hl']; rfl
        · refine stepq_env rfl rfl rfl fun _ _ _ _ _ _ _ _ hsz hd _ _ => ?_
          have h11 := hd ⟨11, .guard⟩ (by simp) rfl _ rfl
          have h12 := hd ⟨12, .data⟩ (by simp) rfl _ rfl
          have h13 := hd ⟨13, .data⟩ (by simp) rfl _ rfl
          refine qe_guard rfl (b := (!(!(x.ix == y.ix)))) ((wanted_of rfl rfl (hsz 27 (by decide)) h11).trans (by simp)) rfl (fun hb l' hl' => ?_)
          have hb0 := hb
          have hb : (!(x.ix == y.ix)) = false := by simpa using hb
          refine qe_run rfl ((wanted_of rfl rfl (hsz 27 (by decide)) h11).trans (by rw [hb]; rfl)) (ex_idxS (i := k) (s := 2) rfl Try.underlying58 (by kernel_rfl) (h12.1 hb0) (h13.1 hb0) (by first | exact hlt | exact hlt2)) QE.refl ?_
          rw [hl']; rfl
        · refine stepq_env rfl rfl rfl fun _ _ _ _ _ _ _ _ hsz hd _ _ => ?_
          have h11 := hd ⟨11, .guard⟩ (by simp) rfl _ rfl
          have h14 := hd ⟨14, .data⟩ (by simp) rfl _ rfl
          refine qe_guard rfl (b := (!(!(x.ix == y.ix)))) ((wanted_of rfl rfl (hsz 27 (by decide)) h11).trans (by simp)) rfl (fun hb l' hl' => ?_)
          have hb0 := hb
          have hb : (!(x.ix == y.ix)) = false := by simpa using hb
          refine qe_run rfl ((wanted_of rfl rfl (hsz 27 (by decide)) h11).trans (by rw [hb]; rfl)) (ex_field rfl Try.underlying90 rfl (by kernel_rfl) (h14.1 hb0)) QE.refl ?_
          rw [hl']; rfl
        · refine stepq_env rfl rfl rfl fun _ _ _ _ _ hm _ _ hsz hd _ _ => ?_
          have h11 := hd ⟨11, .guard⟩ (by simp) rfl _ rfl
          have h15 := hd ⟨15, .data⟩ (by simp) rfl _ rfl
          refine qe_guard rfl (b := (!(!(x.ix == y.ix)))) ((wanted_of rfl rfl (hsz 27 (by decide)) h11).trans (by simp)) rfl (fun hb l' hl' => ?_)
          have hb0 := hb
          have hb : (!(x.ix == y.ix)) = false := by simpa using hb
          refine qe_run rfl ((wanted_of rfl rfl (hsz 27 (by decide)) h11).trans (by rw [hb]; rfl)) (ex_load1 rfl Try.underlying88 rfl (h15.1 hb0) ((HAT1.out.mod hm.old (by intro k h1 h2; have hb := HBR.out k h1; omega)).2 1 _ rfl)) QE.refl ?_
          rw [hl']; rfl
        · refine stepq_env rfl rfl rfl fun _ _ _ _ _ _ _ hout hsz hd _ _ => ?_
          have h11 := hd ⟨11, .guard⟩ (by simp) rfl _ rfl
          refine qe_guard rfl (b := (!(!(x.ix == y.ix)))) ((wanted_of rfl rfl (hsz 27 (by decide)) h11).trans (by simp)) rfl (fun hb l' hl' => ?_)
          have hb0 := hb
          have hb : (!(x.ix == y.ix)) = false := by simpa using hb
          refine qe_run rfl ((wanted_of rfl rfl (hsz 27 (by decide)) h11).trans (by rw [hb]; rfl)) (ex_move rfl ((hout 1 (by decide)).trans oe1)) QE.refl ?_
          rw [hl']; rfl
        · refine stepq_env rfl rfl rfl fun _ _ _ _ _ _ _ hout hsz hd _ _ => ?_
          have h11 := hd ⟨11, .guard⟩ (by simp) rfl _ rfl
          refine qe_guard rfl (b := (!(!(x.ix == y.ix)))) ((wanted_of rfl rfl (hsz 27 (by decide)) h11).trans (by simp)) rfl (fun hb l' hl' => ?_)
          have hb0 := hb
          have hb : (!(x.ix == y.ix)) = false := by simpa using hb
          refine qe_run rfl ((wanted_of rfl rfl (hsz 27 (by decide)) h11).trans (by rw [hb]; rfl)) (ex_move rfl ((hout 5 (by decide)).trans oe5)) QE.refl ?_
          rw [hl']; rfl
        · refine stepq_env rfl rfl rfl fun _ _ _ _ _ _ _ _ hsz hd _ _ => ?_
          have h11 := hd ⟨11, .guard⟩ (by simp) rfl _ rfl
          have h17 := hd ⟨17, .data⟩ (by simp) rfl _ rfl
          have h18 := hd ⟨18, .data⟩ (by simp) rfl _ rfl
          refine qe_guard rfl (b := (!(!(x.ix == y.ix)))) ((wanted_of rfl rfl (hsz 27 (by decide)) h11).trans (by simp)) rfl (fun hb l' hl' => ?_)
          have hb0 := hb
          have hb : (!(x.ix == y.ix)) = false := by simpa using hb
          refine qe_run rfl ((wanted_of rfl rfl (hsz 27 (by decide)) h11).trans (by rw [hb]; rfl)) (ex_idxS (i := k) (s := 2) rfl Try.underlying58 (by kernel_rfl) (h17.1 hb0) (h18.1 hb0) (by first | exact hlt | exact hlt2)) QE.refl ?_
          rw [hl']; rfl
        · refine stepq_env rfl rfl rfl fun _ _ _ _ _ _ _ _ hsz hd _ _ => ?_
          have h11 := hd ⟨11, .guard⟩ (by simp) rfl _ rfl
          have h19 := hd ⟨19, .data⟩ (by simp) rfl _ rfl
          refine qe_guard rfl (b := (!(!(x.ix == y.ix)))) ((wanted_of rfl rfl (hsz 27 (by decide)) h11).trans (by simp)) rfl (fun hb l' hl' => ?_)
          have hb0 := hb
          have hb : (!(x.ix == y.ix)) = false := by simpa using hb
          refine qe_run rfl ((wanted_of rfl rfl (hsz 27 (by decide)) h11).trans (by rw [hb]; rfl)) (ex_field rfl Try.underlying90 rfl (by kernel_rfl) (h19.1 hb0)) QE.refl ?_
          rw [hl']; rfl
        · refine stepq_env rfl rfl rfl fun _ _ _ _ _ hm _ _ hsz hd _ _ => ?_
          have h11 := hd ⟨11, .guard⟩ (by simp) rfl _ rfl
          have h20 := hd ⟨20, .data⟩ (by simp) rfl _ rfl
          refine qe_guard rfl (b := (!(!(x.ix == y.ix)))) ((wanted_of rfl rfl (hsz 27 (by decide)) h11).trans (by simp)) rfl (fun hb l' hl' => ?_)
          have hb0 := hb
          have hb : (!(x.ix == y.ix)) = false := by simpa using hb
          refine qe_run rfl ((wanted_of rfl rfl (hsz 27 (by decide)) h11).trans (by rw [hb]; rfl)) (ex_load1 rfl Try.underlying88 rfl (h20.1 hb0) ((HAT2.out.mod hm.old (by intro k h1 h2; have hb := HBT.out k h1; omega)).2 1 _ rfl)) QE.refl ?_
          rw [hl']; rfl
        · refine stepq_env rfl rfl rfl fun _ _ _ _ _ hm _ _ hsz hd _ _ => ?_
          have h11 := hd ⟨11, .chain⟩ (by simp) rfl _ rfl
          have h16 := hd ⟨16, .data⟩ (by simp) rfl _ rfl
          have h21 := hd ⟨21, .data⟩ (by simp) rfl _ rfl
          refine qe_guard rfl (b := (!(!(x.ix == y.ix)))) ((wanted_of rfl rfl (hsz 27 (by decide)) h11).trans (by simp)) rfl (fun hb l' hl' => ?_)
          have hb0 := hb
          have hb : (!(x.ix == y.ix)) = false := by simpa using hb
          refine qe_callF (args := #[.slice al1 x.l.length kl1, .slice al2 y.l.length kl2]) rfl ((wanted_of rfl rfl (hsz 27 (by decide)) h11).trans (by rw [hb]; rfl)) rfl Try.func122 (args2 (h16.1 hb0) (h21.1 hb0)) (EqL_Dn _ _ _ _ _ _ _ (HSL1.out.mod hm.old (by intro k h1 h2; have hb := HBR.out k h1; omega)) (HSL2.out.mod hm.old (by intro k h1 h2; have hb := HBT.out k h1; omega)) (by intro k h1; have hb := HBR.out k h1; (try have := hm.size); omega) (by intro k h1; have hb := HBT.out k h1; (try have := hm.size); omega)) ?_
          rintro e w2 ⟨rfl, hm2⟩
          exact ⟨_, rfl, QE.still hm2, (by rw [hl']; rfl)⟩
        · refine stepq_env rfl rfl rfl fun _ _ _ _ _ _ _ _ hsz hd _ _ => ?_
          have h11 := hd ⟨11, .guard⟩ (by simp) rfl _ rfl
          have h22 := hd ⟨22, .data⟩ (by simp) rfl _ rfl
          refine qe_guard rfl (b := (!(!(x.ix == y.ix)))) ((wanted_of rfl rfl (hsz 27 (by decide)) h11).trans (by simp)) rfl (fun hb l' hl' => ?_)
          have hb0 := hb
          have hb : (!(x.ix == y.ix)) = false := by simpa using hb
          refine qe_run rfl ((wanted_of rfl rfl (hsz 27 (by decide)) h11).trans (by rw [hb]; rfl)) (ex_not rfl (h22.1 hb0)) QE.refl ?_
          rw [hl']; rfl
        · exact stq (fun E => ex_pickE rfl (E.d 11) rfl rfl (or_val fun hb => (E.d 23).1 (by rw [hb]; rfl)))
        intro u6_0 hr
        have zu6_0 := hr.size
        have Cx1 := hid (hr.new (S := (fun _ => False)))
        clear hr
        refine QChain.nil fun vs hl hzz hrows hne => ?_
        obtain ⟨Z, hYZ, hZb, hV⟩ := hzz
        have f0 := fvi hV hl 0
        have f1 := fvi hV hl 1
        have f5 := fvi hV hl 5
        have f6 := fvi hV hl 6
        have f11 := fvi hV hl 11
        have f24 := fvi hV hl 24
        rw [show vs = [gw vs 0, gw vs 1, gw vs 2, gw vs 3, gw vs 4, gw vs 5, gw vs 6, gw vs 7, gw vs 8, gw vs 9, gw vs 10, gw vs 11, gw vs 12, gw vs 13, gw vs 14, gw vs 15, gw vs 16, gw vs 17, gw vs 18, gw vs 19, gw vs 20, gw vs 21, gw vs 22, gw vs 23, gw vs 24] from (gw_eta hl).trans rfl]
        have ha0 := HA0.out
        subst ha0
        clear HA0 hV hYZ hZb hsz0 hrows hne oe0 oe1 oe5
        simp only [putAll, Act.put, List.setIfInBounds_toArray, List.set_cons_zero, List.set_cons_succ, f0, f1, f5, f6, f11, f24]
        clear hl f0 f1 f5 f6 f11 f24
        rw [tb_eqb, ← HB.out]
        cases b with
        | false =>
          go_upto_region 7 with (fail)
          generalize ha0 : Act.mk _ _ = a0
          have hsz0 : a0.tmps.size = 42 := by rw [← ha0]; rfl
          have HA0 := hid ha0
          clear ha0
          refine wp_region_S 42 hsz0 [4] [0] ?_
          refine QSeq.pure rfl (.bool false) (fun E => ex_assign rfl rfl) ?_
          refine QSeq.nil (t' := [_]) rfl ?_
          have ha0 := HA0.out
          subst ha0
          clear HA0 hsz0
          simp only [putAll, Act.put, List.setIfInBounds_toArray, List.set_cons_zero, List.set_cons_succ]
          go_wp2
          go_ret
          exact ⟨ret_bool (take_ne hlt hlt2 (fun e => by have h := HB.out; rw [HX1.out, HX2.out, e, eqb_rfl] at h; cases h)).symm, (HML.out.trans Cx1.out (fun _ _ h => h.elim))⟩
        | true =>
          go_upto_region 8 with (fail)
          generalize ha0 : Act.mk _ _ = a0
          have oe13 : a0.eval (.tmp 13) = .int .i64 ((k : Nat) : Int) := by rw [← ha0]; rfl
          have hsz0 : a0.tmps.size = 42 := by rw [← ha0]; rfl
          have HA0 := hid ha0
          clear ha0
          refine wp_region_S 42 hsz0 [41, 13] [0, 1] ?_
          refine QSeq.pure rfl (.int .i64 (((k : Nat) : Int) + 1)) (fun E => ex_binE rfl (E.y 1 oe13) rfl (guard_ints _ _ _ _ _ _) (run_add_i _ _ Try.underlying3) (congrArg (Value.int .i64) (IntWalk.i64_in _ (by omega)))) ?_
          refine QSeq.pure rfl (.int .i64 (((k : Nat) : Int) + 1)) (fun E => ex_move rfl (E.d 0 0)) ?_
          refine QSeq.nil (t' := [_, _]) rfl ?_
          have ha0 := HA0.out
          subst ha0
          clear HA0 hsz0 oe13
          simp only [putAll, Act.put, List.setIfInBounds_toArray, List.set_cons_zero, List.set_cons_succ]
          go_wp2
          go_roundw
          case rel => exact ⟨k + 1, by go_num, by omega, take_succ2 hlt hlt2 HTK.out (by have h := eqb_iff.1 HB.out.symm; rw [HX1.out, HX2.out] at h; exact h), by omega, (HS2.out.mod Cx1.out (fun _ _ h => h)), (HT2.out.mod Cx1.out (fun _ _ h => h)), (HML.out.trans Cx1.out (fun _ _ h => h.elim))⟩
          case measure => simp [intOf] <;> omega
      · skip
        go_upto_region 4 with (fail)
        generalize ha0 : Act.mk _ _ = a0
        have oe12 : a0.eval (.tmp 12) = .int .i64 (l.length : Int) := by rw [← ha0]; rfl
        have oe13 : a0.eval (.tmp 13) = .int .i64 ((k : Nat) : Int) := by rw [← ha0]; rfl
        have hsz0 : a0.tmps.size = 42 := by rw [← ha0]; rfl
        have HA0 := hid ha0
        clear ha0
        refine wp_region_S 42 hsz0 [14] [0] ?_
        refine QSeq.pure rfl (.bool false) (fun E => ex_binE rfl (E.v oe13) (E.v oe12) (guard_ints _ _ _ _ _ _) (run_lss_i _ _ _ Try.underlying3) (congrArg Value.bool (decide_eq_false (by omega)))) ?_
        refine QSeq.nil (t' := [_]) rfl ?_
        have ha0 := HA0.out
        subst ha0
        clear HA0 hsz0 oe12 oe13
        simp only [putAll, Act.put, List.setIfInBounds_toArray, List.set_cons_zero, List.set_cons_succ]
        go_upto_region 9 with (fail)
        generalize ha0 : Act.mk _ _ = a0
        have hsz0 : a0.tmps.size = 42 := by rw [← ha0]; rfl
        have HA0 := hid ha0
        clear ha0
        refine wp_region_S 42 hsz0 [4] [0] ?_
        refine QSeq.pure rfl (.bool true) (fun E => ex_assign rfl rfl) ?_
        refine QSeq.nil (t' := [_]) rfl ?_
        have ha0 := HA0.out
        subst ha0
        clear HA0 hsz0
        simp only [putAll, Act.put, List.setIfInBounds_toArray, List.set_cons_zero, List.set_cons_succ]
        go_wp2
        go_ret
        exact ⟨ret_bool (take_all (by omega) (by have := HLE.out; omega) HTK.out).symm, HML.out⟩
set_option maxHeartbeats 8000000 in
theorem Eq_Ba : Eqs BaR 36 := by
  intro R R2 cs ds x y w hx hy hB hB2
  obtain ⟨vx_ps, vx_os, vx_ts, rfl, hokx, hx_ps, hx_os, hx_ts⟩ := hx
  obtain ⟨ax_ps, kx_ps, rfl⟩ := hx_ps.shape
  have Hx_ps := Lib.hid hx_ps
  clear hx_ps
  obtain ⟨ax_os, kx_os, rfl⟩ := hx_os.shape
  have Hx_os := Lib.hid hx_os
  clear hx_os
  obtain ⟨ax_ts, kx_ts, rfl⟩ := hx_ts.shape
  have Hx_ts := Lib.hid hx_ts
  clear hx_ts
  have HOKx := Lib.hid hokx
  clear hokx
  obtain ⟨vy_ps, vy_os, vy_ts, rfl, hoky, hy_ps, hy_os, hy_ts⟩ := hy
  obtain ⟨ay_ps, ky_ps, rfl⟩ := hy_ps.shape
  have Hy_ps := Lib.hid hy_ps
  clear hy_ps
  obtain ⟨ay_os, ky_os, rfl⟩ := hy_os.shape
  have Hy_os := Lib.hid hy_os
  clear hy_os
  obtain ⟨ay_ts, ky_ts, rfl⟩ := hy_ts.shape
  have Hy_ts := Lib.hid hy_ts
  clear hy_ts
  have HOKy := Lib.hid hoky
  clear hoky
  have HBR := Lib.hid hB
  have HBT := Lib.hid hB2
  clear hB hB2
  go_enter Try.func36, Try.ntmps36
  go_upto_region 1 with (fail)
  obtain ⟨w1, hw1⟩ : ∃ zz, zz = ((w.alloc (.cells (x.cells (.slice ax_ps x.ps.length kx_ps) (.slice ax_os x.os.length kx_os) (.slice ax_ts x.ts.length kx_ts) : List Value).toArray 60)).alloc (.cells (y.cells (.slice ay_ps y.ps.length ky_ps) (.slice ay_os y.os.length ky_os) (.slice ay_ts y.ts.length ky_ts) : List Value).toArray 60)) := ⟨_, rfl⟩
  change Code.wp _ _ _ _ ((w.alloc (.cells (x.cells (.slice ax_ps x.ps.length kx_ps) (.slice ax_os x.os.length kx_os) (.slice ax_ts x.ts.length kx_ts) : List Value).toArray 60)).alloc (.cells (y.cells (.slice ay_ps y.ps.length ky_ps) (.slice ay_os y.os.length ky_os) (.slice ay_ts y.ts.length ky_ts) : List Value).toArray 60))
  rw [← hw1]
  have HB2 := hid (show Cs w1 (w.heap.size) (x.cells (.slice ax_ps x.ps.length kx_ps) (.slice ax_os x.os.length kx_os) (.slice ax_ts x.ts.length kx_ts) : List Value).toArray 60 by rw [hw1]; exact (Cs.new _ _ _).alloc _)
  have HB3 := hid (show Cs w1 (w.heap.size + 1) (y.cells (.slice ay_ps y.ps.length ky_ps) (.slice ay_os y.os.length ky_os) (.slice ay_ts y.ts.length ky_ts) : List Value).toArray 60 by rw [hw1]; exact Cs_newN _ _ _ (by simp))
  have hm : Mod (fun _ => False) w w1 := by rw [hw1]; exact ((Mod.refl _ _).alloc _).alloc _
  have HM0 := hid (show Mod (fun _ => False) w w1 from hm.mono (fun _ _ h => h.elim))
  have hs1 : w1.heap.size = w.heap.size + 2 := by rw [hw1]; simp
  have Hx1 := hid (Hx_ps.out.mod hm (fun _ _ h => h))
  clear Hx_ps
  have Hx2 := hid (Hx_os.out.mod hm (fun _ _ h => h))
  clear Hx_os
  have Hx3 := hid (Hx_ts.out.mod hm (fun _ _ h => h))
  clear Hx_ts
  have Hx4 := hid (Hy_ps.out.mod hm (fun _ _ h => h))
  clear Hy_ps
  have Hx5 := hid (Hy_os.out.mod hm (fun _ _ h => h))
  clear Hy_os
  have Hx6 := hid (Hy_ts.out.mod hm (fun _ _ h => h))
  clear Hy_ts
  clear hw1 hm
  have hlx : x.ps.length ≤ maxLen := Hx1.out.bd
  have hly : y.ps.length ≤ maxLen := Hx4.out.bd
  rw [maxLen_val] at hlx hly
  go_upto_region 1 with (fail)
  generalize ha0 : Act.mk _ _ = a0
  have oe2 : a0.eval (.tmp 2) = .pointer (some ⟨w.heap.size, 0, none⟩) := by rw [← ha0]; rfl
  have oe3 : a0.eval (.tmp 3) = .pointer (some ⟨w.heap.size + 1, 0, none⟩) := by rw [← ha0]; rfl
  have hsz0 : a0.tmps.size = 62 := by rw [← ha0]; rfl
  have HA0 := hid ha0
  clear ha0
  refine wp_region_S 62 hsz0 [6, 7, 8, 9, 10, 11, 12, 13, 14, 15, 16, 17, 18, 19, 20, 21, 22, 23, 24, 25, 26, 27, 28, 29, 30, 31, 32, 33, 34, 35, 36, 37, 38, 39, 40, 41, 42] [0, 1, 2, 3, 4, 5, 6, 7, 8, 9, 10, 11, 12, 13, 14, 15, 16, 17, 18, 19, 20, 21, 22, 23, 24, 25, 26, 27, 28, 29, 30, 31, 32, 33, 34, 35, 36] ?_
  refine QSeq.pure rfl (.pointer (some ⟨w.heap.size, 0, none⟩)) (fun E => ex_field rfl Try.underlying60 rfl (by kernel_rfl) (E.v oe2)) ?_
  refine QSeq.pure rfl (.int .i64 x.ep) (fun E => ex_load1 rfl Try.underlying3 rfl (E.d 0 0) (Cs.lit1 HB2.out rfl)) ?_
  refine QSeq.pure rfl (.pointer (some ⟨w.heap.size + 1, 0, none⟩)) (fun E => ex_field rfl Try.underlying60 rfl (by kernel_rfl) (E.v oe3)) ?_
  refine QSeq.pure rfl (.int .i64 y.ep) (fun E => ex_load1 rfl Try.underlying3 rfl (E.d 2 0) (Cs.lit1 HB3.out rfl)) ?_
  refine QSeq.pure rfl (.bool (!(x.ep == y.ep))) (fun E => ex_bin rfl (E.d 1 2) (E.d 3 0) (guard_ints _ _ _ _ _ _) (run_neq_i _ _ _ Try.underlying3)) ?_
  refine QSeq.pure rfl (.bool (!(x.ep == y.ep))) (fun E => ex_move rfl (E.d 4 0)) ?_
  refine QSeq.may (b := (!(!(x.ep == y.ep)))) rfl (.pointer (some ⟨w.heap.size, 1, none⟩)) (fun E => ((wanted_of rfl rfl (E.sz 11 (by decide)) (E.d 5 0)).trans (beq_f _))) (fun E hb0 => (by have hb : (!(x.ep == y.ep)) = false := (by simpa using hb0); exact ex_field rfl Try.underlying60 rfl (by kernel_rfl) (E.v oe2))) ?_
  intro v1_6 hw
  have hv1_6 := hid hw
  clear hw
  refine QSeq.may (b := (!(!(x.ep == y.ep)))) rfl (.int .u64 (x.tm : Nat)) (fun E => ((wanted_of rfl rfl (E.sz 11 (by decide)) (E.d 5 1)).trans (beq_f _))) (fun E hb0 => (by have hb : (!(x.ep == y.ep)) = false := (by simpa using hb0); exact ex_load1 rfl Try.underlying26 rfl ((E.q 6 0 hv1_6.out).1 hb0) (Cs.lit1 HB2.out rfl))) ?_
  intro v1_7 hw
  have hv1_7 := hid hw
  clear hw
  refine QSeq.may (b := (!(!(x.ep == y.ep)))) rfl (.pointer (some ⟨w.heap.size + 1, 1, none⟩)) (fun E => ((wanted_of rfl rfl (E.sz 11 (by decide)) (E.d 5 2)).trans (beq_f _))) (fun E hb0 => (by have hb : (!(x.ep == y.ep)) = false := (by simpa using hb0); exact ex_field rfl Try.underlying60 rfl (by kernel_rfl) (E.v oe3))) ?_
  intro v1_8 hw
  have hv1_8 := hid hw
  clear hw
  refine QSeq.may (b := (!(!(x.ep == y.ep)))) rfl (.int .u64 (y.tm : Nat)) (fun E => ((wanted_of rfl rfl (E.sz 11 (by decide)) (E.d 5 3)).trans (beq_f _))) (fun E hb0 => (by have hb : (!(x.ep == y.ep)) = false := (by simpa using hb0); exact ex_load1 rfl Try.underlying26 rfl ((E.q 8 0 hv1_8.out).1 hb0) (Cs.lit1 HB3.out rfl))) ?_
  intro v1_9 hw
  have hv1_9 := hid hw
  clear hw
  refine QSeq.may (b := (!(!(x.ep == y.ep)))) rfl (.bool (!(((x.tm : Nat) : Int) == ((y.tm : Nat) : Int)))) (fun E => ((wanted_of rfl rfl (E.sz 11 (by decide)) (E.d 5 4)).trans (beq_f _))) (fun E hb0 => (by have hb : (!(x.ep == y.ep)) = false := (by simpa using hb0); exact ex_bin rfl ((E.q 7 2 hv1_7.out).1 hb0) ((E.q 9 0 hv1_9.out).1 hb0) (guard_ints _ _ _ _ _ _) (run_neq_i _ _ _ Try.underlying26))) ?_
  intro v1_10 hw
  have hv1_10 := hid hw
  clear hw
  refine QSeq.pure rfl (.bool ((!(x.ep == y.ep)) || (!(((x.tm : Nat) : Int) == ((y.tm : Nat) : Int))))) (fun E => ex_pickE rfl (E.d 5 5) rfl rfl (or_val fun hb => (E.q 10 0 hv1_10.out).1 (by rw [hb]; rfl))) ?_
  refine QSeq.pure rfl (.bool ((!(x.ep == y.ep)) || (!(((x.tm : Nat) : Int) == ((y.tm : Nat) : Int))))) (fun E => ex_move rfl (E.d 11 0)) ?_
  refine QSeq.may (b := (!((!(x.ep == y.ep)) || (!(((x.tm : Nat) : Int) == ((y.tm : Nat) : Int)))))) rfl (.pointer (some ⟨w.heap.size, 2, none⟩)) (fun E => ((wanted_of rfl rfl (E.sz 18 (by decide)) (E.d 12 0)).trans (beq_f _))) (fun E hb0 => (by have hb : ((!(x.ep == y.ep)) || (!(((x.tm : Nat) : Int) == ((y.tm : Nat) : Int)))) = false := (by simpa using hb0); exact ex_field rfl Try.underlying60 rfl (by kernel_rfl) (E.v oe2))) ?_
  intro v1_13 hw
  have hv1_13 := hid hw
  clear hw
  refine QSeq.may (b := (!((!(x.ep == y.ep)) || (!(((x.tm : Nat) : Int) == ((y.tm : Nat) : Int)))))) rfl (.slice ax_ps x.ps.length kx_ps) (fun E => ((wanted_of rfl rfl (E.sz 18 (by decide)) (E.d 12 1)).trans (beq_f _))) (fun E hb0 => (by have hb : ((!(x.ep == y.ep)) || (!(((x.tm : Nat) : Int) == ((y.tm : Nat) : Int)))) = false := (by simpa using hb0); exact ex_load1 rfl Try.underlying56 rfl ((E.q 13 0 hv1_13.out).1 hb0) (Cs.lit1 HB2.out rfl))) ?_
  intro v1_14 hw
  have hv1_14 := hid hw
  clear hw
  refine QSeq.may (b := (!((!(x.ep == y.ep)) || (!(((x.tm : Nat) : Int) == ((y.tm : Nat) : Int)))))) rfl (.int .i64 x.ps.length) (fun E => ((wanted_of rfl rfl (E.sz 18 (by decide)) (E.d 12 2)).trans (beq_f _))) (fun E hb0 => (by have hb : ((!(x.ep == y.ep)) || (!(((x.tm : Nat) : Int) == ((y.tm : Nat) : Int)))) = false := (by simpa using hb0); exact ex_lenS rfl ((E.q 14 0 hv1_14.out).1 hb0) Try.underlying56)) ?_
  intro v1_15 hw
  have hv1_15 := hid hw
  clear hw
  refine QSeq.may (b := (!((!(x.ep == y.ep)) || (!(((x.tm : Nat) : Int) == ((y.tm : Nat) : Int)))))) rfl (.pointer (some ⟨w.heap.size + 1, 2, none⟩)) (fun E => ((wanted_of rfl rfl (E.sz 18 (by decide)) (E.d 12 3)).trans (beq_f _))) (fun E hb0 => (by have hb : ((!(x.ep == y.ep)) || (!(((x.tm : Nat) : Int) == ((y.tm : Nat) : Int)))) = false := (by simpa using hb0); exact ex_field rfl Try.underlying60 rfl (by kernel_rfl) (E.v oe3))) ?_
  intro v1_16 hw
  have hv1_16 := hid hw
  clear hw
  refine QSeq.may (b := (!((!(x.ep == y.ep)) || (!(((x.tm : Nat) : Int) == ((y.tm : Nat) : Int)))))) rfl (.slice ay_ps y.ps.length ky_ps) (fun E => ((wanted_of rfl rfl (E.sz 18 (by decide)) (E.d 12 4)).trans (beq_f _))) (fun E hb0 => (by have hb : ((!(x.ep == y.ep)) || (!(((x.tm : Nat) : Int) == ((y.tm : Nat) : Int)))) = false := (by simpa using hb0); exact ex_load1 rfl Try.underlying56 rfl ((E.q 16 0 hv1_16.out).1 hb0) (Cs.lit1 HB3.out rfl))) ?_
  intro v1_17 hw
  have hv1_17 := hid hw
  clear hw
  refine QSeq.may (b := (!((!(x.ep == y.ep)) || (!(((x.tm : Nat) : Int) == ((y.tm : Nat) : Int)))))) rfl (.int .i64 y.ps.length) (fun E => ((wanted_of rfl rfl (E.sz 18 (by decide)) (E.d 12 5)).trans (beq_f _))) (fun E hb0 => (by have hb : ((!(x.ep == y.ep)) || (!(((x.tm : Nat) : Int) == ((y.tm : Nat) : Int)))) = false := (by simpa using hb0); exact ex_lenS rfl ((E.q 17 0 hv1_17.out).1 hb0) Try.underlying56)) ?_
  intro v1_18 hw
  have hv1_18 := hid hw
  clear hw
  refine QSeq.may (b := (!((!(x.ep == y.ep)) || (!(((x.tm : Nat) : Int) == ((y.tm : Nat) : Int)))))) rfl (.bool (!(((x.ps.length : Nat) : Int) == ((y.ps.length : Nat) : Int)))) (fun E => ((wanted_of rfl rfl (E.sz 18 (by decide)) (E.d 12 6)).trans (beq_f _))) (fun E hb0 => (by have hb : ((!(x.ep == y.ep)) || (!(((x.tm : Nat) : Int) == ((y.tm : Nat) : Int)))) = false := (by simpa using hb0); exact ex_bin rfl ((E.q 15 3 hv1_15.out).1 hb0) ((E.q 18 0 hv1_18.out).1 hb0) (guard_ints _ _ _ _ _ _) (run_neq_i _ _ _ Try.underlying3))) ?_
  intro v1_19 hw
  have hv1_19 := hid hw
  clear hw
  refine QSeq.pure rfl (.bool (((!(x.ep == y.ep)) || (!(((x.tm : Nat) : Int) == ((y.tm : Nat) : Int)))) || (!(((x.ps.length : Nat) : Int) == ((y.ps.length : Nat) : Int))))) (fun E => ex_pickE rfl (E.d 12 7) rfl rfl (or_val fun hb => (E.q 19 0 hv1_19.out).1 (by rw [hb]; rfl))) ?_
  refine QSeq.pure rfl (.bool (((!(x.ep == y.ep)) || (!(((x.tm : Nat) : Int) == ((y.tm : Nat) : Int)))) || (!(((x.ps.length : Nat) : Int) == ((y.ps.length : Nat) : Int))))) (fun E => ex_move rfl (E.d 20 0)) ?_
  refine QSeq.may (b := (!(((!(x.ep == y.ep)) || (!(((x.tm : Nat) : Int) == ((y.tm : Nat) : Int)))) || (!(((x.ps.length : Nat) : Int) == ((y.ps.length : Nat) : Int)))))) rfl (.pointer (some ⟨w.heap.size, 3, none⟩)) (fun E => ((wanted_of rfl rfl (E.sz 27 (by decide)) (E.d 21 0)).trans (beq_f _))) (fun E hb0 => (by have hb : (((!(x.ep == y.ep)) || (!(((x.tm : Nat) : Int) == ((y.tm : Nat) : Int)))) || (!(((x.ps.length : Nat) : Int) == ((y.ps.length : Nat) : Int)))) = false := (by simpa using hb0); exact ex_field rfl Try.underlying60 rfl (by kernel_rfl) (E.v oe2))) ?_
  intro v1_22 hw
  have hv1_22 := hid hw
  clear hw
  refine QSeq.may (b := (!(((!(x.ep == y.ep)) || (!(((x.tm : Nat) : Int) == ((y.tm : Nat) : Int)))) || (!(((x.ps.length : Nat) : Int) == ((y.ps.length : Nat) : Int)))))) rfl (.slice ax_os x.os.length kx_os) (fun E => ((wanted_of rfl rfl (E.sz 27 (by decide)) (E.d 21 1)).trans (beq_f _))) (fun E hb0 => (by have hb : (((!(x.ep == y.ep)) || (!(((x.tm : Nat) : Int) == ((y.tm : Nat) : Int)))) || (!(((x.ps.length : Nat) : Int) == ((y.ps.length : Nat) : Int)))) = false := (by simpa using hb0); exact ex_load1 rfl Try.underlying57 rfl ((E.q 22 0 hv1_22.out).1 hb0) (Cs.lit1 HB2.out rfl))) ?_
  intro v1_23 hw
  have hv1_23 := hid hw
  clear hw
  refine QSeq.may (b := (!(((!(x.ep == y.ep)) || (!(((x.tm : Nat) : Int) == ((y.tm : Nat) : Int)))) || (!(((x.ps.length : Nat) : Int) == ((y.ps.length : Nat) : Int)))))) rfl (.pointer (some ⟨w.heap.size + 1, 3, none⟩)) (fun E => ((wanted_of rfl rfl (E.sz 27 (by decide)) (E.d 21 2)).trans (beq_f _))) (fun E hb0 => (by have hb : (((!(x.ep == y.ep)) || (!(((x.tm : Nat) : Int) == ((y.tm : Nat) : Int)))) || (!(((x.ps.length : Nat) : Int) == ((y.ps.length : Nat) : Int)))) = false := (by simpa using hb0); exact ex_field rfl Try.underlying60 rfl (by kernel_rfl) (E.v oe3))) ?_
  intro v1_24 hw
  have hv1_24 := hid hw
  clear hw
  refine QSeq.may (b := (!(((!(x.ep == y.ep)) || (!(((x.tm : Nat) : Int) == ((y.tm : Nat) : Int)))) || (!(((x.ps.length : Nat) : Int) == ((y.ps.length : Nat) : Int)))))) rfl (.slice ay_os y.os.length ky_os) (fun E => ((wanted_of rfl rfl (E.sz 27 (by decide)) (E.d 21 3)).trans (beq_f _))) (fun E hb0 => (by have hb : (((!(x.ep == y.ep)) || (!(((x.tm : Nat) : Int) == ((y.tm : Nat) : Int)))) || (!(((x.ps.length : Nat) : Int) == ((y.ps.length : Nat) : Int)))) = false := (by simpa using hb0); exact ex_load1 rfl Try.underlying57 rfl ((E.q 24 0 hv1_24.out).1 hb0) (Cs.lit1 HB3.out rfl))) ?_
  intro v1_25 hw
  have hv1_25 := hid hw
  clear hw
  refine QSeq.mayCall (b := (!(((!(x.ep == y.ep)) || (!(((x.tm : Nat) : Int) == ((y.tm : Nat) : Int)))) || (!(((x.ps.length : Nat) : Int) == ((y.ps.length : Nat) : Int)))))) rfl (.bool (eqb x.os y.os)) (args := #[.slice ax_os x.os.length kx_os, .slice ay_os y.os.length ky_os]) (fun E => ((wanted_of rfl rfl (E.sz 27 (by decide)) (E.d 21 4)).trans (beq_f _))) rfl Try.func87 (fun E hb0 => (by have hb : (((!(x.ep == y.ep)) || (!(((x.tm : Nat) : Int) == ((y.tm : Nat) : Int)))) || (!(((x.ps.length : Nat) : Int) == ((y.ps.length : Nat) : Int)))) = false := (by simpa using hb0); exact args2 ((E.q 23 2 hv1_23.out).1 hb0) ((E.q 25 0 hv1_25.out).1 hb0))) (fun hb0 => (by have hb : (((!(x.ep == y.ep)) || (!(((x.tm : Nat) : Int) == ((y.tm : Nat) : Int)))) || (!(((x.ps.length : Nat) : Int) == ((y.ps.length : Nat) : Int)))) = false := (by simpa using hb0); exact EqL_Op _ _ _ _ _ _ _ Hx2.out Hx5.out (by intro k h1; have hb := HBR.out k h1; (try have := hm.size); omega) (by intro k h1; have hb := HBT.out k h1; (try have := hm.size); omega))) ?_
  intro v1_26 u1_26 hw hm
  have hv1_26 := hid hw
  clear hw
  have zu1_26 := hm.size
  have Cx7 := hid (show Mod (fun _ => False) w1 u1_26 from hm)
  clear hm
  refine QSeq.may (b := (!(((!(x.ep == y.ep)) || (!(((x.tm : Nat) : Int) == ((y.tm : Nat) : Int)))) || (!(((x.ps.length : Nat) : Int) == ((y.ps.length : Nat) : Int)))))) rfl (.bool (!(eqb x.os y.os))) (fun E => ((wanted_of rfl rfl (E.sz 27 (by decide)) (E.d 21 5)).trans (beq_f _))) (fun E hb0 => (by have hb : (((!(x.ep == y.ep)) || (!(((x.tm : Nat) : Int) == ((y.tm : Nat) : Int)))) || (!(((x.ps.length : Nat) : Int) == ((y.ps.length : Nat) : Int)))) = false := (by simpa using hb0); exact ex_not rfl ((E.q 26 0 hv1_26.out).1 hb0))) ?_
  intro v1_27 hw
  have hv1_27 := hid hw
  clear hw
  refine QSeq.pure rfl (.bool ((((!(x.ep == y.ep)) || (!(((x.tm : Nat) : Int) == ((y.tm : Nat) : Int)))) || (!(((x.ps.length : Nat) : Int) == ((y.ps.length : Nat) : Int)))) || (!(eqb x.os y.os)))) (fun E => ex_pickE rfl (E.d 21 6) rfl rfl (or_val fun hb => (E.q 27 0 hv1_27.out).1 (by rw [hb]; rfl))) ?_
  refine QSeq.pure rfl (.bool ((((!(x.ep == y.ep)) || (!(((x.tm : Nat) : Int) == ((y.tm : Nat) : Int)))) || (!(((x.ps.length : Nat) : Int) == ((y.ps.length : Nat) : Int)))) || (!(eqb x.os y.os)))) (fun E => ex_move rfl (E.d 28 0)) ?_
  refine QSeq.may (b := (!((((!(x.ep == y.ep)) || (!(((x.tm : Nat) : Int) == ((y.tm : Nat) : Int)))) || (!(((x.ps.length : Nat) : Int) == ((y.ps.length : Nat) : Int)))) || (!(eqb x.os y.os))))) rfl (.pointer (some ⟨w.heap.size, 4, none⟩)) (fun E => ((wanted_of rfl rfl (E.sz 35 (by decide)) (E.d 29 0)).trans (beq_f _))) (fun E hb0 => (by have hb : ((((!(x.ep == y.ep)) || (!(((x.tm : Nat) : Int) == ((y.tm : Nat) : Int)))) || (!(((x.ps.length : Nat) : Int) == ((y.ps.length : Nat) : Int)))) || (!(eqb x.os y.os))) = false := (by simpa using hb0); exact ex_field rfl Try.underlying60 rfl (by kernel_rfl) (E.v oe2))) ?_
  intro v1_30 hw
  have hv1_30 := hid hw
  clear hw
  refine QSeq.may (b := (!((((!(x.ep == y.ep)) || (!(((x.tm : Nat) : Int) == ((y.tm : Nat) : Int)))) || (!(((x.ps.length : Nat) : Int) == ((y.ps.length : Nat) : Int)))) || (!(eqb x.os y.os))))) rfl (.slice ax_ts x.ts.length kx_ts) (fun E => ((wanted_of rfl rfl (E.sz 35 (by decide)) (E.d 29 1)).trans (beq_f _))) (fun E hb0 => (by have hb : ((((!(x.ep == y.ep)) || (!(((x.tm : Nat) : Int) == ((y.tm : Nat) : Int)))) || (!(((x.ps.length : Nat) : Int) == ((y.ps.length : Nat) : Int)))) || (!(eqb x.os y.os))) = false := (by simpa using hb0); exact ex_load1 rfl Try.underlying58 rfl ((E.q 30 0 hv1_30.out).1 hb0) (Cs.lit1 (HB2.out.mod Cx7.out (fun h => h)) rfl))) ?_
  intro v1_31 hw
  have hv1_31 := hid hw
  clear hw
  refine QSeq.may (b := (!((((!(x.ep == y.ep)) || (!(((x.tm : Nat) : Int) == ((y.tm : Nat) : Int)))) || (!(((x.ps.length : Nat) : Int) == ((y.ps.length : Nat) : Int)))) || (!(eqb x.os y.os))))) rfl (.pointer (some ⟨w.heap.size + 1, 4, none⟩)) (fun E => ((wanted_of rfl rfl (E.sz 35 (by decide)) (E.d 29 2)).trans (beq_f _))) (fun E hb0 => (by have hb : ((((!(x.ep == y.ep)) || (!(((x.tm : Nat) : Int) == ((y.tm : Nat) : Int)))) || (!(((x.ps.length : Nat) : Int) == ((y.ps.length : Nat) : Int)))) || (!(eqb x.os y.os))) = false := (by simpa using hb0); exact ex_field rfl Try.underlying60 rfl (by kernel_rfl) (E.v oe3))) ?_
  intro v1_32 hw
  have hv1_32 := hid hw
  clear hw
  refine QSeq.may (b := (!((((!(x.ep == y.ep)) || (!(((x.tm : Nat) : Int) == ((y.tm : Nat) : Int)))) || (!(((x.ps.length : Nat) : Int) == ((y.ps.length : Nat) : Int)))) || (!(eqb x.os y.os))))) rfl (.slice ay_ts y.ts.length ky_ts) (fun E => ((wanted_of rfl rfl (E.sz 35 (by decide)) (E.d 29 3)).trans (beq_f _))) (fun E hb0 => (by have hb : ((((!(x.ep == y.ep)) || (!(((x.tm : Nat) : Int) == ((y.tm : Nat) : Int)))) || (!(((x.ps.length : Nat) : Int) == ((y.ps.length : Nat) : Int)))) || (!(eqb x.os y.os))) = false := (by simpa using hb0); exact ex_load1 rfl Try.underlying58 rfl ((E.q 32 0 hv1_32.out).1 hb0) (Cs.lit1 (HB3.out.mod Cx7.out (fun h => h)) rfl))) ?_
  intro v1_33 hw
  have hv1_33 := hid hw
  clear hw
  refine QSeq.mayCall (b := (!((((!(x.ep == y.ep)) || (!(((x.tm : Nat) : Int) == ((y.tm : Nat) : Int)))) || (!(((x.ps.length : Nat) : Int) == ((y.ps.length : Nat) : Int)))) || (!(eqb x.os y.os))))) rfl (.bool (eqb x.ts y.ts)) (args := #[.slice ax_ts x.ts.length kx_ts, .slice ay_ts y.ts.length ky_ts]) (fun E => ((wanted_of rfl rfl (E.sz 35 (by decide)) (E.d 29 4)).trans (beq_f _))) rfl Try.func88 (fun E hb0 => (by have hb : ((((!(x.ep == y.ep)) || (!(((x.tm : Nat) : Int) == ((y.tm : Nat) : Int)))) || (!(((x.ps.length : Nat) : Int) == ((y.ps.length : Nat) : Int)))) || (!(eqb x.os y.os))) = false := (by simpa using hb0); exact args2 ((E.q 31 2 hv1_31.out).1 hb0) ((E.q 33 0 hv1_33.out).1 hb0))) (fun hb0 => (by have hb : ((((!(x.ep == y.ep)) || (!(((x.tm : Nat) : Int) == ((y.tm : Nat) : Int)))) || (!(((x.ps.length : Nat) : Int) == ((y.ps.length : Nat) : Int)))) || (!(eqb x.os y.os))) = false := (by simpa using hb0); exact EqL_Tb _ _ _ _ _ _ _ (Hx3.out.mod Cx7.out (fun _ _ h => h)) (Hx6.out.mod Cx7.out (fun _ _ h => h)) (by intro k h1; have hb := HBR.out k h1; (try have := hm.size); omega) (by intro k h1; have hb := HBT.out k h1; (try have := hm.size); omega))) ?_
  intro v1_34 u1_34 hw hm
  have hv1_34 := hid hw
  clear hw
  have zu1_34 := hm.size
  have HMu1_34 := hid hm
  have Cx8 := hid (Cx7.out.goE hm)
  clear hm Cx7
  refine QSeq.may (b := (!((((!(x.ep == y.ep)) || (!(((x.tm : Nat) : Int) == ((y.tm : Nat) : Int)))) || (!(((x.ps.length : Nat) : Int) == ((y.ps.length : Nat) : Int)))) || (!(eqb x.os y.os))))) rfl (.bool (!(eqb x.ts y.ts))) (fun E => ((wanted_of rfl rfl (E.sz 35 (by decide)) (E.d 29 5)).trans (beq_f _))) (fun E hb0 => (by have hb : ((((!(x.ep == y.ep)) || (!(((x.tm : Nat) : Int) == ((y.tm : Nat) : Int)))) || (!(((x.ps.length : Nat) : Int) == ((y.ps.length : Nat) : Int)))) || (!(eqb x.os y.os))) = false := (by simpa using hb0); exact ex_not rfl ((E.q 34 0 hv1_34.out).1 hb0))) ?_
  intro v1_35 hw
  have hv1_35 := hid hw
  clear hw
  refine QSeq.pure rfl (.bool (((((!(x.ep == y.ep)) || (!(((x.tm : Nat) : Int) == ((y.tm : Nat) : Int)))) || (!(((x.ps.length : Nat) : Int) == ((y.ps.length : Nat) : Int)))) || (!(eqb x.os y.os))) || (!(eqb x.ts y.ts)))) (fun E => ex_pickE rfl (E.d 29 6) rfl rfl (or_val fun hb => (E.q 35 0 hv1_35.out).1 (by rw [hb]; rfl))) ?_
  clear HMu1_34 hv1_6 hv1_7 hv1_8 hv1_9 hv1_10 hv1_13 hv1_14 hv1_15 hv1_16 hv1_17 hv1_18 hv1_19 hv1_22 hv1_23 hv1_24 hv1_25 hv1_26 hv1_27 hv1_30 hv1_31 hv1_32 hv1_33 hv1_34 hv1_35
  refine QSeq.nil (t' := [_, _, _, _, _, _, _, _, _, _, _, _, _, _, _, _, _, _, _, _, _, _, _, _, _, _, _, _, _, _, _, _, _, _, _, _, _]) rfl ?_
  have ha0 := HA0.out
  subst ha0
  clear HA0 hsz0 oe2 oe3
  simp only [putAll, Act.put, List.setIfInBounds_toArray, List.set_cons_zero, List.set_cons_succ]
  obtain ⟨b0, hb0⟩ : ∃ b0, b0 = (((((!(x.ep == y.ep)) || (!(((x.tm : Nat) : Int) == ((y.tm : Nat) : Int)))) || (!(((x.ps.length : Nat) : Int) == ((y.ps.length : Nat) : Int)))) || (!(eqb x.os y.os))) || (!(eqb x.ts y.ts))) := ⟨_, rfl⟩
  rw [← hb0]
  cases b0 with
  | true =>
    go_upto_region 2 with (fail)
    generalize ha0 : Act.mk _ _ = a0
    have hsz0 : a0.tmps.size = 62 := by rw [← ha0]; rfl
    have HA0 := hid ha0
    clear ha0
    refine wp_region_S 62 hsz0 [4] [0] ?_
    refine QSeq.pure rfl (.bool false) (fun E => ex_assign rfl rfl) ?_
    refine QSeq.nil (t' := [_]) rfl ?_
    have ha0 := HA0.out
    subst ha0
    clear HA0 hsz0
    simp only [putAll, Act.put, List.setIfInBounds_toArray, List.set_cons_zero, List.set_cons_succ]
    go_wp2
    go_ret
    exact ⟨ret_bool (ba_neb x y hb0.symm).symm, (HM0.out.trans Cx8.out (fun _ _ h => h.elim))⟩
  | false =>
    have HEQ := hid (ba_eqb x y hb0.symm)
    have HLE := hid (show x.ps.length = y.ps.length by have h := hb0.symm; simp only [Bool.or_eq_false_iff, Bool.not_eq_false', beq_I, Int.ofNat_inj] at h; exact h.1.1.2)
    clear hb0
    go_upto_region 3 with (fail)
    generalize ha0 : Act.mk _ _ = a0
    have oe2 : a0.eval (.tmp 2) = .pointer (some ⟨w.heap.size, 0, none⟩) := by rw [← ha0]; rfl
    have hsz0 : a0.tmps.size = 62 := by rw [← ha0]; rfl
    have HA0 := hid ha0
    clear ha0
    refine wp_region_S 62 hsz0 [43, 44, 45, 46] [0, 1, 2, 3] ?_
    refine QSeq.pure rfl (.pointer (some ⟨w.heap.size, 2, none⟩)) (fun E => ex_field rfl Try.underlying60 rfl (by kernel_rfl) (E.v oe2)) ?_
    refine QSeq.pure rfl (.slice ax_ps x.ps.length kx_ps) (fun E => ex_load1 rfl Try.underlying56 rfl (E.d 0 0) (Cs.lit1 (HB2.out.mod Cx8.out (fun h => h)) rfl)) ?_
    refine QSeq.pure rfl (.int .i64 x.ps.length) (fun E => ex_lenS rfl (E.d 1 0) Try.underlying56) ?_
    refine QSeq.pure rfl (.int .i64 0) (fun E => ex_move rfl rfl) ?_
    refine QSeq.nil (t' := [_, _, _, _]) rfl ?_
    have ha0 := HA0.out
    subst ha0
    clear HA0 hsz0 oe2
    simp only [putAll, Act.put, List.setIfInBounds_toArray, List.set_cons_zero, List.set_cons_succ]
    go_wp2
    go_loopw [46, 5] (fun ti t5 wr => ∃ k : Nat, ti = .int .i64 (k : Int) ∧ k ≤ x.ps.length ∧ x.ps.take k = y.ps.take k ∧ u1_34.heap.size ≤ wr.heap.size ∧ RdS PmR R wr (.slice ax_ps x.ps.length kx_ps) x.ps ∧ RdS PmR R2 wr (.slice ay_ps y.ps.length ky_ps) y.ps ∧ Cs wr (w.heap.size) (x.cells (.slice ax_ps x.ps.length kx_ps) (.slice ax_os x.os.length kx_os) (.slice ax_ts x.ts.length kx_ts) : List Value).toArray 60 ∧ Cs wr (w.heap.size + 1) (y.cells (.slice ay_ps y.ps.length ky_ps) (.slice ay_os y.os.length ky_os) (.slice ay_ts y.ts.length ky_ts) : List Value).toArray 60 ∧ Mod (fun _ => False) w wr) (fun ti t5 _ => x.ps.length - (intOf ti).toNat)
    case atStart => exact ⟨0, rfl, Nat.zero_le _, rfl, Nat.le_refl _, (Hx1.out.mod Cx8.out (fun _ _ h => h)), (Hx4.out.mod Cx8.out (fun _ _ h => h)), (HB2.out.mod Cx8.out (fun h => h)), (HB3.out.mod Cx8.out (fun h => h)), (HM0.out.trans Cx8.out (fun _ _ h => h.elim))⟩
    case round =>
      obtain ⟨k, rfl, hk, htk, hz, hs, ht, hb2, hb3, hm⟩ := hrel
      obtain ⟨wl, rfl⟩ : ∃ x, x = wr := ⟨_, rfl⟩
      have HS2 := Lib.hid hs
      have HT2 := Lib.hid ht
      have HML := Lib.hid hm
      have HTK := Lib.hid htk
      have HBX := Lib.hid hb2
      have HBY := Lib.hid hb3
      clear hs ht hm htk hb2 hb3 Hx1 Hx2 Hx3 Hx4 Hx5 Hx6 HB2 HB3 HM0
      by_cases hlt : k < x.ps.length
      · have hlt2 : k < y.ps.length := by have := HLE.out; omega
        go_upto_region 4 with (fail)
        generalize ha0 : Act.mk _ _ = a0
        have oe45 : a0.eval (.tmp 45) = .int .i64 (x.ps.length : Int) := by rw [← ha0]; rfl
        have oe46 : a0.eval (.tmp 46) = .int .i64 ((k : Nat) : Int) := by rw [← ha0]; rfl
        have hsz0 : a0.tmps.size = 62 := by rw [← ha0]; rfl
        have HA0 := hid ha0
        clear ha0
        refine wp_region_S 62 hsz0 [47] [0] ?_
        refine QSeq.pure rfl (.bool true) (fun E => ex_binE rfl (E.v oe46) (E.v oe45) (guard_ints _ _ _ _ _ _) (run_lss_i _ _ _ Try.underlying3) (congrArg Value.bool (decide_eq_true (by omega)))) ?_
        refine QSeq.nil (t' := [_]) rfl ?_
        have ha0 := HA0.out
        subst ha0
        clear HA0 hsz0 oe45 oe46
        simp only [putAll, Act.put, List.setIfInBounds_toArray, List.set_cons_zero, List.set_cons_succ]
        go_upto_region 5 with (fail)
        generalize ha0 : Act.mk _ _ = a0
        have oe46 : a0.eval (.tmp 46) = .int .i64 ((k : Nat) : Int) := by rw [← ha0]; rfl
        have hsz0 : a0.tmps.size = 62 := by rw [← ha0]; rfl
        have HA0 := hid ha0
        clear ha0
        refine wp_region_S 62 hsz0 [48, 5] [0, 1] ?_
        refine QSeq.pure rfl (.int .i64 ((k : Nat) : Int)) (fun E => ex_move rfl (E.v oe46)) ?_
        refine QSeq.pure rfl (.int .i64 ((k : Nat) : Int)) (fun E => ex_assign rfl (E.d 0 0)) ?_
        refine QSeq.nil (t' := [_, _]) rfl ?_
        have ha0 := HA0.out
        subst ha0
        clear HA0 hsz0 oe46
        simp only [putAll, Act.put, List.setIfInBounds_toArray, List.set_cons_zero, List.set_cons_succ]
        have hat := HS2.out.at hlt
        obtain ⟨g1, o1, c1, eao, hrg, hrd, hcs⟩ := hat
        subst eao
        obtain ⟨p, hp⟩ : ∃ z, z = x.ps[k] := ⟨_, rfl⟩
        rw [← hp] at hrd
        have HX1 := Lib.hid hp
        have hcl : c1.length = 6 := PmR.len hrd
        have HCL1 := Lib.hid hcl
        have HAT1 := hid (show CellsAt R wl g1 (o1 + k * 6) c1 from ⟨hrg, hcs⟩)
        have HRD1 := Lib.hid hrd
        clear hcl hcs hrd hrg hp
        have hat := HT2.out.at hlt2
        obtain ⟨g2, o2, c2, eao, hrg, hrd, hcs⟩ := hat
        subst eao
        obtain ⟨q, hq⟩ : ∃ z, z = y.ps[k] := ⟨_, rfl⟩
        rw [← hq] at hrd
        have HX2 := Lib.hid hq
        have hcl : c2.length = 6 := PmR.len hrd
        have HCL2 := Lib.hid hcl
        have HAT2 := hid (show CellsAt R2 wl g2 (o2 + k * 6) c2 from ⟨hrg, hcs⟩)
        have HRD2 := Lib.hid hrd
        clear hcl hcs hrd hrg hq
        obtain ⟨b, hb⟩ : ∃ b, b = eqb p q := ⟨_, rfl⟩
        have HB := Lib.hid hb
        clear hb
        go_upto_region 6 with (fail)
        generalize ha0 : Act.mk _ _ = a0
        have oe2 : a0.eval (.tmp 2) = .pointer (some ⟨w.heap.size, 0, none⟩) := by rw [← ha0]; rfl
        have oe3 : a0.eval (.tmp 3) = .pointer (some ⟨w.heap.size + 1, 0, none⟩) := by rw [← ha0]; rfl
        have oe5 : a0.eval (.tmp 5) = .int .i64 ((k : Nat) : Int) := by rw [← ha0]; rfl
        have hsz0 : a0.tmps.size = 62 := by rw [← ha0]; rfl
        have HA0 := hid ha0
        clear ha0
        refine wp_region_Q0 62 hsz0 [49, 50, 51, 52, 53, 54, 55, 56, 57, 58, 59, 60] [qi (.pointer (some ⟨w.heap.size, 2, none⟩)), qi (.slice (some ⟨g1, o1, none⟩) x.ps.length kx_ps), qi (.int .i64 ((k : Nat) : Int)), qi (.pointer (some ⟨g1, o1 + k * 6, none⟩)), qi (.agg c1.toArray), qi (.pointer (some ⟨w.heap.size + 1, 2, none⟩)), qi (.slice (some ⟨g2, o2, none⟩) y.ps.length ky_ps), qi (.int .i64 ((k : Nat) : Int)), qi (.pointer (some ⟨g2, o2 + k * 6, none⟩)), qi (.agg c2.toArray), qi (.bool b), qi (.bool (!b))] ⟨qi_stable, qi_stable, qi_stable, qi_stable, qi_stable, qi_stable, qi_stable, qi_stable, qi_stable, qi_stable, qi_stable, qi_stable, trivial⟩ [10] ⟨?_, ?_, ?_, ?_, ?_, ?_, ?_, ?_, ?_, ?_, ?_, ?_, trivial⟩ ?_
        · exact stq (fun E => ex_field rfl Try.underlying60 rfl (by kernel_rfl) (E.v oe2))
        · exact stq (fun E => ex_load1 rfl Try.underlying56 rfl (E.d 0) (Cs.lit1 (HBX.out.mod E.m.old (by intro h2; omega)) rfl))
        · exact stq (fun E => ex_move rfl (E.v oe5))
        · exact stq (fun E => ex_idxS (i := k) (s := 6) rfl Try.underlying56 (by kernel_rfl) (E.d 1) (E.d 2) (by first | exact hlt | exact hlt2))
        · exact stq (fun E => ex_loadA rfl Try.underlying55 rfl (off := o1 + k * 6) (cs := c1) (by rw [HCL1.out]; kernel_rfl) (E.d 3) (fun j u hu => ((HAT1.out.mod E.m.old (by intro k h1 h2; have hb := HBR.out k h1; omega))).2 j u hu))
        · exact stq (fun E => ex_field rfl Try.underlying60 rfl (by kernel_rfl) (E.v oe3))
        · exact stq (fun E => ex_load1 rfl Try.underlying56 rfl (E.d 5) (Cs.lit1 (HBY.out.mod E.m.old (by intro h2; omega)) rfl))
        · exact stq (fun E => ex_move rfl (E.v oe5))
        · exact stq (fun E => ex_idxS (i := k) (s := 6) rfl Try.underlying56 (by kernel_rfl) (E.d 6) (E.d 7) (by first | exact hlt | exact hlt2))
        · exact stq (fun E => ex_loadA rfl Try.underlying55 rfl (off := o2 + k * 6) (cs := c2) (by rw [HCL2.out]; kernel_rfl) (E.d 8) (fun j u hu => ((HAT2.out.mod E.m.old (by intro k h1 h2; have hb := HBT.out k h1; omega))).2 j u hu))
        · exact stepq_chain rfl
        · exact stq (fun E => ex_not rfl (E.d 10))
        intro u6_0 hr
        have zu6_0 := hr.size
        have Cx9 := hid (hr.new (S := (fun _ => False)))
        clear hr
        refine QChain.go fun Z act E => ?_
        refine qc_callF (args := #[.agg c1.toArray, .agg c2.toArray]) rfl (wanted_none rfl) rfl Try.func33 (args2 (E.d 4) (E.d 9)) (HB.out.symm ▸ Eq_Pm _ _ _ _ _ _ _ (HRD1.out.mod Cx9.out (fun _ _ h => h)) (HRD2.out.mod Cx9.out (fun _ _ h => h)) (by intro k h1; have hb := HBR.out k h1; omega) (by intro k h1; have hb := HBT.out k h1; omega)) ?_
        rintro e u6_1a ⟨rfl, hm⟩
        have zu6_1a := hm.size
        refine ⟨_, rfl, hm.mono (fun _ _ h => h.elim), (fun _ => rfl), ?_⟩
        intro u6_1 hr
        have zu6_1 := hr.size
        have Cx10 := hid (Cx9.out.go hm hr)
        clear Cx9 hm hr Z act E
        refine QChain.nil fun vs hl hzz hrows hne => ?_
        obtain ⟨Z, hYZ, hZb, hV⟩ := hzz
        have f2 := fvi hV hl 2
        have f7 := fvi hV hl 7
        have f10 := fvi hV hl 10
        have f11 := fvi hV hl 11
        rw [show vs = [gw vs 0, gw vs 1, gw vs 2, gw vs 3, gw vs 4, gw vs 5, gw vs 6, gw vs 7, gw vs 8, gw vs 9, gw vs 10, gw vs 11] from (gw_eta hl).trans rfl]
        have ha0 := HA0.out
        subst ha0
        clear HA0 hV hYZ hZb hsz0 hrows hne oe2 oe3 oe5
        simp only [putAll, Act.put, List.setIfInBounds_toArray, List.set_cons_zero, List.set_cons_succ, f2, f7, f10, f11]
        clear hl f2 f7 f10 f11
        cases b with
        | false =>
          go_upto_region 7 with (fail)
          generalize ha0 : Act.mk _ _ = a0
          have hsz0 : a0.tmps.size = 62 := by rw [← ha0]; rfl
          have HA0 := hid ha0
          clear ha0
          refine wp_region_S 62 hsz0 [4] [0] ?_
          refine QSeq.pure rfl (.bool false) (fun E => ex_assign rfl rfl) ?_
          refine QSeq.nil (t' := [_]) rfl ?_
          have ha0 := HA0.out
          subst ha0
          clear HA0 hsz0
          simp only [putAll, Act.put, List.setIfInBounds_toArray, List.set_cons_zero, List.set_cons_succ]
          go_wp2
          go_ret
          exact ⟨ret_bool (HEQ.out.symm.trans (take_ne hlt hlt2 (fun e => by have h := HB.out; rw [HX1.out, HX2.out, e, eqb_rfl] at h; cases h))).symm, (HML.out.trans Cx10.out (fun _ _ h => h.elim))⟩
        | true =>
          go_upto_region 8 with (fail)
          generalize ha0 : Act.mk _ _ = a0
          have oe46 : a0.eval (.tmp 46) = .int .i64 ((k : Nat) : Int) := by rw [← ha0]; rfl
          have hsz0 : a0.tmps.size = 62 := by rw [← ha0]; rfl
          have HA0 := hid ha0
          clear ha0
          refine wp_region_S 62 hsz0 [61, 46] [0, 1] ?_
          refine QSeq.pure rfl (.int .i64 (((k : Nat) : Int) + 1)) (fun E => ex_binE rfl (E.y 1 oe46) rfl (guard_ints _ _ _ _ _ _) (run_add_i _ _ Try.underlying3) (congrArg (Value.int .i64) (IntWalk.i64_in _ (by omega)))) ?_
          refine QSeq.pure rfl (.int .i64 (((k : Nat) : Int) + 1)) (fun E => ex_move rfl (E.d 0 0)) ?_
          refine QSeq.nil (t' := [_, _]) rfl ?_
          have ha0 := HA0.out
          subst ha0
          clear HA0 hsz0 oe46
          simp only [putAll, Act.put, List.setIfInBounds_toArray, List.set_cons_zero, List.set_cons_succ]
          go_wp2
          go_roundw
          case rel => exact ⟨k + 1, by go_num, by omega, take_succ2 hlt hlt2 HTK.out (by have h := eqb_iff.1 HB.out.symm; rw [HX1.out, HX2.out] at h; exact h), by omega, (HS2.out.mod Cx10.out (fun _ _ h => h)), (HT2.out.mod Cx10.out (fun _ _ h => h)), (HBX.out.mod Cx10.out (fun h => h)), (HBY.out.mod Cx10.out (fun h => h)), (HML.out.trans Cx10.out (fun _ _ h => h.elim))⟩
          case measure => simp [intOf] <;> omega
      · skip
        go_upto_region 4 with (fail)
        generalize ha0 : Act.mk _ _ = a0
        have oe45 : a0.eval (.tmp 45) = .int .i64 (x.ps.length : Int) := by rw [← ha0]; rfl
        have oe46 : a0.eval (.tmp 46) = .int .i64 ((k : Nat) : Int) := by rw [← ha0]; rfl
        have hsz0 : a0.tmps.size = 62 := by rw [← ha0]; rfl
        have HA0 := hid ha0
        clear ha0
        refine wp_region_S 62 hsz0 [47] [0] ?_
        refine QSeq.pure rfl (.bool false) (fun E => ex_binE rfl (E.v oe46) (E.v oe45) (guard_ints _ _ _ _ _ _) (run_lss_i _ _ _ Try.underlying3) (congrArg Value.bool (decide_eq_false (by omega)))) ?_
        refine QSeq.nil (t' := [_]) rfl ?_
        have ha0 := HA0.out
        subst ha0
        clear HA0 hsz0 oe45 oe46
        simp only [putAll, Act.put, List.setIfInBounds_toArray, List.set_cons_zero, List.set_cons_succ]
        go_upto_region 9 with (fail)
        generalize ha0 : Act.mk _ _ = a0
        have hsz0 : a0.tmps.size = 62 := by rw [← ha0]; rfl
        have HA0 := hid ha0
        clear ha0
        refine wp_region_S 62 hsz0 [4] [0] ?_
        refine QSeq.pure rfl (.bool true) (fun E => ex_assign rfl rfl) ?_
        refine QSeq.nil (t' := [_]) rfl ?_
        have ha0 := HA0.out
        subst ha0
        clear HA0 hsz0
        simp only [putAll, Act.put, List.setIfInBounds_toArray, List.set_cons_zero, List.set_cons_succ]
        go_wp2
        go_ret
        exact ⟨ret_bool (HEQ.out.symm.trans (take_all (by omega) (by have := HLE.out; omega) HTK.out)).symm, HML.out⟩
end Go.Proofs.Ytknpapcfhnhheaa

/- wire.ValidConf, N, Quorum, and the statement WireConfs. -/
set_option maxRecDepth 100000
namespace Go.Proofs.Ytknpapcfhnhheaa
open Go Go.RowKit Go.Gv

theorem N_any (F C : Int) (h : -1000 ≤ F ∧ F ≤ 1000) (w : World) : Calls Try.prog 48 #[.agg #[.int .i64 F, .int .i64 C]] w fun e w' => e = .returned (.int .i64 (3 * F + 1)) ∧ Mod (fun _ => False) w w' := by
  obtain ⟨h1, h2⟩ := h
  go_enter Try.func48, Try.ntmps48
  go_wp2
  go_ret
  exact ⟨rfl, (Mod.refl _ _).alloc _⟩
theorem Quorum_any (F C : Int) (h : -1000 ≤ F ∧ F ≤ 1000) (w : World) : Calls Try.prog 49 #[.agg #[.int .i64 F, .int .i64 C]] w fun e w' => e = .returned (.int .i64 (2 * F + 1)) ∧ Mod (fun _ => False) w w' := by
  obtain ⟨h1, h2⟩ := h
  go_enter Try.func49, Try.ntmps49
  go_wp2
  go_ret
  exact ⟨rfl, (Mod.refl _ _).alloc _⟩

theorem wakes05 (w : World) : Calls Try.prog 19 #[] w fun e w' => e = .returned (.bool true) ∧ Mod (fun _ => False) w w' := by
  go_enter Try.func19, Try.ntmps19
  go_wp2_with fail
  refine (N_any 1 0 (by omega) _).mono ?_
  rintro e w1 ⟨rfl, hm1⟩
  have HM1 := Lib.hid hm1
  clear hm1
  go_wp2_with fail
  refine (Quorum_any 1 0 (by omega) _).mono ?_
  rintro e w2 ⟨rfl, hm2⟩
  have HM2 := Lib.hid hm2
  clear hm2
  go_wp2
  go_ret
  exact ⟨rfl, HM1.out.trans HM2.out (fun _ _ h => h)⟩

end Go.Proofs.Ytknpapcfhnhheaa

/- gavellaw05.turned. -/
set_option maxRecDepth 100000
set_option linter.unusedVariables false
namespace Go.Proofs.Ytknpapcfhnhheaa
open Go Go.RowKit Go.Gv


/-- the block of bytes that are one's own: one of them may be written -/
theorem OwR.cs {R : Nat → Prop} {N n cap : Nat} {ao : Option Addr} {w : World} {bs : List Int} (h : OwR R N w (.slice ao n cap) bs) (hp : 0 < bs.length) :
    ∃ g cl, ao = some ⟨g, 0, none⟩ ∧ Cs w g (List.toArray cl) 5 ∧ R g ∧ (∀ i (hi : i < bs.length), cl[i]? = some (bv bs[i])) ∧ bs.length ≤ cl.length ∧
      ∀ w' i x, i < bs.length → 0 ≤ x ∧ x < 256 → Cs w' g (List.toArray (cl.set i (bv x))) 5 → OwR R N w' (.slice ao n cap) (bs.set i x) := by
  obtain ⟨h1, h2, h3⟩ := h
  have hby := h1.bytes
  obtain ⟨hl, hE, ⟨e, hn⟩ | ⟨g, cap', cur, e, hc, q1, q2, q3, q4, q5⟩⟩ := h1
  · have : bs.length = 0 := by simpa using hn
    omega
  · injection e with e1 e2 e3
    subst e1 e2 e3
    have hget : ∀ i (hi : i < bs.length), cur.toList[i]? = some (bv bs[i]) := by
      intro i hi
      have e : (cur.toList.take (bs.length * 1))[i]? = (bs.map bv)[i]? := by rw [q4]
      rw [List.getElem?_take, if_pos (by omega)] at e
      rw [e]
      simp [hi]
    have hlen : bs.length ≤ cur.toList.length := by have : cur.toList.length = cur.size := rfl; omega
    refine ⟨g, cur.toList, rfl, hc, h2 g rfl, hget, hlen, fun w' i x hi hx hc' => ⟨?_, h2, by simpa using h3⟩⟩
    have hbx : ∀ z ∈ bs.set i x, 0 ≤ z ∧ z < 256 := fun z hz => by
      rcases List.mem_or_eq_of_mem_set hz with hz | rfl
      · exact hby z hz
      · exact hx
    refine ⟨by simp, isB_all hbx, .inr ⟨g, cap, _, by simp, hc', by simpa using q1, q2, ?_, ?_, ?_⟩⟩
    · simpa using q3
    · have : ((cur.toList.set i (bv x)).toArray.toList.take ((bs.set i x).length * 1)) = (bs.set i x).map bv := by
        simp only [List.length_set, List.map_set, Nat.mul_one]
        rw [List.take_set, ← q4, Nat.mul_one]
      exact this
    · intro u hu
      have hu' : u ∈ cur.toList.set i (bv x) := hu
      rcases List.mem_or_eq_of_mem_set hu' with hu' | rfl
      · exact q5 u hu'
      · exact ⟨x, rfl, hx⟩
end Go.Proofs.Ytknpapcfhnhheaa

/- WireBack: the walk. -/
set_option maxRecDepth 100000
set_option linter.unusedVariables false
namespace Go.Proofs.Ytknpapcfhnhheaa
open Go Go.RowKit Go.Gv

theorem Eqs.same {α : Type} {A : Rep α} {F : FuncId} (h : Eqs A F) {R R2 : Nat → Prop} {cs ds : List Value} {x : α} {w : World} (h1 : A.rd R w cs x) (h2 : A.rd R2 w ds x) (h3 : ∀ k, R k → k < w.heap.size) (h4 : ∀ k, R2 k → k < w.heap.size) :
    Calls Try.prog F #[.agg cs.toArray, .agg ds.toArray] w fun e w' => e = .returned (.bool true) ∧ Mod (fun _ => False) w w' :=
  (h R R2 cs ds x x w h1 h2 h3 h4).mono fun e w' ⟨he, hm⟩ => ⟨by rw [he, eqb_rfl], hm⟩

theorem gW_of {α : Type} {z x : α} {g : RSt → α × RSt} {s : RSt} {l : List Int} (h : g s = (x, some l)) : (gW z g s).1 = x ∧ (gW z g s).2 = some l := by unfold gW; rw [h]; exact ⟨rfl, rfl⟩
set_option maxHeartbeats 8000000 in
theorem LBack_any (R2 : Nat → Prop) (x : Ce) (p : Pm) (b : Ba) (cx cp cb : List Value) (vt : Value) (tl : List Int) (N : Nat) (w : World) (hx : CeR.rd R2 w cx x) (hp : PmR.rd R2 w cp p) (hb : BaR.rd R2 w cb b) (ht : RdR R2 N w vt tl) (hB2 : ∀ k, R2 k → k < w.heap.size) :
    Calls Try.prog 8 #[.agg cx.toArray, .agg cp.toArray, .agg cb.toArray, vt] w fun e w' => e = .returned (.bool true) ∧ Mod (fun _ => False) w w' := by
  have Hx := Lib.hid hx
  have Hp := Lib.hid hp
  have Hb := Lib.hid hb
  have HCx := hid (CeR.len hx)
  have HCp := hid (PmR.len hp)
  have HCb := hid (BaR.len hb)
  have HT := Lib.hid ht
  obtain ⟨aot, capt, rfl⟩ := ht.shape
  have HBT := Lib.hid hB2
  clear hx hp hb ht hB2
  obtain ⟨tt, htt, htl⟩ : ∃ z, tl.take 9 = z ∧ z.length ≤ 9 := ⟨_, rfl, by rw [List.length_take]; omega⟩
  have HTT := Lib.hid htt
  have HTL := Lib.hid htl
  clear htt htl
  go_enter Try.func8, Try.ntmps8
  go_upto_region 1 with (fail)
  obtain ⟨w1, hw1⟩ : ∃ zz, zz = (((w.alloc (.cells (cx : List Value).toArray 52)).alloc (.cells (cp : List Value).toArray 55)).alloc (.cells (cb : List Value).toArray 60)) := ⟨_, rfl⟩
  change Code.wp _ _ _ _ (((w.alloc (.cells (cx : List Value).toArray 52)).alloc (.cells (cp : List Value).toArray 55)).alloc (.cells (cb : List Value).toArray 60))
  rw [← hw1]
  have HB4 := hid (show Cs w1 (w.heap.size) (cx : List Value).toArray 52 by rw [hw1]; exact ((Cs.new _ _ _).alloc _).alloc _)
  have HB5 := hid (show Cs w1 (w.heap.size + 1) (cp : List Value).toArray 55 by rw [hw1]; exact (Cs_newN _ _ _ (by simp)).alloc _)
  have HB6 := hid (show Cs w1 (w.heap.size + 2) (cb : List Value).toArray 60 by rw [hw1]; exact Cs_newN _ _ _ (by simp))
  have hm : Mod (fun _ => False) w w1 := by rw [hw1]; exact (((Mod.refl _ _).alloc _).alloc _).alloc _
  have HM0 := hid (show Mod (fun _ => False) w w1 from hm.mono (fun _ _ h => h.elim))
  have hs1 : w1.heap.size = w.heap.size + 3 := by rw [hw1]; simp
  have Hx1 := hid (Hx.out.mod hm (fun _ _ h => h))
  clear Hx
  have Hx2 := hid (Hp.out.mod hm (fun _ _ h => h))
  clear Hp
  have Hx3 := hid (Hb.out.mod hm (fun _ _ h => h))
  clear Hb
  have Hx4 := hid (HT.out.mod hm (fun _ _ h => h))
  clear HT
  clear hw1 hm
  go_upto_region 1 with (fail)
  generalize ha0 : Act.mk _ _ = a0
  have oe3 : a0.eval (.tmp 3) = .slice aot tl.length capt := by rw [← ha0]; rfl
  have oe4 : a0.eval (.tmp 4) = .pointer (some ⟨w.heap.size, 0, none⟩) := by rw [← ha0]; rfl
  have oe5 : a0.eval (.tmp 5) = .pointer (some ⟨w.heap.size + 1, 0, none⟩) := by rw [← ha0]; rfl
  have oe6 : a0.eval (.tmp 6) = .pointer (some ⟨w.heap.size + 2, 0, none⟩) := by rw [← ha0]; rfl
  have hsz0 : a0.tmps.size = 77 := by rw [← ha0]; rfl
  have HA0 := hid ha0
  clear ha0
  refine wp_region_Q1 77 hsz0 [14, 15, 16, 17, 18, 19, 20, 21, 22, 23, 24, 88, 89, 90, 3] (fun k => (k = w.heap.size) ∨ (k = w.heap.size + 1) ∨ (k = w.heap.size + 2)) (fun k j => (k = 7 ∧ ((j = w.heap.size))) ∨ (k = 8 ∧ ((j = w.heap.size + 1))) ∨ (k = 9 ∧ ((j = w.heap.size + 2)))) (by intro k j h; (try dsimp only at h ⊢); omega) [qi (.agg cx.toArray), qv 0, qv 1, qi (.agg cp.toArray), qv 2, qv 3, qi (.agg cb.toArray), qv 4, qv 5, qi (.slice aot tl.length capt), qv 6, qv 7, qv 8, qv 9, qv 6] ⟨qi_stable, qv_stable, qv_stable, qi_stable, qv_stable, qv_stable, qi_stable, qv_stable, qv_stable, qi_stable, qv_stable, qv_stable, qv_stable, qv_stable, qv_stable, trivial⟩ [1, 2, 4, 5, 7, 8, 10, 11, 12, 13] ⟨?_, ?_, ?_, ?_, ?_, ?_, ?_, ?_, ?_, ?_, ?_, ?_, ?_, ?_, ?_, trivial⟩ ?_
  · refine stepq_env rfl rfl rfl fun _ _ _ _ _ _ hm0 hout _ _ hub _ => ?_
    refine qe_run rfl (wanted_none rfl) (ex_loadA rfl Try.underlying52 rfl (off := 0) (cs := cx) (by rw [HCx.out]; kernel_rfl) ((hout 4 (by decide)).trans oe4) (Cs.whole (HB4.out.mod hm0 (by intro h2; have hu := hub 7 11 rfl (by kernel_rfl); rcases h2 with ⟨h0, kk, hk, h2⟩ | h2 <;> omega)))) QE.refl ?_
    rfl
  · exact stepq_chain rfl
  · exact stepq_chain rfl
  · refine stepq_env rfl rfl rfl fun _ _ _ _ _ _ hm0 hout _ _ hub _ => ?_
    refine qe_run rfl (wanted_none rfl) (ex_loadA rfl Try.underlying55 rfl (off := 0) (cs := cp) (by rw [HCp.out]; kernel_rfl) ((hout 5 (by decide)).trans oe5) (Cs.whole (HB5.out.mod hm0 (by intro h2; have hu := hub 8 12 rfl (by kernel_rfl); rcases h2 with ⟨h0, kk, hk, h2⟩ | h2 <;> omega)))) QE.refl ?_
    rfl
  · exact stepq_chain rfl
  · exact stepq_chain rfl
  · refine stepq_env rfl rfl rfl fun _ _ _ _ _ _ hm0 hout _ _ hub _ => ?_
    refine qe_run rfl (wanted_none rfl) (ex_loadA rfl Try.underlying60 rfl (off := 0) (cs := cb) (by rw [HCb.out]; kernel_rfl) ((hout 6 (by decide)).trans oe6) (Cs.whole (HB6.out.mod hm0 (by intro h2; have hu := hub 9 13 rfl (by kernel_rfl); rcases h2 with ⟨h0, kk, hk, h2⟩ | h2 <;> omega)))) QE.refl ?_
    rfl
  · exact stepq_chain rfl
  · exact stepq_chain rfl
  · exact stq (fun E => ex_move rfl ((E.pre 14 3 rfl (by kernel_rfl)).trans oe3))
  · exact stepq_chain rfl
  · exact stepq_chain rfl
  · exact stepq_chain rfl
  · exact stepq_chain rfl
  · refine stepq_env rfl rfl rfl fun _ _ _ _ _ _ _ _ _ hd _ _ => ?_
    have h10 := hd ⟨10, .data⟩ (by simp) rfl _ rfl
    exact qe_run rfl (wanted_none rfl) (ex_assign rfl rfl) QE.refl h10
  intro u1_0 hr
  have zu1_0 := hr.size
  have Cx5 := hid (hr.new (S := (fun k => (k = w.heap.size) ∨ (k = w.heap.size + 1) ∨ (k = w.heap.size + 2))))
  have Hx6 := hid (HB4.out.mod hr (by intro h2; omega))
  clear HB4
  have Hx7 := hid (HB5.out.mod hr (by intro h2; omega))
  clear HB5
  have Hx8 := hid (HB6.out.mod hr (by intro h2; omega))
  clear HB6
  clear hr
  refine QChain.go fun Z act E => ?_
  refine qc_callF (args := #[.agg cx.toArray]) rfl (wanted_none rfl) rfl Try.func21 (args1 (E.d 0)) (LCert_c _ x _ _ (Hx1.out.mod Cx5.out (by intro k h1 h2; have hb := HBT.out k h1; omega)) (by intro k h1; have hb := HBT.out k h1; omega)) ?_
  rintro e u1_1a ⟨dx1, rfl, qtx, hm⟩
  have zu1_1a := hm.size
  refine ⟨_, rfl, hm.mono (fun _ _ h => h.elim), (fun _ => rfl), ?_⟩
  intro u1_1 hr
  have zu1_1 := hr.size
  have Hx9 := hid ((qtx.widen (R' := (fun k => (R2 k) ∨ (New u1_0 u1_1a k))) (fun _ h => h)).mod hr (by intro k h1 h2; rcases h1 with h1 | h1 <;> first | omega | (have hb := HBT.out k h1; omega)))
  have hmr := Mod.after hm hr
  have Hx10 := hid (Hx6.out.mod hmr (by intro h2; omega))
  have Hx11 := hid (Hx7.out.mod hmr (by intro h2; omega))
  have Hx12 := hid (Hx8.out.mod hmr (by intro h2; omega))
  clear Hx6 Hx7 Hx8
  clear hmr
  have Cx13 := hid (Cx5.out.go hm hr)
  clear Cx5 hm hr Z act E qtx Hx1
  refine QChain.go fun Z act E => ?_
  refine qc_callF (args := #[.agg dx1.toArray]) rfl (wanted_none rfl) rfl Try.func53 (args1 (chv (v := .agg dx1.toArray) (E.d 1))) (nice_c _ (cutCe x) _ _ Hx9.out (by intro k h1; rcases h1 with h1 | h1 <;> first | omega | (have hb := HBT.out k h1; omega)) (few_Ce x)) ?_
  rintro e u1_2a ⟨dx2, rfl, qtx, hm⟩
  have HLx := hid (CeR.len qtx)
  have HOx := hid (CeR.one qtx)
  have HNx := hid (ceB_nic qtx)
  have HKx := hid (CeOk_nic qtx)
  have zu1_2a := hm.size
  refine ⟨_, rfl, hm.mono (fun _ _ h => h.elim), (fun _ => rfl), ?_⟩
  intro u1_2 hr
  have zu1_2 := hr.size
  have Hx14 := hid ((qtx.widen (R' := (fun k => (R2 k) ∨ (New u1_0 u1_1a k) ∨ (New u1_1 u1_2a k))) (by intro k h1; simp only [or_assoc] at h1 ⊢; exact h1)).mod hr (by intro k h1 h2; rcases h1 with h1 | h1 | h1 <;> first | omega | (have hb := HBT.out k h1; omega)))
  have hmr := Mod.after hm hr
  have Hx15 := hid (Hx10.out.mod hmr (by intro h2; omega))
  have Hx16 := hid (Hx11.out.mod hmr (by intro h2; omega))
  have Hx17 := hid (Hx12.out.mod hmr (by intro h2; omega))
  clear Hx10 Hx11 Hx12
  clear hmr
  have Cx18 := hid (Cx13.out.go hm hr)
  clear Cx13 hm hr Z act E qtx Hx9
  refine QChain.go fun Z act E => ?_
  refine qc_callF (args := #[.agg cp.toArray]) rfl (wanted_none rfl) rfl Try.func23 (args1 (E.d 3)) (LPromise_c _ p _ _ (Hx2.out.mod Cx18.out (by intro k h1 h2; have hb := HBT.out k h1; omega)) (by intro k h1; have hb := HBT.out k h1; omega)) ?_
  rintro e u1_3a ⟨dp1, rfl, qtp, hm⟩
  have zu1_3a := hm.size
  refine ⟨_, rfl, hm.mono (fun _ _ h => h.elim), (fun _ => rfl), ?_⟩
  intro u1_3 hr
  have zu1_3 := hr.size
  have Hx19 := hid ((qtp.widen (R' := (fun k => (R2 k) ∨ (New u1_2 u1_3a k))) (fun _ h => h)).mod hr (by intro k h1 h2; rcases h1 with h1 | h1 <;> first | omega | (have hb := HBT.out k h1; omega)))
  have hmr := Mod.after hm hr
  have Hx20 := hid (Hx14.out.mod hmr (by intro k h1 h2; rcases h1 with h1 | h1 | h1 <;> first | omega | (have hb := HBT.out k h1; omega)))
  have Hx21 := hid (Hx15.out.mod hmr (by intro h2; omega))
  have Hx22 := hid (Hx16.out.mod hmr (by intro h2; omega))
  have Hx23 := hid (Hx17.out.mod hmr (by intro h2; omega))
  clear Hx14 Hx15 Hx16 Hx17
  clear hmr
  have Cx24 := hid (Cx18.out.go hm hr)
  clear Cx18 hm hr Z act E qtp Hx2
  refine QChain.go fun Z act E => ?_
  refine qc_callF (args := #[.agg dp1.toArray]) rfl (wanted_none rfl) rfl Try.func54 (args1 (chv (v := .agg dp1.toArray) (E.d 4))) (nicePromise_c _ (cutPm p) _ _ Hx19.out (by intro k h1; rcases h1 with h1 | h1 <;> first | omega | (have hb := HBT.out k h1; omega)) (few_Pm p)) ?_
  rintro e u1_4a ⟨dp2, rfl, qtp, hm⟩
  have HLp := hid (PmR.len qtp)
  have HOp := hid (PmR.one qtp)
  have HNp := hid (pmB_nic qtp)
  have HKp := hid (PmOk_nic qtp)
  have zu1_4a := hm.size
  refine ⟨_, rfl, hm.mono (fun _ _ h => h.elim), (fun _ => rfl), ?_⟩
  intro u1_4 hr
  have zu1_4 := hr.size
  have Hx25 := hid ((qtp.widen (R' := (fun k => (R2 k) ∨ (New u1_2 u1_3a k) ∨ (New u1_3 u1_4a k))) (by intro k h1; simp only [or_assoc] at h1 ⊢; exact h1)).mod hr (by intro k h1 h2; rcases h1 with h1 | h1 | h1 <;> first | omega | (have hb := HBT.out k h1; omega)))
  have hmr := Mod.after hm hr
  have Hx26 := hid (Hx20.out.mod hmr (by intro k h1 h2; rcases h1 with h1 | h1 | h1 <;> first | omega | (have hb := HBT.out k h1; omega)))
  have Hx27 := hid (Hx21.out.mod hmr (by intro h2; omega))
  have Hx28 := hid (Hx22.out.mod hmr (by intro h2; omega))
  have Hx29 := hid (Hx23.out.mod hmr (by intro h2; omega))
  clear Hx20 Hx21 Hx22 Hx23
  clear hmr
  have Cx30 := hid (Cx24.out.go hm hr)
  clear Cx24 hm hr Z act E qtp Hx19
  refine QChain.go fun Z act E => ?_
  refine qc_callF (args := #[.agg cb.toArray]) rfl (wanted_none rfl) rfl Try.func25 (args1 (E.d 6)) (LBatch_c _ b _ _ (Hx3.out.mod Cx30.out (by intro k h1 h2; have hb := HBT.out k h1; omega)) (by intro k h1; have hb := HBT.out k h1; omega)) ?_
  rintro e u1_5a ⟨db1, rfl, qtb, hm⟩
  have zu1_5a := hm.size
  refine ⟨_, rfl, hm.mono (fun _ _ h => h.elim), (fun _ => rfl), ?_⟩
  intro u1_5 hr
  have zu1_5 := hr.size
  have Hx31 := hid ((qtb.widen (R' := (fun k => (R2 k) ∨ (New u1_4 u1_5a k))) (fun _ h => h)).mod hr (by intro k h1 h2; rcases h1 with h1 | h1 <;> first | omega | (have hb := HBT.out k h1; omega)))
  have hmr := Mod.after hm hr
  have Hx32 := hid (Hx26.out.mod hmr (by intro k h1 h2; rcases h1 with h1 | h1 | h1 <;> first | omega | (have hb := HBT.out k h1; omega)))
  have Hx33 := hid (Hx25.out.mod hmr (by intro k h1 h2; rcases h1 with h1 | h1 | h1 <;> first | omega | (have hb := HBT.out k h1; omega)))
  have Hx34 := hid (Hx27.out.mod hmr (by intro h2; omega))
  have Hx35 := hid (Hx28.out.mod hmr (by intro h2; omega))
  have Hx36 := hid (Hx29.out.mod hmr (by intro h2; omega))
  clear Hx26 Hx25 Hx27 Hx28 Hx29
  clear hmr
  have Cx37 := hid (Cx30.out.go hm hr)
  clear Cx30 hm hr Z act E qtb Hx3
  refine QChain.go fun Z act E => ?_
  refine qc_callF (args := #[.agg db1.toArray]) rfl (wanted_none rfl) rfl Try.func41 (args1 (chv (v := .agg db1.toArray) (E.d 7))) (niceBatch_c _ (cutBa b) _ _ Hx31.out (by intro k h1; rcases h1 with h1 | h1 <;> first | omega | (have hb := HBT.out k h1; omega)) (few_Ba b)) ?_
  rintro e u1_6a ⟨db2, rfl, qtb, hm⟩
  have HLb := hid (BaR.len qtb)
  have HOb := hid (BaR.one qtb)
  have HNb := hid (baB_nic qtb)
  have HKb := hid (BaOk_nic qtb)
  have zu1_6a := hm.size
  refine ⟨_, rfl, hm.mono (fun _ _ h => h.elim), (fun _ => rfl), ?_⟩
  intro u1_6 hr
  have zu1_6 := hr.size
  have Hx38 := hid ((qtb.widen (R' := (fun k => (R2 k) ∨ (New u1_4 u1_5a k) ∨ (New u1_5 u1_6a k))) (by intro k h1; simp only [or_assoc] at h1 ⊢; exact h1)).mod hr (by intro k h1 h2; rcases h1 with h1 | h1 | h1 <;> first | omega | (have hb := HBT.out k h1; omega)))
  have hmr := Mod.after hm hr
  have Hx39 := hid (Hx32.out.mod hmr (by intro k h1 h2; rcases h1 with h1 | h1 | h1 <;> first | omega | (have hb := HBT.out k h1; omega)))
  have Hx40 := hid (Hx33.out.mod hmr (by intro k h1 h2; rcases h1 with h1 | h1 | h1 <;> first | omega | (have hb := HBT.out k h1; omega)))
  have Hx41 := hid (Hx34.out.mod hmr (by intro h2; omega))
  have Hx42 := hid (Hx35.out.mod hmr (by intro h2; omega))
  have Hx43 := hid (Hx36.out.mod hmr (by intro h2; omega))
  clear Hx32 Hx33 Hx34 Hx35 Hx36
  clear hmr
  have Cx44 := hid (Cx37.out.go hm hr)
  clear Cx37 hm hr Z act E qtb Hx31
  refine QChain.go fun Z act E => ?_
  refine qc_callF (args := #[.slice aot tl.length capt, .int .i64 9]) rfl (wanted_none rfl) rfl Try.func26 (args2 (E.d 9) rfl) (Cut_R 9 (Hx4.out.mod Cx44.out (by intro k h1 h2; have hb := HBT.out k h1; omega)) (by decide)) ?_
  rintro e u1_7a ⟨v9, rfl, qtl9, hm⟩
  rw [HTT.out] at qtl9
  obtain ⟨aou, capu, rfl⟩ := qtl9.shape
  have zu1_7a := hm.size
  refine ⟨_, rfl, hm.mono (fun _ _ h => h.elim), (fun _ => rfl), ?_⟩
  intro u1_7 hr
  have zu1_7 := hr.size
  have Hx45 := hid ((qtl9.widen (R' := (fun k => (New u1_6 u1_7a k))) (fun _ h => h) (Nat.le_refl _)).mod hr (by intro k h1 h2; omega))
  have hmr := Mod.after hm hr
  have Hx46 := hid (Hx39.out.mod hmr (by intro k h1 h2; rcases h1 with h1 | h1 | h1 <;> first | omega | (have hb := HBT.out k h1; omega)))
  have Hx47 := hid (Hx40.out.mod hmr (by intro k h1 h2; rcases h1 with h1 | h1 | h1 <;> first | omega | (have hb := HBT.out k h1; omega)))
  have Hx48 := hid (Hx38.out.mod hmr (by intro k h1 h2; rcases h1 with h1 | h1 | h1 <;> first | omega | (have hb := HBT.out k h1; omega)))
  have Hx49 := hid (Hx41.out.mod hmr (by intro h2; omega))
  have Hx50 := hid (Hx42.out.mod hmr (by intro h2; omega))
  have Hx51 := hid (Hx43.out.mod hmr (by intro h2; omega))
  clear Hx39 Hx40 Hx38 Hx41 Hx42 Hx43
  clear hmr
  have Cx52 := hid (Cx44.out.go hm hr)
  clear Cx44 hm hr Z act E qtl9
  refine QChain.go fun Z act E => ?_
  refine qc_store rfl (wanted_none rfl) rfl Hx49.out (off := 0) (vs := dx2) (by rw [HLx.out]; kernel_rfl) HOx.out (by have h1 := HCx.out; have h2 := HLx.out; show 0 + List.length dx2 ≤ List.length cx; omega) (E.v oe4) (by rw [show act.eval ((.tmp 16)) = _ from (chv (v := .agg dx2.toArray) (E.d 2))]; rfl) ?_
  intro u1_8a qc0 hm
  have qB4 : Cs u1_8a (w.heap.size) (dx2 : List Value).toArray 52 := by rw [show lay _ 0 _ = (dx2 : List Value).toArray from lay_whole cx.toArray _ (by have h1 := HCx.out; have h2 := HLx.out; show List.length cx = List.length dx2; omega)] at qc0; exact qc0
  clear qc0
  have zu1_8a := hm.size
  refine ⟨hm.mono (by intro k hk h; omega), (fun _ => rfl), ?_⟩
  intro u1_8 hr
  have zu1_8 := hr.size
  have Hx53 := hid (qB4.mod hr (by intro h2; omega))
  have hmr := hm.two hr
  have Hx54 := hid (Hx46.out.mod hmr (by intro k h1 h2; rcases h1 with h1 | h1 | h1 <;> first | omega | (have hb := HBT.out k h1; omega)))
  have Hx55 := hid (Hx47.out.mod hmr (by intro k h1 h2; rcases h1 with h1 | h1 | h1 <;> first | omega | (have hb := HBT.out k h1; omega)))
  have Hx56 := hid (Hx48.out.mod hmr (by intro k h1 h2; rcases h1 with h1 | h1 | h1 <;> first | omega | (have hb := HBT.out k h1; omega)))
  have Hx57 := hid (Hx50.out.mod hmr (by intro h2; omega))
  have Hx58 := hid (Hx51.out.mod hmr (by intro h2; omega))
  have Hx59 := hid (Hx45.out.mod hmr (by intro k h1 h2; omega))
  clear Hx46 Hx47 Hx48 Hx50 Hx51 Hx45
  clear hmr
  have Cx60 := hid (Cx52.out.goM hm hr (by intro k h0 h2; omega))
  clear Cx52 hm hr Z act E qB4 Hx49
  refine QChain.go fun Z act E => ?_
  refine qc_store rfl (wanted_none rfl) rfl Hx57.out (off := 0) (vs := dp2) (by rw [HLp.out]; kernel_rfl) HOp.out (by have h1 := HCp.out; have h2 := HLp.out; show 0 + List.length dp2 ≤ List.length cp; omega) (E.v oe5) (by rw [show act.eval ((.tmp 19)) = _ from (chv (v := .agg dp2.toArray) (E.d 5))]; rfl) ?_
  intro u1_9a qc0 hm
  have qB5 : Cs u1_9a (w.heap.size + 1) (dp2 : List Value).toArray 55 := by rw [show lay _ 0 _ = (dp2 : List Value).toArray from lay_whole cp.toArray _ (by have h1 := HCp.out; have h2 := HLp.out; show List.length cp = List.length dp2; omega)] at qc0; exact qc0
  clear qc0
  have zu1_9a := hm.size
  refine ⟨hm.mono (by intro k hk h; omega), (fun _ => rfl), ?_⟩
  intro u1_9 hr
  have zu1_9 := hr.size
  have Hx61 := hid (qB5.mod hr (by intro h2; omega))
  have hmr := hm.two hr
  have Hx62 := hid (Hx54.out.mod hmr (by intro k h1 h2; rcases h1 with h1 | h1 | h1 <;> first | omega | (have hb := HBT.out k h1; omega)))
  have Hx63 := hid (Hx55.out.mod hmr (by intro k h1 h2; rcases h1 with h1 | h1 | h1 <;> first | omega | (have hb := HBT.out k h1; omega)))
  have Hx64 := hid (Hx56.out.mod hmr (by intro k h1 h2; rcases h1 with h1 | h1 | h1 <;> first | omega | (have hb := HBT.out k h1; omega)))
  have Hx65 := hid (Hx53.out.mod hmr (by intro h2; omega))
  have Hx66 := hid (Hx58.out.mod hmr (by intro h2; omega))
  have Hx67 := hid (Hx59.out.mod hmr (by intro k h1 h2; omega))
  clear Hx54 Hx55 Hx56 Hx53 Hx58 Hx59
  clear hmr
  have Cx68 := hid (Cx60.out.goM hm hr (by intro k h0 h2; omega))
  clear Cx60 hm hr Z act E qB5 Hx57
  refine QChain.go fun Z act E => ?_
  refine qc_store rfl (wanted_none rfl) rfl Hx66.out (off := 0) (vs := db2) (by rw [HLb.out]; kernel_rfl) HOb.out (by have h1 := HCb.out; have h2 := HLb.out; show 0 + List.length db2 ≤ List.length cb; omega) (E.v oe6) (by rw [show act.eval ((.tmp 22)) = _ from (chv (v := .agg db2.toArray) (E.d 8))]; rfl) ?_
  intro u1_10a qc0 hm
  have qB6 : Cs u1_10a (w.heap.size + 2) (db2 : List Value).toArray 60 := by rw [show lay _ 0 _ = (db2 : List Value).toArray from lay_whole cb.toArray _ (by have h1 := HCb.out; have h2 := HLb.out; show List.length cb = List.length db2; omega)] at qc0; exact qc0
  clear qc0
  have zu1_10a := hm.size
  refine ⟨hm.mono (by intro k hk h; omega), (fun _ => rfl), ?_⟩
  intro u1_10 hr
  have zu1_10 := hr.size
  have Hx69 := hid (qB6.mod hr (by intro h2; omega))
  have hmr := hm.two hr
  have Hx70 := hid (Hx62.out.mod hmr (by intro k h1 h2; rcases h1 with h1 | h1 | h1 <;> first | omega | (have hb := HBT.out k h1; omega)))
  have Hx71 := hid (Hx63.out.mod hmr (by intro k h1 h2; rcases h1 with h1 | h1 | h1 <;> first | omega | (have hb := HBT.out k h1; omega)))
  have Hx72 := hid (Hx64.out.mod hmr (by intro k h1 h2; rcases h1 with h1 | h1 | h1 <;> first | omega | (have hb := HBT.out k h1; omega)))
  have Hx73 := hid (Hx65.out.mod hmr (by intro h2; omega))
  have Hx74 := hid (Hx61.out.mod hmr (by intro h2; omega))
  have Hx75 := hid (Hx67.out.mod hmr (by intro k h1 h2; omega))
  clear Hx62 Hx63 Hx64 Hx65 Hx61 Hx67
  clear hmr
  have Cx76 := hid (Cx68.out.goM hm hr (by intro k h0 h2; omega))
  clear Cx68 hm hr Z act E qB6 Hx66
  refine QChain.nil fun vs hl hzz hrows hne => ?_
  obtain ⟨Z, hYZ, hZb, hV⟩ := hzz
  have f1 := fvc hV hl 1
  have f2 := fvc hV hl 2
  have f4 := fvc hV hl 4
  have f5 := fvc hV hl 5
  have f7 := fvc hV hl 7
  have f8 := fvc hV hl 8
  have f9 := fvi hV hl 9
  have f10 := fvc hV hl 10
  have f14 := fvc hV hl 14
  rw [show vs = [gw vs 0, gw vs 1, gw vs 2, gw vs 3, gw vs 4, gw vs 5, gw vs 6, gw vs 7, gw vs 8, gw vs 9, gw vs 10, gw vs 11, gw vs 12, gw vs 13, gw vs 14] from (gw_eta hl).trans rfl]
  have ha0 := HA0.out
  subst ha0
  clear HA0 hV hYZ hZb hsz0 hrows hne oe3 oe4 oe5 oe6
  simp only [putAll, Act.put, List.setIfInBounds_toArray, List.set_cons_zero, List.set_cons_succ, List.set_nil, f1, f2, f4, f5, f7, f8, f9, f10, f14]
  clear hl f1 f2 f4 f5 f7 f8 f9 f10 f14
  clear Hx4
  go_upto_region 2 with (fail)
  generalize ha0 : Act.mk _ _ = a0
  have hsz0 : a0.tmps.size = 77 := by rw [← ha0]; rfl
  have HA0 := hid ha0
  clear ha0
  refine wp_region_S 77 hsz0 [25, 9] [0, 1] ?_
  refine QSeq.go fun act E => ?_
  refine qc_callF (args := #[]) rfl (wanted_none rfl) rfl Try.func44 args0 (NewWriter_Q _) ?_
  rintro e u2_0 ⟨g1, rfl, qwr1, hm⟩
  refine ⟨_, rfl, ?_⟩
  have Hx77 := hid (qwr1.widen (R' := (fun k => (New u1_10 u2_0 k))) (fun _ h => h) (Nat.le_refl _))
  have zu2_0 := hm.size
  have Cx78 := hid (show Mod (fun _ => False) u1_10 u2_0 from hm)
  clear hm
  clear act E qwr1
  refine QSeq.pure rfl (.pointer (some ⟨g1, 0, none⟩)) (fun E => ex_assign rfl (E.d 0 0)) ?_
  refine QSeq.nil (t' := [_, _]) rfl ?_
  have ha0 := HA0.out
  subst ha0
  clear HA0 hsz0
  simp only [putAll, Act.put, List.setIfInBounds_toArray, List.set_cons_zero, List.set_cons_succ]
  have HLB0 := hid (show ([] ++ ceB (nicCe (cutCe x))).length ≤ 900000 from by have h1 := HNx.out; have h2 := HNp.out; have h3 := HNb.out; simp only [List.length_append, List.length_nil]; omega)
  go_upto_region 5 with (fail)
  generalize ha0 : Act.mk _ _ = a0
  have oe4 : a0.eval (.tmp 4) = .pointer (some ⟨w.heap.size, 0, none⟩) := by rw [← ha0]; rfl
  have oe9 : a0.eval (.tmp 9) = .pointer (some ⟨g1, 0, none⟩) := by rw [← ha0]; rfl
  have hsz0 : a0.tmps.size = 77 := by rw [← ha0]; rfl
  have HA0 := hid ha0
  clear ha0
  refine wp_region_S 77 hsz0 [28, 29, 30] [0, 1, 2] ?_
  refine QSeq.pure rfl (.pointer (some ⟨g1, 0, none⟩)) (fun E => ex_move rfl (E.v oe9)) ?_
  refine QSeq.pure rfl (.agg dx2.toArray) (fun E => ex_loadA rfl Try.underlying52 rfl (off := 0) (cs := dx2) (by rw [HLx.out]; kernel_rfl) (E.v oe4) (Cs.whole (Hx73.out.mod Cx78.out (fun h => h)))) ?_
  refine QSeq.go fun act E => ?_
  refine qc_callF (args := #[.pointer (some ⟨g1, 0, none⟩), .agg dx2.toArray]) rfl (wanted_none rfl) rfl Try.func45 (args2 (E.d 0 1) (E.d 1 0)) (WPutCe_Q _ _ _ _ _ (nicCe (cutCe x)) _ Hx77.out (by intro k h1; omega) (Hx70.out.mod Cx78.out (fun _ _ h => h)) (by intro k h1; rcases h1 with h1 | h1 | h1 <;> first | omega | (have hb := HBT.out k h1; omega)) (by intro k h1 h2; rcases h2 with h2 | h2 | h2 <;> first | omega | (have hb := HBT.out k h2; omega)) HLB0.out) ?_
  rintro e u5_2 ⟨rfl, qwr1, hm⟩
  refine ⟨_, rfl, ?_⟩
  have Hx79 := hid (qwr1.widen (R' := (fun k => (New u1_10 u2_0 k) ∨ (New u2_0 u5_2 k))) (fun _ h => h) (Nat.le_refl _))
  have zu5_2 := hm.size
  have Cx80 := hid (show Mod (fun k => (New u1_10 u2_0 k)) u2_0 u5_2 from hm)
  clear hm
  clear act E qwr1 Hx77
  refine QSeq.nil (t' := [_, _, _]) rfl ?_
  have ha0 := HA0.out
  subst ha0
  clear HA0 hsz0 oe4 oe9
  simp only [putAll, Act.put, List.setIfInBounds_toArray, List.set_cons_zero, List.set_cons_succ]
  have HLB1 := hid (show (([] ++ ceB (nicCe (cutCe x))) ++ pmB (nicPm (cutPm p))).length ≤ 900000 from by have h1 := HNx.out; have h2 := HNp.out; have h3 := HNb.out; simp only [List.length_append, List.length_nil]; omega)
  go_upto_region 6 with (fail)
  generalize ha0 : Act.mk _ _ = a0
  have oe5 : a0.eval (.tmp 5) = .pointer (some ⟨w.heap.size + 1, 0, none⟩) := by rw [← ha0]; rfl
  have oe9 : a0.eval (.tmp 9) = .pointer (some ⟨g1, 0, none⟩) := by rw [← ha0]; rfl
  have hsz0 : a0.tmps.size = 77 := by rw [← ha0]; rfl
  have HA0 := hid ha0
  clear ha0
  refine wp_region_S 77 hsz0 [31, 32, 33] [0, 1, 2] ?_
  refine QSeq.pure rfl (.pointer (some ⟨g1, 0, none⟩)) (fun E => ex_move rfl (E.v oe9)) ?_
  refine QSeq.pure rfl (.agg dp2.toArray) (fun E => ex_loadA rfl Try.underlying55 rfl (off := 0) (cs := dp2) (by rw [HLp.out]; kernel_rfl) (E.v oe5) (Cs.whole ((Hx74.out.mod Cx78.out (fun h => h)).mod Cx80.out (by intro h2; omega)))) ?_
  refine QSeq.go fun act E => ?_
  refine qc_callF (args := #[.pointer (some ⟨g1, 0, none⟩), .agg dp2.toArray]) rfl (wanted_none rfl) rfl Try.func46 (args2 (E.d 0 1) (E.d 1 0)) (WPutPm_Q _ _ _ _ _ (nicPm (cutPm p)) _ Hx79.out (by intro k h1; omega) ((Hx71.out.mod Cx78.out (fun _ _ h => h)).mod Cx80.out (by intro k h1 h2; rcases h1 with h1 | h1 | h1 <;> first | omega | (have hb := HBT.out k h1; omega))) (by intro k h1; rcases h1 with h1 | h1 | h1 <;> first | omega | (have hb := HBT.out k h1; omega)) (by intro k h1 h2; rcases h2 with h2 | h2 | h2 <;> first | omega | (have hb := HBT.out k h2; omega)) HLB1.out) ?_
  rintro e u6_2 ⟨rfl, qwr1, hm⟩
  refine ⟨_, rfl, ?_⟩
  have Hx81 := hid (qwr1.widen (R' := (fun k => (New u1_10 u2_0 k) ∨ (New u2_0 u5_2 k) ∨ (New u5_2 u6_2 k))) (by intro k h1; omega) (Nat.le_refl _))
  have zu6_2 := hm.size
  have Cx82 := hid (show Mod (fun k => (New u1_10 u2_0 k) ∨ (New u2_0 u5_2 k)) u5_2 u6_2 from hm)
  clear hm
  clear act E qwr1 Hx79
  refine QSeq.nil (t' := [_, _, _]) rfl ?_
  have ha0 := HA0.out
  subst ha0
  clear HA0 hsz0 oe5 oe9
  simp only [putAll, Act.put, List.setIfInBounds_toArray, List.set_cons_zero, List.set_cons_succ]
  have HLB2 := hid (show ((([] ++ ceB (nicCe (cutCe x))) ++ pmB (nicPm (cutPm p))) ++ baB (nicBa (cutBa b))).length ≤ 900000 from by have h1 := HNx.out; have h2 := HNp.out; have h3 := HNb.out; simp only [List.length_append, List.length_nil]; omega)
  go_upto_region 7 with (fail)
  generalize ha0 : Act.mk _ _ = a0
  have oe6 : a0.eval (.tmp 6) = .pointer (some ⟨w.heap.size + 2, 0, none⟩) := by rw [← ha0]; rfl
  have oe9 : a0.eval (.tmp 9) = .pointer (some ⟨g1, 0, none⟩) := by rw [← ha0]; rfl
  have hsz0 : a0.tmps.size = 77 := by rw [← ha0]; rfl
  have HA0 := hid ha0
  clear ha0
  refine wp_region_S 77 hsz0 [34, 35, 36] [0, 1, 2] ?_
  refine QSeq.pure rfl (.pointer (some ⟨g1, 0, none⟩)) (fun E => ex_move rfl (E.v oe9)) ?_
  refine QSeq.pure rfl (.agg db2.toArray) (fun E => ex_loadA rfl Try.underlying60 rfl (off := 0) (cs := db2) (by rw [HLb.out]; kernel_rfl) (E.v oe6) (Cs.whole (((Hx69.out.mod Cx78.out (fun h => h)).mod Cx80.out (by intro h2; omega)).mod Cx82.out (by intro h2; omega)))) ?_
  refine QSeq.go fun act E => ?_
  refine qc_callF (args := #[.pointer (some ⟨g1, 0, none⟩), .agg db2.toArray]) rfl (wanted_none rfl) rfl Try.func47 (args2 (E.d 0 1) (E.d 1 0)) (WPutBa_Q _ _ _ _ _ (nicBa (cutBa b)) _ Hx81.out (by intro k h1; omega) (((Hx72.out.mod Cx78.out (fun _ _ h => h)).mod Cx80.out (by intro k h1 h2; rcases h1 with h1 | h1 | h1 <;> first | omega | (have hb := HBT.out k h1; omega))).mod Cx82.out (by intro k h1 h2; rcases h1 with h1 | h1 | h1 <;> first | omega | (have hb := HBT.out k h1; omega))) (by intro k h1; rcases h1 with h1 | h1 | h1 <;> first | omega | (have hb := HBT.out k h1; omega)) (by intro k h1 h2; rcases h2 with h2 | h2 | h2 <;> first | omega | (have hb := HBT.out k h2; omega)) HLB2.out) ?_
  rintro e u7_2 ⟨rfl, qwr1, hm⟩
  refine ⟨_, rfl, ?_⟩
  have Hx83 := hid (qwr1.widen (R' := (fun k => (New u1_10 u2_0 k) ∨ (New u2_0 u5_2 k) ∨ (New u5_2 u6_2 k) ∨ (New u6_2 u7_2 k))) (by intro k h1; omega) (Nat.le_refl _))
  have zu7_2 := hm.size
  have Cx84 := hid (show Mod (fun k => (New u1_10 u2_0 k) ∨ (New u2_0 u5_2 k) ∨ (New u5_2 u6_2 k)) u6_2 u7_2 from hm)
  clear hm
  clear act E qwr1 Hx81
  refine QSeq.nil (t' := [_, _, _]) rfl ?_
  have ha0 := HA0.out
  subst ha0
  clear HA0 hsz0 oe6 oe9
  simp only [putAll, Act.put, List.setIfInBounds_toArray, List.set_cons_zero, List.set_cons_succ]
  have HBS := hid (show ((([] ++ ceB (nicCe (cutCe x))) ++ pmB (nicPm (cutPm p))) ++ baB (nicBa (cutBa b))) ++ tt = (ceB (nicCe (cutCe x)) ++ (pmB (nicPm (cutPm p)) ++ (baB (nicBa (cutBa b)) ++ tt))) by simp only [List.append_assoc, List.nil_append])
  have HLS := hid (show (ceB (nicCe (cutCe x)) ++ (pmB (nicPm (cutPm p)) ++ (baB (nicBa (cutBa b)) ++ tt))).length ≤ 900000 by have h1 := HNx.out; have h2 := HNp.out; have h3 := HNb.out; have h4 := HTL.out; simp only [List.length_append]; omega)
  go_upto_region 8 with (fail)
  generalize ha0 : Act.mk _ _ = a0
  have oe3 : a0.eval (.tmp 3) = .slice aou tt.length capu := by rw [← ha0]; rfl
  have oe9 : a0.eval (.tmp 9) = .pointer (some ⟨g1, 0, none⟩) := by rw [← ha0]; rfl
  have hsz0 : a0.tmps.size = 77 := by rw [← ha0]; rfl
  have HA0 := hid ha0
  clear ha0
  refine wp_region_S 77 hsz0 [37, 38, 39, 40, 41, 10] [0, 1, 2, 3, 4, 5] ?_
  refine QSeq.pure rfl (.pointer (some ⟨g1, 0, none⟩)) (fun E => ex_move rfl (E.v oe9)) ?_
  refine QSeq.go fun act E => ?_
  refine qc_callF (args := #[.pointer (some ⟨g1, 0, none⟩)]) rfl (wanted_none rfl) rfl Try.func50 (args1 (E.d 0 0)) (WBytes_Q Hx83.out) ?_
  rintro e u8_1 ⟨v_a1, rfl, qa1, hm⟩
  obtain ⟨ao_a1, cap_a1, rfl⟩ := qa1.shape
  refine ⟨_, rfl, ?_⟩
  have Hx85 := hid (qa1.widen (R' := (fun k => (New u7_2 u8_1 k))) (fun _ h => h) (Nat.le_refl _))
  have zu8_1 := hm.size
  have Cx86 := hid (show Mod (fun _ => False) u7_2 u8_1 from hm)
  clear hm
  clear act E qa1
  refine QSeq.pure rfl (.slice aou tt.length capu) (fun E => ex_move rfl (E.v oe3)) ?_
  refine QSeq.go fun act E => ?_
  refine qc_appR rfl (wanted_none rfl) rfl (E.d 1 1) (E.d 2 0) Hx85.out (((((Hx75.out.mod Cx78.out (fun _ _ h => h)).mod Cx80.out (by intro k h1 h2; omega)).mod Cx82.out (by intro k h1 h2; omega)).mod Cx84.out (by intro k h1 h2; omega)).mod Cx86.out (fun _ _ h => h)).rd (by rw [HBS.out]; exact HLS.out) ?_
  intro ao27 cap27 u8_3 qa1 hm
  have Hx87 := hid (qa1.widen (R' := (fun k => (New u7_2 u8_1 k) ∨ (New u8_1 u8_3 k))) (fun _ h => h) (Nat.le_refl _))
  have zu8_3 := hm.size
  have HMu8_3 := hid hm
  have Cx88 := hid (Mod.goS (S' := (fun _ => False)) Cx86.out hm (fun _ h => h) (by intro k h0 h2; omega))
  clear hm Cx86
  clear act E qa1 Hx85
  refine QSeq.go fun act E => ?_
  refine qc_callF (args := #[.slice ao27 (((([] ++ ceB (nicCe (cutCe x))) ++ pmB (nicPm (cutPm p))) ++ baB (nicBa (cutBa b))).length + tt.length) cap27]) rfl (wanted_none rfl) rfl Try.func28 (args1 (E.d 3 0)) (NewReader_R Hx87.out.rd (by decide)) ?_
  rintro e u8_4 ⟨r1, rfl, qrd1, hm⟩
  rw [HBS.out] at qrd1
  refine ⟨_, rfl, ?_⟩
  have Hx89 := hid (qrd1.widen (R' := (fun k => (New u8_3 u8_4 k))) (fun _ h => h))
  have zu8_4 := hm.size
  have HMu8_4 := hid hm
  have Cx90 := hid (Cx88.out.goE hm)
  clear hm Cx88
  clear act E qrd1
  refine QSeq.pure rfl (.pointer (some ⟨r1, 0, none⟩)) (fun E => ex_assign rfl (E.d 4 0)) ?_
  have Hx91 := hid (Hx87.out.mod HMu8_4.out (fun _ _ h => h))
  clear Hx87 HMu8_3 HMu8_4
  refine QSeq.nil (t' := [_, _, _, _, _, _]) rfl ?_
  have ha0 := HA0.out
  subst ha0
  clear HA0 hsz0 oe3 oe9
  simp only [putAll, Act.put, List.setIfInBounds_toArray, List.set_cons_zero, List.set_cons_succ]
  clear Hx75
  clear Hx83
  clear Hx91
  have HRB := hid (read_back (t := tt) HKx.out HKp.out HKb.out)
  have HLS0 := hid (show ((some (ceB (nicCe (cutCe x)) ++ (pmB (nicPm (cutPm p)) ++ (baB (nicBa (cutBa b)) ++ tt))) : RSt).getD []).length ≤ 900000 from HLS.out)
  have HLS1 := hid (show ((some (pmB (nicPm (cutPm p)) ++ (baB (nicBa (cutBa b)) ++ tt)) : RSt).getD []).length ≤ 900000 by have h2 := HNp.out; have h3 := HNb.out; have h4 := HTL.out; show List.length (pmB (nicPm (cutPm p)) ++ (baB (nicBa (cutBa b)) ++ tt)) ≤ 900000; simp only [List.length_append]; omega)
  have HLS2 := hid (show ((some (baB (nicBa (cutBa b)) ++ tt) : RSt).getD []).length ≤ 900000 by have h3 := HNb.out; have h4 := HTL.out; show List.length (baB (nicBa (cutBa b)) ++ tt) ≤ 900000; simp only [List.length_append]; omega)
  go_upto_region 11 with (fail)
  generalize ha0 : Act.mk _ _ = a0
  have oe10 : a0.eval (.tmp 10) = .pointer (some ⟨r1, 0, none⟩) := by rw [← ha0]; rfl
  have hsz0 : a0.tmps.size = 77 := by rw [← ha0]; rfl
  have HA0 := hid ha0
  clear ha0
  refine wp_region_S 77 hsz0 [44, 45, 46, 47, 48, 49, 11, 12, 13, 86, 87, 88] [0, 1, 2, 3, 4, 5, 6, 7, 8, 9, 10, 11] ?_
  refine QSeq.pure rfl (.pointer (some ⟨r1, 0, none⟩)) (fun E => ex_move rfl (E.v oe10)) ?_
  refine QSeq.go fun act E => ?_
  refine qc_callF (args := #[.pointer (some ⟨r1, 0, none⟩)]) rfl (wanted_none rfl) rfl Try.func31 (args1 (E.d 0 0)) ((Wire_Ce).to (gW_of HRB.out.1).1 (gW_of HRB.out.1).2 Hx89.out (by intro k h1; omega) HLS0.out) ?_
  rintro e u11_1 ⟨ex, rfl, qyx, qrd1, hm⟩
  have HMx := hid (CeR.len qyx)
  have HPx := hid (CeR.one qyx)
  refine ⟨_, rfl, ?_⟩
  have Hx92 := hid (qyx.widen (R' := (fun k => (New u8_4 u11_1 k))) (fun _ h => h))
  have Hx93 := hid qrd1
  have zu11_1 := hm.size
  have Cx94 := hid (show Mod (fun k => (New u8_3 u8_4 k)) u8_4 u11_1 from hm)
  clear hm
  clear act E qyx qrd1 Hx89
  refine QSeq.pure rfl (.pointer (some ⟨r1, 0, none⟩)) (fun E => ex_move rfl (E.v oe10)) ?_
  refine QSeq.go fun act E => ?_
  refine qc_callF (args := #[.pointer (some ⟨r1, 0, none⟩)]) rfl (wanted_none rfl) rfl Try.func34 (args1 (E.d 2 0)) ((Wire_Pm).to (gW_of HRB.out.2.1).1 (gW_of HRB.out.2.1).2 Hx93.out (by intro k h1; omega) HLS1.out) ?_
  rintro e u11_3 ⟨ep, rfl, qyp, qrd1, hm⟩
  have HMp := hid (PmR.len qyp)
  have HPp := hid (PmR.one qyp)
  refine ⟨_, rfl, ?_⟩
  have Hx95 := hid (qyp.widen (R' := (fun k => (New u11_1 u11_3 k))) (fun _ h => h))
  have Hx96 := hid qrd1
  have zu11_3 := hm.size
  have HMu11_3 := hid hm
  have Cx97 := hid (Mod.goS (S' := (fun k => (New u8_3 u8_4 k))) Cx94.out hm (fun _ h => h) (by intro k h0 h2; exact h2))
  clear hm Cx94
  clear act E qyp qrd1 Hx93
  refine QSeq.pure rfl (.pointer (some ⟨r1, 0, none⟩)) (fun E => ex_move rfl (E.v oe10)) ?_
  refine QSeq.go fun act E => ?_
  refine qc_callF (args := #[.pointer (some ⟨r1, 0, none⟩)]) rfl (wanted_none rfl) rfl Try.func37 (args1 (E.d 4 0)) ((Wire_Ba).to (gW_of HRB.out.2.2).1 (gW_of HRB.out.2.2).2 Hx96.out (by intro k h1; omega) HLS2.out) ?_
  rintro e u11_5 ⟨eb, rfl, qyb, qrd1, hm⟩
  have HMb := hid (BaR.len qyb)
  have HPb := hid (BaR.one qyb)
  refine ⟨_, rfl, ?_⟩
  have Hx98 := hid (qyb.widen (R' := (fun k => (New u11_3 u11_5 k))) (fun _ h => h))
  have Hx99 := hid qrd1
  have zu11_5 := hm.size
  have HMu11_5 := hid hm
  have Cx100 := hid (Mod.goS (S' := (fun k => (New u8_3 u8_4 k))) Cx97.out hm (fun _ h => h) (by intro k h0 h2; exact h2))
  clear hm Cx97
  clear act E qyb qrd1 Hx96
  refine QSeq.go fun act E => ?_
  refine qc_alloc rfl (wanted_none rfl) rfl (z := [.int .i64 0, .int .i64 0, .int .u8 0, .int .u8 0, .int .u8 0, .int .u8 0, .int .u8 0, .int .u8 0, .int .u8 0, .int .u8 0, .int .u8 0, .int .u8 0, .int .u8 0, .int .u8 0, .int .u8 0, .int .u8 0, .int .u8 0, .int .u8 0, .int .u8 0, .int .u8 0, .int .u8 0, .int .u8 0, .int .u8 0, .int .u8 0, .int .u8 0, .int .u8 0, .int .u8 0, .int .u8 0, .int .u8 0, .int .u8 0, .int .u8 0, .int .u8 0, .int .u8 0, .int .u8 0, .int .i64 0, .int .i64 0, .int .i64 0, .slice none 0 0]) (by kernel_rfl) ?_
  intro u11_6 qB11 hm
  have zl11_6 := qB11.lt
  have Hx101 := hid qB11
  have zu11_6 := hm.size
  have HMu11_6 := hid hm
  have Cx102 := hid (Cx100.out.goE hm)
  clear hm Cx100
  clear act E qB11
  refine QSeq.go fun act E => ?_
  refine qc_alloc rfl (wanted_none rfl) rfl (z := [.int .i64 0, .int .i64 0, .int .u64 0, .slice none 0 0, .int .i64 0, .int .i64 0]) (by kernel_rfl) ?_
  intro u11_7 qB12 hm
  have zl11_7 := qB12.lt
  have Hx103 := hid qB12
  have zu11_7 := hm.size
  have HMu11_7 := hid hm
  have Cx104 := hid (Cx102.out.goE hm)
  clear hm Cx102
  clear act E qB12
  refine QSeq.go fun act E => ?_
  refine qc_alloc rfl (wanted_none rfl) rfl (z := [.int .i64 0, .int .u64 0, .slice none 0 0, .slice none 0 0, .slice none 0 0]) (by kernel_rfl) ?_
  intro u11_8 qB13 hm
  have zl11_8 := qB13.lt
  have Hx105 := hid qB13
  have zu11_8 := hm.size
  have HMu11_8 := hid hm
  have Cx106 := hid (Cx104.out.goE hm)
  clear hm Cx104
  clear act E qB13
  refine QSeq.go fun act E => ?_
  refine qc_store rfl (wanted_none rfl) rfl ((Hx101.out.mod HMu11_7.out (fun h => h)).mod HMu11_8.out (fun h => h)) (off := 0) (vs := ex) (by rw [HMx.out]; kernel_rfl) HPx.out (by rw [HMx.out]; decide) (E.d 6 2) (by rw [show act.eval ((.tmp 45)) = _ from (E.d 1 7)]; rfl) ?_
  intro u11_9 qc0 hm
  have qB11 : Cs u11_9 (u11_5.heap.size) (ex : List Value).toArray 52 := by rw [show lay _ 0 _ = (ex : List Value).toArray from lay_whole _ _ (by rw [HMx.out]; rfl)] at qc0; exact qc0
  clear qc0
  have Hx107 := hid qB11
  have zu11_9 := hm.size
  have HMu11_9 := hid hm
  have Cx108 := hid (Mod.goS (S' := (fun k => (New u8_3 u8_4 k))) Cx106.out hm (fun _ h => h) (by intro k h0 h2; omega))
  clear hm Cx106
  clear act E qB11 Hx101
  refine QSeq.go fun act E => ?_
  refine qc_store rfl (wanted_none rfl) rfl ((Hx103.out.mod HMu11_8.out (fun h => h)).mod HMu11_9.out (by intro h2; omega)) (off := 0) (vs := ep) (by rw [HMp.out]; kernel_rfl) HPp.out (by rw [HMp.out]; decide) (E.d 7 2) (by rw [show act.eval ((.tmp 47)) = _ from (E.d 3 6)]; rfl) ?_
  intro u11_10 qc0 hm
  have qB12 : Cs u11_10 (u11_6.heap.size) (ep : List Value).toArray 55 := by rw [show lay _ 0 _ = (ep : List Value).toArray from lay_whole _ _ (by rw [HMp.out]; rfl)] at qc0; exact qc0
  clear qc0
  have Hx109 := hid qB12
  have zu11_10 := hm.size
  have HMu11_10 := hid hm
  have Cx110 := hid (Mod.goS (S' := (fun k => (New u8_3 u8_4 k))) Cx108.out hm (fun _ h => h) (by intro k h0 h2; omega))
  clear hm Cx108
  clear act E qB12 Hx103
  refine QSeq.go fun act E => ?_
  refine qc_store rfl (wanted_none rfl) rfl ((Hx105.out.mod HMu11_9.out (by intro h2; omega)).mod HMu11_10.out (by intro h2; omega)) (off := 0) (vs := eb) (by rw [HMb.out]; kernel_rfl) HPb.out (by rw [HMb.out]; decide) (E.d 8 2) (by rw [show act.eval ((.tmp 49)) = _ from (E.d 5 5)]; rfl) ?_
  intro u11_11 qc0 hm
  have qB13 : Cs u11_11 (u11_7.heap.size) (eb : List Value).toArray 60 := by rw [show lay _ 0 _ = (eb : List Value).toArray from lay_whole _ _ (by rw [HMb.out]; rfl)] at qc0; exact qc0
  clear qc0
  have Hx111 := hid qB13
  have zu11_11 := hm.size
  have HMu11_11 := hid hm
  have Cx112 := hid (Mod.goS (S' := (fun k => (New u8_3 u8_4 k))) Cx110.out hm (fun _ h => h) (by intro k h0 h2; omega))
  clear hm Cx110
  clear act E qB13 Hx105
  have Hx113 := hid ((((((Hx99.out.mod HMu11_6.out (fun _ _ h => h)).mod HMu11_7.out (fun _ _ h => h)).mod HMu11_8.out (fun _ _ h => h)).mod HMu11_9.out (by intro k h1 h2; omega)).mod HMu11_10.out (by intro k h1 h2; omega)).mod HMu11_11.out (by intro k h1 h2; omega))
  have Hx114 := hid ((((((((Hx92.out.mod HMu11_3.out (by intro k h1 h2; omega)).mod HMu11_5.out (by intro k h1 h2; omega)).mod HMu11_6.out (fun _ _ h => h)).mod HMu11_7.out (fun _ _ h => h)).mod HMu11_8.out (fun _ _ h => h)).mod HMu11_9.out (by intro k h1 h2; omega)).mod HMu11_10.out (by intro k h1 h2; omega)).mod HMu11_11.out (by intro k h1 h2; omega))
  have Hx115 := hid (((((((Hx95.out.mod HMu11_5.out (by intro k h1 h2; omega)).mod HMu11_6.out (fun _ _ h => h)).mod HMu11_7.out (fun _ _ h => h)).mod HMu11_8.out (fun _ _ h => h)).mod HMu11_9.out (by intro k h1 h2; omega)).mod HMu11_10.out (by intro k h1 h2; omega)).mod HMu11_11.out (by intro k h1 h2; omega))
  have Hx116 := hid ((((((Hx98.out.mod HMu11_6.out (fun _ _ h => h)).mod HMu11_7.out (fun _ _ h => h)).mod HMu11_8.out (fun _ _ h => h)).mod HMu11_9.out (by intro k h1 h2; omega)).mod HMu11_10.out (by intro k h1 h2; omega)).mod HMu11_11.out (by intro k h1 h2; omega))
  have Hx117 := hid ((Hx107.out.mod HMu11_10.out (by intro h2; omega)).mod HMu11_11.out (by intro h2; omega))
  have Hx118 := hid (Hx109.out.mod HMu11_11.out (by intro h2; omega))
  clear Hx99 Hx92 Hx95 Hx98 Hx107 Hx109 HMu11_3 HMu11_5 HMu11_6 HMu11_7 HMu11_8 HMu11_9 HMu11_10 HMu11_11
  refine QSeq.nil (t' := [_, _, _, _, _, _, _, _, _, _, _, _]) rfl ?_
  have ha0 := HA0.out
  subst ha0
  clear HA0 hsz0 oe10
  simp only [putAll, Act.put, List.setIfInBounds_toArray, List.set_cons_zero, List.set_cons_succ, List.set_nil]
  go_upto_region 12 with (fail)
  generalize ha0 : Act.mk _ _ = a0
  have oe3 : a0.eval (.tmp 3) = .slice aou tt.length capu := by rw [← ha0]; rfl
  have oe4 : a0.eval (.tmp 4) = .pointer (some ⟨w.heap.size, 0, none⟩) := by rw [← ha0]; rfl
  have oe5 : a0.eval (.tmp 5) = .pointer (some ⟨w.heap.size + 1, 0, none⟩) := by rw [← ha0]; rfl
  have oe6 : a0.eval (.tmp 6) = .pointer (some ⟨w.heap.size + 2, 0, none⟩) := by rw [← ha0]; rfl
  have oe10 : a0.eval (.tmp 10) = .pointer (some ⟨r1, 0, none⟩) := by rw [← ha0]; rfl
  have oe11 : a0.eval (.tmp 11) = .pointer (some ⟨u11_5.heap.size, 0, none⟩) := by rw [← ha0]; rfl
  have oe12 : a0.eval (.tmp 12) = .pointer (some ⟨u11_6.heap.size, 0, none⟩) := by rw [← ha0]; rfl
  have oe13 : a0.eval (.tmp 13) = .pointer (some ⟨u11_7.heap.size, 0, none⟩) := by rw [← ha0]; rfl
  have hsz0 : a0.tmps.size = 77 := by rw [← ha0]; rfl
  have HA0 := hid ha0
  clear ha0
  refine wp_region_S 77 hsz0 [50, 51, 52, 53, 54, 55, 56, 57, 58, 59, 60, 61, 62, 63, 64, 65, 66, 67, 68, 69, 70, 71, 72, 73, 74, 75, 76, 8] [0, 1, 2, 3, 4, 5, 6, 7, 8, 9, 10, 11, 12, 13, 14, 15, 16, 17, 18, 19, 20, 21, 22, 23, 24, 25, 26, 27] ?_
  refine QSeq.pure rfl (.pointer (some ⟨r1, 0, none⟩)) (fun E => ex_move rfl (E.v oe10)) ?_
  refine QSeq.go fun act E => ?_
  refine qc_callF (args := #[.pointer (some ⟨r1, 0, none⟩)]) rfl (wanted_none rfl) rfl Try.func39 (args1 (E.d 0 0)) (OK_R Hx113.out) ?_
  rintro e w2 ⟨rfl, hw2⟩
  obtain rfl : u11_11 = w2 := by first | exact hw2 | exact hw2.symm
  refine ⟨_, rfl, ?_⟩
  clear act E
  refine QSeq.pure rfl (.bool true) (fun E => ex_move rfl (E.d 1 0)) ?_
  refine QSeq.pureG rfl (.agg ex.toArray) (fun E => ((wanted_of rfl rfl (E.sz 52 (by decide)) (E.d 2 0)).trans rfl)) (fun E => ex_loadA rfl Try.underlying52 rfl (off := 0) (cs := ex) (by rw [HMx.out]; kernel_rfl) (E.v oe11) (Cs.whole Hx117.out)) ?_
  refine QSeq.pureG rfl (.agg dx2.toArray) (fun E => ((wanted_of rfl rfl (E.sz 52 (by decide)) (E.d 2 1)).trans rfl)) (fun E => ex_loadA rfl Try.underlying52 rfl (off := 0) (cs := dx2) (by rw [HLx.out]; kernel_rfl) (E.v oe4) (Cs.whole ((((((Hx73.out.mod Cx78.out (fun h => h)).mod Cx80.out (by intro h2; omega)).mod Cx82.out (by intro h2; omega)).mod Cx84.out (by intro h2; omega)).mod Cx90.out (fun h => h)).mod Cx112.out (by intro h2; omega)))) ?_
  refine QSeq.go fun act E => ?_
  refine qc_callF (args := #[.agg ex.toArray, .agg dx2.toArray]) rfl ((wanted_of rfl rfl (E.sz 52 (by decide)) (E.d 2 2)).trans rfl) rfl Try.func30 (args2 (E.d 3 1) (E.d 4 0)) (Eqs.same Eq_Ce Hx114.out ((((((Hx70.out.mod Cx78.out (fun _ _ h => h)).mod Cx80.out (by intro k h1 h2; rcases h1 with h1 | h1 | h1 <;> first | omega | (have hb := HBT.out k h1; omega))).mod Cx82.out (by intro k h1 h2; rcases h1 with h1 | h1 | h1 <;> first | omega | (have hb := HBT.out k h1; omega))).mod Cx84.out (by intro k h1 h2; rcases h1 with h1 | h1 | h1 <;> first | omega | (have hb := HBT.out k h1; omega))).mod Cx90.out (fun _ _ h => h)).mod Cx112.out (by intro k h1 h2; rcases h1 with h1 | h1 | h1 <;> first | omega | (have hb := HBT.out k h1; omega))) (by intro k h1; omega) (by intro k h1; rcases h1 with h1 | h1 | h1 <;> first | omega | (have hb := HBT.out k h1; omega))) ?_
  rintro e u12_5 ⟨rfl, hm⟩
  refine ⟨_, rfl, ?_⟩
  have zu12_5 := hm.size
  have Cx119 := hid (show Mod (fun _ => False) u11_11 u12_5 from hm)
  clear hm
  clear act E
  refine QSeq.pure rfl (.bool true) (fun E => ex_pick rfl (E.d 2 3) (E.d 5 0) rfl) ?_
  refine QSeq.pure rfl (.bool true) (fun E => ex_move rfl (E.d 6 0)) ?_
  refine QSeq.pureG rfl (.agg ep.toArray) (fun E => ((wanted_of rfl rfl (E.sz 57 (by decide)) (E.d 7 0)).trans rfl)) (fun E => ex_loadA rfl Try.underlying55 rfl (off := 0) (cs := ep) (by rw [HMp.out]; kernel_rfl) (E.v oe12) (Cs.whole (Hx118.out.mod Cx119.out (fun h => h)))) ?_
  refine QSeq.pureG rfl (.agg dp2.toArray) (fun E => ((wanted_of rfl rfl (E.sz 57 (by decide)) (E.d 7 1)).trans rfl)) (fun E => ex_loadA rfl Try.underlying55 rfl (off := 0) (cs := dp2) (by rw [HLp.out]; kernel_rfl) (E.v oe5) (Cs.whole (((((((Hx74.out.mod Cx78.out (fun h => h)).mod Cx80.out (by intro h2; omega)).mod Cx82.out (by intro h2; omega)).mod Cx84.out (by intro h2; omega)).mod Cx90.out (fun h => h)).mod Cx112.out (by intro h2; omega)).mod Cx119.out (fun h => h)))) ?_
  refine QSeq.go fun act E => ?_
  refine qc_callF (args := #[.agg ep.toArray, .agg dp2.toArray]) rfl ((wanted_of rfl rfl (E.sz 57 (by decide)) (E.d 7 2)).trans rfl) rfl Try.func33 (args2 (E.d 8 1) (E.d 9 0)) (Eqs.same Eq_Pm (Hx115.out.mod Cx119.out (fun _ _ h => h)) (((((((Hx71.out.mod Cx78.out (fun _ _ h => h)).mod Cx80.out (by intro k h1 h2; rcases h1 with h1 | h1 | h1 <;> first | omega | (have hb := HBT.out k h1; omega))).mod Cx82.out (by intro k h1 h2; rcases h1 with h1 | h1 | h1 <;> first | omega | (have hb := HBT.out k h1; omega))).mod Cx84.out (by intro k h1 h2; rcases h1 with h1 | h1 | h1 <;> first | omega | (have hb := HBT.out k h1; omega))).mod Cx90.out (fun _ _ h => h)).mod Cx112.out (by intro k h1 h2; rcases h1 with h1 | h1 | h1 <;> first | omega | (have hb := HBT.out k h1; omega))).mod Cx119.out (fun _ _ h => h)) (by intro k h1; omega) (by intro k h1; rcases h1 with h1 | h1 | h1 <;> first | omega | (have hb := HBT.out k h1; omega))) ?_
  rintro e u12_10 ⟨rfl, hm⟩
  refine ⟨_, rfl, ?_⟩
  have zu12_10 := hm.size
  have HMu12_10 := hid hm
  have Cx120 := hid (Cx119.out.goE hm)
  clear hm Cx119
  clear act E
  refine QSeq.pure rfl (.bool true) (fun E => ex_pick rfl (E.d 7 3) (E.d 10 0) rfl) ?_
  refine QSeq.pure rfl (.bool true) (fun E => ex_move rfl (E.d 11 0)) ?_
  refine QSeq.pureG rfl (.agg eb.toArray) (fun E => ((wanted_of rfl rfl (E.sz 62 (by decide)) (E.d 12 0)).trans rfl)) (fun E => ex_loadA rfl Try.underlying60 rfl (off := 0) (cs := eb) (by rw [HMb.out]; kernel_rfl) (E.v oe13) (Cs.whole (Hx111.out.mod Cx120.out (fun h => h)))) ?_
  refine QSeq.pureG rfl (.agg db2.toArray) (fun E => ((wanted_of rfl rfl (E.sz 62 (by decide)) (E.d 12 1)).trans rfl)) (fun E => ex_loadA rfl Try.underlying60 rfl (off := 0) (cs := db2) (by rw [HLb.out]; kernel_rfl) (E.v oe6) (Cs.whole (((((((Hx69.out.mod Cx78.out (fun h => h)).mod Cx80.out (by intro h2; omega)).mod Cx82.out (by intro h2; omega)).mod Cx84.out (by intro h2; omega)).mod Cx90.out (fun h => h)).mod Cx112.out (by intro h2; omega)).mod Cx120.out (fun h => h)))) ?_
  refine QSeq.go fun act E => ?_
  refine qc_callF (args := #[.agg eb.toArray, .agg db2.toArray]) rfl ((wanted_of rfl rfl (E.sz 62 (by decide)) (E.d 12 2)).trans rfl) rfl Try.func36 (args2 (E.d 13 1) (E.d 14 0)) (Eqs.same Eq_Ba (Hx116.out.mod Cx120.out (fun _ _ h => h)) (((((((Hx72.out.mod Cx78.out (fun _ _ h => h)).mod Cx80.out (by intro k h1 h2; rcases h1 with h1 | h1 | h1 <;> first | omega | (have hb := HBT.out k h1; omega))).mod Cx82.out (by intro k h1 h2; rcases h1 with h1 | h1 | h1 <;> first | omega | (have hb := HBT.out k h1; omega))).mod Cx84.out (by intro k h1 h2; rcases h1 with h1 | h1 | h1 <;> first | omega | (have hb := HBT.out k h1; omega))).mod Cx90.out (fun _ _ h => h)).mod Cx112.out (by intro k h1 h2; rcases h1 with h1 | h1 | h1 <;> first | omega | (have hb := HBT.out k h1; omega))).mod Cx120.out (fun _ _ h => h)) (by intro k h1; omega) (by intro k h1; rcases h1 with h1 | h1 | h1 <;> first | omega | (have hb := HBT.out k h1; omega))) ?_
  rintro e u12_15 ⟨rfl, hm⟩
  refine ⟨_, rfl, ?_⟩
  have zu12_15 := hm.size
  have HMu12_15 := hid hm
  have Cx121 := hid (Cx120.out.goE hm)
  clear hm Cx120
  clear act E
  refine QSeq.pure rfl (.bool true) (fun E => ex_pick rfl (E.d 12 3) (E.d 15 0) rfl) ?_
  refine QSeq.pure rfl (.bool true) (fun E => ex_move rfl (E.d 16 0)) ?_
  refine QSeq.pureG rfl (.pointer (some ⟨r1, 0, none⟩)) (fun E => ((wanted_of rfl rfl (E.sz 67 (by decide)) (E.d 17 0)).trans rfl)) (fun E => ex_move rfl (E.v oe10)) ?_
  refine QSeq.go fun act E => ?_
  refine qc_callF (args := #[.pointer (some ⟨r1, 0, none⟩)]) rfl ((wanted_of rfl rfl (E.sz 67 (by decide)) (E.d 17 1)).trans rfl) rfl Try.func40 (args1 (E.d 18 0)) (Left_R (Hx113.out.mod Cx121.out (fun _ _ h => h))) ?_
  rintro e w2 ⟨rfl, hw2⟩
  obtain rfl : u12_15 = w2 := by first | exact hw2 | exact hw2.symm
  refine ⟨_, rfl, ?_⟩
  clear act E
  refine QSeq.pureG rfl (.slice aou tt.length capu) (fun E => ((wanted_of rfl rfl (E.sz 67 (by decide)) (E.d 17 2)).trans rfl)) (fun E => ex_move rfl (E.v oe3)) ?_
  refine QSeq.pureG rfl (.int .i64 tt.length) (fun E => ((wanted_of rfl rfl (E.sz 67 (by decide)) (E.d 17 3)).trans rfl)) (fun E => ex_lenS rfl (E.d 20 0) Try.underlying38) ?_
  refine QSeq.pureG rfl (.bool true) (fun E => ((wanted_of rfl rfl (E.sz 67 (by decide)) (E.d 17 4)).trans rfl)) (fun E => ex_binE rfl (E.d 19 2) (E.d 21 0) (guard_ints _ _ _ _ _ _) (run_eql_i _ _ _ Try.underlying3) (congrArg Value.bool (beq_self_eq_true _))) ?_
  refine QSeq.pure rfl (.bool true) (fun E => ex_pick rfl (E.d 17 5) (E.d 22 0) rfl) ?_
  refine QSeq.pure rfl (.bool true) (fun E => ex_move rfl (E.d 23 0)) ?_
  refine QSeq.go fun act E => ?_
  refine qc_callF (args := #[]) rfl ((wanted_of rfl rfl (E.sz 74 (by decide)) (E.d 24 0)).trans rfl) rfl Try.func19 args0 (wakes05 _) ?_
  rintro e u12_25 ⟨rfl, hm⟩
  refine ⟨_, rfl, ?_⟩
  have zu12_25 := hm.size
  have HMu12_25 := hid hm
  have Cx122 := hid (Cx121.out.goE hm)
  clear hm Cx121
  clear act E
  refine QSeq.pure rfl (.bool true) (fun E => ex_pick rfl (E.d 24 1) (E.d 25 0) rfl) ?_
  refine QSeq.pure rfl (.bool true) (fun E => ex_assign rfl (E.d 26 0)) ?_
  clear HMu12_10 HMu12_15 HMu12_25
  refine QSeq.nil (t' := [_, _, _, _, _, _, _, _, _, _, _, _, _, _, _, _, _, _, _, _, _, _, _, _, _, _, _, _]) rfl ?_
  have ha0 := HA0.out
  subst ha0
  clear HA0 hsz0 oe3 oe4 oe5 oe6 oe10 oe11 oe12 oe13
  simp only [putAll, Act.put, List.setIfInBounds_toArray, List.set_cons_zero, List.set_cons_succ]
  go_wp2
  go_ret
  exact ⟨rfl, ((((((((HM0.out.trans Cx76.out (by intro k h1 h2; omega)).trans Cx78.out (fun _ _ h => h.elim)).trans Cx80.out (by intro k h1 h2; omega)).trans Cx82.out (by intro k h1 h2; omega)).trans Cx84.out (by intro k h1 h2; omega)).trans Cx90.out (fun _ _ h => h.elim)).trans Cx112.out (by intro k h1 h2; omega)).trans Cx122.out (fun _ _ h => h.elim))⟩
end Go.Proofs.Ytknpapcfhnhheaa

/- Pairs, commitments as arguments. -/
set_option maxRecDepth 100000
set_option linter.unusedVariables false
namespace Go.Proofs.Ytknpapcfhnhheaa
open Go Go.RowKit Go.Gv Go.ChangeShapes Go.WideShapes Go.ChangeAt Go.Deep

section
variable {H : Type} {enc : TypeId × Value → H} {W : World}
theorem trod_pair {t : TypeId} {fs : Array Field} {fuel : Nat} {cs : List Value} {x : DataW H × List MemPlace} (ht : Try.prog.underlying t = some (.struct fs)) (hs : fs.size = 2) (h0 : (fs[0]?).map (fun f => (f.offset, f.type)) = some (0, 3)) (h1 : (fs[1]?).map (fun f => (f.offset, f.type)) = some (1, 3)) (hc : Try.prog.cellsOf t = 2)
    (h : DataW.trod enc Try.prog W 0 (fun _ => true) true fuel t cs = some x) : ∃ a b : Int, cs = [.int .i64 a, .int .i64 b] ∧ I64 a ∧ I64 b := by
  obtain ⟨xs, n, _, -, hl, hn, hf⟩ := DataW.trod_struct ht h
  rw [hc] at hl
  have hxs : xs.length = 2 := hn.trans hs
  obtain ⟨q0, e0, hq0⟩ : ∃ f, fs[0]? = some f ∧ (f.offset, f.type) = (0, 3) := by
    cases hh : fs[0]? with
    | none => rw [hh] at h0; cases h0
    | some f => rw [hh] at h0; exact ⟨f, rfl, Option.some.inj h0⟩
  obtain ⟨q1, e1, hq1⟩ : ∃ f, fs[1]? = some f ∧ (f.offset, f.type) = (1, 3) := by
    cases hh : fs[1]? with
    | none => rw [hh] at h1; cases h1
    | some f => rw [hh] at h1; exact ⟨f, rfl, Option.some.inj h1⟩
  have f0 := hf 0 _ e0
  have f1 := hf 1 _ e1
  rw [show q0.offset = 0 from congrArg Prod.fst hq0, show q0.type = 3 from congrArg Prod.snd hq0] at f0
  rw [show q1.offset = 1 from congrArg Prod.fst hq1, show q1.type = 3 from congrArg Prod.snd hq1] at f1
  rw [List.getElem?_eq_getElem (by omega), show Try.prog.cellsOf 3 = 1 from by kernel_rfl] at f0 f1
  match cs, hl with
  | [c0, c1], _ =>
    simp only [List.drop_zero, List.drop_succ_cons, List.take_succ_cons, List.take_zero] at f0 f1
    obtain ⟨p0, e0, _, w0⟩ := DataW.trod_int Try.underlying3 f0
    obtain ⟨p1, e1, _, w1⟩ := DataW.trod_int Try.underlying3 f1
    simp at e0 e1
    subst e0 e1
    exact ⟨p0, p1, rfl, bounds_i64 w0, bounds_i64 w1⟩
theorem cm_cells {fuel : Nat} {cs : List Value} {x : DataW H × List MemPlace} (h : DataW.trod enc Try.prog W 0 (fun _ => true) true fuel 49 cs = some x) : ∃ c : Cm, cs = c.cells ∧ c.OK := by
  obtain ⟨xs, n, _, -, hl, hn, hf⟩ := DataW.trod_struct Try.underlying49 h
  rw [show Try.prog.cellsOf 49 = 37 from by kernel_rfl] at hl
  have hxs : xs.length = 4 := hn
  have f0 : DataW.trod enc Try.prog W 0 (fun _ => true) true n 23 ((cs.drop 0).take (Try.prog.cellsOf 23)) = xs[0]? := hf 0 _ rfl
  have f1 : DataW.trod enc Try.prog W 0 (fun _ => true) true n 25 ((cs.drop 2).take (Try.prog.cellsOf 25)) = xs[1]? := hf 1 _ rfl
  have f2 : DataW.trod enc Try.prog W 0 (fun _ => true) true n 3 ((cs.drop 34).take (Try.prog.cellsOf 3)) = xs[2]? := hf 2 _ rfl
  have f3 : DataW.trod enc Try.prog W 0 (fun _ => true) true n 28 ((cs.drop 35).take (Try.prog.cellsOf 28)) = xs[3]? := hf 3 _ rfl
  rw [List.getElem?_eq_getElem (by omega)] at f0 f1 f2 f3
  obtain ⟨a, b, e0, h1, h2⟩ := trod_pair Try.underlying23 rfl rfl rfl (by kernel_rfl) f0
  obtain ⟨hs, e1, hb, hl32⟩ := trod_arr Try.underlying25 Try.underlying5 (by kernel_rfl) (by kernel_rfl) f1
  obtain ⟨sa, sb, e3, h3, h4⟩ := trod_pair Try.underlying28 rfl rfl rfl (by kernel_rfl) f3
  rw [show Try.prog.cellsOf 23 = 2 from by kernel_rfl] at e0
  rw [show Try.prog.cellsOf 25 = 32 from by kernel_rfl] at e1
  rw [show Try.prog.cellsOf 3 = 1 from by kernel_rfl] at f2
  rw [show Try.prog.cellsOf 28 = 2 from by kernel_rfl] at e3
  obtain ⟨q, e2, _, w2⟩ := DataW.trod_int Try.underlying3 f2
  refine ⟨⟨a, b, hs, q, sa, sb⟩, ?_, ⟨h1, h2, bounds_i64 w2, h3, h4⟩, hl32, hb⟩
  have d1 : cs = cs.take 2 ++ cs.drop 2 := (List.take_append_drop 2 cs).symm
  have d2 : cs.drop 2 = (cs.drop 2).take 32 ++ cs.drop 34 := by conv => lhs; rw [← List.take_append_drop 32 (cs.drop 2)]; rw [List.drop_drop]
  have d3 : cs.drop 34 = (cs.drop 34).take 1 ++ cs.drop 35 := by conv => lhs; rw [← List.take_append_drop 1 (cs.drop 34)]; rw [List.drop_drop]
  have d4 : cs.drop 35 = (cs.drop 35).take 2 := (List.take_of_length_le (by rw [List.length_drop]; omega)).symm
  rw [List.drop_zero] at e0
  rw [d1, d2, d3, d4, e0, e1, e2, e3]
  rfl
end
end Go.Proofs.Ytknpapcfhnhheaa

/- Things as arguments: whatever a reading gives of them. -/
set_option maxRecDepth 100000
set_option linter.unusedVariables false
namespace Go.Proofs.Ytknpapcfhnhheaa
open Go Go.RowKit Go.Gv Go.ChangeShapes Go.WideShapes Go.ChangeAt Go.Deep

def segs (cs : List Value) : Nat → List Nat → List (List Value)
  | _, [] => []
  | off, n :: ns => (cs.drop off).take n :: segs cs (off + n) ns
theorem segs_all (cs : List Value) : ∀ (ns : List Nat) (off : Nat), cs.length = off + ns.sum → cs.drop off = (segs cs off ns).flatten
  | [], off, h => by simp at h; simp [segs, List.drop_of_length_le (show cs.length ≤ off by omega)]
  | n :: ns, off, h => by
    have ih := segs_all cs ns (off + n) (by simp at h; omega)
    simp only [segs, List.flatten_cons]
    rw [← ih, ← List.drop_drop, List.take_append_drop]
theorem seg_one {cs : List Value} {off : Nat} (h : off < cs.length) : ∃ v, (cs.drop off).take 1 = [v] := ⟨cs[off], by rw [List.drop_eq_getElem_cons h]; rfl⟩
/-- whatever reads as a T reads as one of A -/
def Reads {α : Type} (A : Rep α) (T : TypeId) : Prop := ∀ (H : Type) (enc : TypeId × Value → H) (W : World) (fuel : Nat) (cs : List Value) (x : DataW H × List MemPlace), DataW.trod enc Try.prog W 0 (fun _ => true) true fuel T cs = some x → ∃ a, A.rd (fun k => k < W.heap.size) W cs a
theorem all_list {α : Type} {P : List Value → α → Prop} : ∀ (css : List (List Value)), (∀ cs ∈ css, ∃ a, P cs a) → ∃ l : List α, l.length = css.length ∧ ∀ (i : Nat) cs a, css[i]? = some cs → l[i]? = some a → P cs a
  | [], _ => ⟨[], rfl, fun i cs a h => by simp at h⟩
  | c :: r, h => by
    obtain ⟨a, ha⟩ := h c (by simp)
    obtain ⟨l, h1, h2⟩ := all_list r fun cs hcs => h cs (by simp [hcs])
    refine ⟨a :: l, by simp [h1], fun i cs b hi hb => ?_⟩
    cases i with
    | zero => simp at hi hb; subst hi hb; exact ha
    | succ i => simp at hi hb; exact h2 i cs b hi hb
theorem trod_slice {α : Type} {A : Rep α} {t e : TypeId} {H : Type} {enc : TypeId × Value → H} {W : World} {fuel : Nat} {v : Value} {x : DataW H × List MemPlace} (hr : Reads A e) (ht : Try.prog.underlying t = some (.slice e)) (hce : Try.prog.cellsOf e = A.sz)
    (h : DataW.trod enc Try.prog W 0 (fun _ => true) true fuel t [v] = some x) : ∃ l : List α, RdS A (fun k => k < W.heap.size) W v l := by
  haveI : Inhabited {cs : List Value // cs.length = A.sz} := ⟨⟨List.replicate A.sz undef, by simp⟩⟩
  have hsh : ∃ ao n cap, v = .slice ao n cap ∧ n ≤ cap ∧ cap ≤ maxLen ∧ (ao = none → cap = 0) := by
    rcases open_slice ht h with ⟨hcs, _⟩ | ⟨a, len, cap, m, n, D, Pl, hcs, _, hl, hm, hmm, _, hel⟩
    · simp at hcs; subst hcs; exact ⟨none, 0, 0, rfl, Nat.le_refl _, Nat.zero_le _, fun _ => rfl⟩
    · simp at hcs; subst hcs; simp only [if_true] at hmm; subst hmm; exact ⟨some a, len, _, rfl, hl, hm, fun h => by cases h⟩
  obtain ⟨raws, h1, h2⟩ := trod_list (fun a : {cs : List Value // cs.length = A.sz} => a.1) (fun a => ∃ y, A.rd (fun k => k < W.heap.size) W a.1 y) ht hce A.pos (fun a => a.2)
    (fun fuel cs x hx => by obtain ⟨a, ha⟩ := hr H enc W fuel cs x hx; exact ⟨⟨cs, A.len ha⟩, rfl, a, ha⟩) h
  obtain ⟨l, hl, hP⟩ := all_list (P := fun cs a => A.rd (fun k => k < W.heap.size) W cs a) (raws.map (·.1)) (fun cs hcs => by obtain ⟨a, ha, rfl⟩ := List.mem_map.1 hcs; exact h2 a ha)
  have hl' : l.length = raws.length := by simpa using hl
  refine ⟨l, raws.map (·.1), by simp [hl'], hP, ?_, ?_⟩
  · have hcl : ∀ cs ∈ raws.map (·.1), cs.length = A.sz := fun cs hcs => by obtain ⟨a, _, rfl⟩ := List.mem_map.1 hcs; exact a.2
    have hfl := flat_len hcl
    rcases h1 with ⟨rfl, ao, cap, rfl⟩ | ⟨g, o, cap, hg, rfl, h0, hc, hm, hcell⟩
    · obtain ⟨ao', n', cap', e', g1, g2, g3⟩ := hsh
      cases e'
      obtain rfl : l = [] := List.eq_nil_of_length_eq_zero (by simpa using hl')
      exact Rd.zero _ _ _ _ g2 g3
    · rw [hl']
      refine Rd.mk hc hm (by rw [hfl]; simp) fun j u hu => ?_
      have hj := (List.getElem?_eq_some_iff.1 hu).1
      rw [hfl] at hj
      simp only [List.length_map] at hj
      have hq : j / A.sz < raws.length := Nat.div_lt_of_lt_mul (by rw [Nat.mul_comm]; exact hj)
      have hmod := Nat.mod_lt j A.pos
      have hdm := Nat.div_add_mod j A.sz
      have hgt := flat_get hcl (j / A.sz) raws[j / A.sz].1 (by simp [List.getElem?_eq_getElem hq]) (j % A.sz) (raws[j / A.sz].1[j % A.sz]'(by rw [raws[j / A.sz].2]; exact hmod)) (List.getElem?_eq_getElem _)
      rw [show j / A.sz * A.sz + j % A.sz = j by rw [Nat.mul_comm]; exact hdm] at hgt
      rw [hgt] at hu
      have := hcell (j / A.sz) hq (j % A.sz) u (by rw [List.getElem?_eq_getElem (by rw [raws[j / A.sz].2]; exact hmod)]; exact hu)
      rw [show o + j / A.sz * A.sz + j % A.sz = o + j by rw [Nat.add_assoc, Nat.mul_comm, hdm]] at this
      exact this
  · intro h0 g hg
    rcases h1 with ⟨rfl, ao, cap, rfl⟩ | ⟨g', o, cap, hg', rfl, _⟩
    · simp at hl'; rw [hl'] at h0; simp at h0
    · simp [Value.ownBlock] at hg; subst hg; exact hg'
theorem reads_arg {α : Type} {A : Rep α} {T : TypeId} (hr : Reads A T) {fs : Array Field} (hu : Try.prog.underlying T = some (.struct fs)) {H : Type} {enc : TypeId × Value → H} {W : World} {base : Nat} {v : Value} {d : DataW H} {p : List MemPlace} (hv' : Value.okWide Try.prog W .any base T v)
    (h : DataW.Trod enc Try.prog W 0 (fun _ => true) true T v d p) : ∃ cs a, v = .agg cs.toArray ∧ A.rd (fun k => k < W.heap.size) W cs a := by
  obtain ⟨fuel, hf⟩ := h
  simp only [Value.okWide, hu] at hv'
  obtain ⟨cs, rfl, -, -⟩ := hv'
  obtain ⟨a, ha⟩ := hr _ _ _ _ _ _ hf
  exact ⟨_, a, (by congr 1), ha⟩
theorem reads_cm : Reads CmR 49 := fun H enc W fuel cs x h => by obtain ⟨c, e, hok⟩ := cm_cells h; exact ⟨c, e, hok⟩
theorem reads_st : Reads StR 30 := by
  intro H enc W fuel cs x h
  obtain ⟨xs, n, _, -, hl, hn, hf⟩ := DataW.trod_struct Try.underlying30 h
  rw [show Try.prog.cellsOf 30 = 38 from by kernel_rfl] at hl
  have hxs : xs.length = 5 := hn
  have f0 : DataW.trod enc Try.prog W 0 (fun _ => true) true n 3 ((cs.drop 0).take (Try.prog.cellsOf 3)) = xs[0]? := hf 0 _ rfl
  rw [List.getElem?_eq_getElem (by omega), show Try.prog.cellsOf 3 = 1 from by kernel_rfl] at f0
  have f1 : DataW.trod enc Try.prog W 0 (fun _ => true) true n 23 ((cs.drop 1).take (Try.prog.cellsOf 23)) = xs[1]? := hf 1 _ rfl
  rw [List.getElem?_eq_getElem (by omega), show Try.prog.cellsOf 23 = 2 from by kernel_rfl] at f1
  have f2 : DataW.trod enc Try.prog W 0 (fun _ => true) true n 25 ((cs.drop 3).take (Try.prog.cellsOf 25)) = xs[2]? := hf 2 _ rfl
  rw [List.getElem?_eq_getElem (by omega), show Try.prog.cellsOf 25 = 32 from by kernel_rfl] at f2
  have f3 : DataW.trod enc Try.prog W 0 (fun _ => true) true n 26 ((cs.drop 35).take (Try.prog.cellsOf 26)) = xs[3]? := hf 3 _ rfl
  rw [List.getElem?_eq_getElem (by omega), show Try.prog.cellsOf 26 = 1 from by kernel_rfl] at f3
  have f4 : DataW.trod enc Try.prog W 0 (fun _ => true) true n 28 ((cs.drop 36).take (Try.prog.cellsOf 28)) = xs[4]? := hf 4 _ rfl
  rw [List.getElem?_eq_getElem (by omega), show Try.prog.cellsOf 28 = 2 from by kernel_rfl] at f4
  obtain ⟨rp, e0, _, w0⟩ := DataW.trod_int Try.underlying3 f0
  obtain ⟨cl, sq, e1, w1, w1'⟩ := trod_pair Try.underlying23 rfl rfl rfl (by kernel_rfl) f1
  obtain ⟨hh, e2, w2, w2'⟩ := trod_arr Try.underlying25 Try.underlying5 (by kernel_rfl) (by kernel_rfl) f2
  obtain ⟨tm', e3, _, w3⟩ := DataW.trod_int Try.underlying26 f3
  obtain ⟨tm, rfl, w3'⟩ := u64_nat w3
  obtain ⟨sb, mr, e4, w4, w4'⟩ := trod_pair Try.underlying28 rfl rfl rfl (by kernel_rfl) f4
  have hcs := segs_all cs [1, 2, 32, 1, 2] 0 (by simpa using hl)
  simp only [List.drop_zero, segs, List.flatten_cons, List.flatten_nil, List.append_nil, Nat.zero_add, Nat.reduceAdd, e0, e1, e2, e3, e4] at hcs
  (try rw [List.drop_zero] at e0)
  (try simp only [e0] at hcs)
  exact ⟨⟨rp, cl, sq, hh, tm, sb, mr⟩, by rw [hcs]; rfl, ⟨bounds_i64 w0, w1, w1', ⟨w2', w2⟩, w3', w4, w4'⟩⟩
theorem reads_dn : Reads DnR 34 := by
  intro H enc W fuel cs x h
  obtain ⟨xs, n, _, -, hl, hn, hf⟩ := DataW.trod_struct Try.underlying34 h
  rw [show Try.prog.cellsOf 34 = 4 from by kernel_rfl] at hl
  have hxs : xs.length = 3 := hn
  have f0 : DataW.trod enc Try.prog W 0 (fun _ => true) true n 3 ((cs.drop 0).take (Try.prog.cellsOf 3)) = xs[0]? := hf 0 _ rfl
  rw [List.getElem?_eq_getElem (by omega), show Try.prog.cellsOf 3 = 1 from by kernel_rfl] at f0
  have f1 : DataW.trod enc Try.prog W 0 (fun _ => true) true n 3 ((cs.drop 1).take (Try.prog.cellsOf 3)) = xs[1]? := hf 1 _ rfl
  rw [List.getElem?_eq_getElem (by omega), show Try.prog.cellsOf 3 = 1 from by kernel_rfl] at f1
  have f2 : DataW.trod enc Try.prog W 0 (fun _ => true) true n 28 ((cs.drop 2).take (Try.prog.cellsOf 28)) = xs[2]? := hf 2 _ rfl
  rw [List.getElem?_eq_getElem (by omega), show Try.prog.cellsOf 28 = 2 from by kernel_rfl] at f2
  obtain ⟨rp, e0, _, w0⟩ := DataW.trod_int Try.underlying3 f0
  obtain ⟨ix, e1, _, w1⟩ := DataW.trod_int Try.underlying3 f1
  obtain ⟨sb, mr, e2, w2, w2'⟩ := trod_pair Try.underlying28 rfl rfl rfl (by kernel_rfl) f2
  have hcs := segs_all cs [1, 1, 2] 0 (by simpa using hl)
  simp only [List.drop_zero, segs, List.flatten_cons, List.flatten_nil, List.append_nil, Nat.zero_add, Nat.reduceAdd, e0, e1, e2] at hcs
  (try rw [List.drop_zero] at e0)
  (try simp only [e0] at hcs)
  exact ⟨⟨rp, ix, sb, mr⟩, by rw [hcs]; rfl, ⟨bounds_i64 w0, bounds_i64 w1, w2, w2'⟩⟩
theorem reads_ce : Reads CeR 52 := by
  intro H enc W fuel cs x h
  obtain ⟨xs, n, _, -, hl, hn, hf⟩ := DataW.trod_struct Try.underlying52 h
  rw [show Try.prog.cellsOf 52 = 38 from by kernel_rfl] at hl
  have hxs : xs.length = 2 := hn
  have f0 : DataW.trod enc Try.prog W 0 (fun _ => true) true n 49 ((cs.drop 0).take (Try.prog.cellsOf 49)) = xs[0]? := hf 0 _ rfl
  rw [List.getElem?_eq_getElem (by omega), show Try.prog.cellsOf 49 = 37 from by kernel_rfl] at f0
  have f1 : DataW.trod enc Try.prog W 0 (fun _ => true) true n 50 ((cs.drop 37).take (Try.prog.cellsOf 50)) = xs[1]? := hf 1 _ rfl
  rw [List.getElem?_eq_getElem (by omega), show Try.prog.cellsOf 50 = 1 from by kernel_rfl] at f1
  obtain ⟨c, e0, w0⟩ := reads_cm _ _ _ _ _ _ f0
  obtain ⟨v, e1⟩ := seg_one (cs := cs) (off := 37) (by omega)
  rw [e1] at f1
  obtain ⟨l, w1⟩ := trod_slice reads_st Try.underlying50 (by kernel_rfl) f1
  have hcs := segs_all cs [37, 1] 0 (by simpa using hl)
  simp only [List.drop_zero, segs, List.flatten_cons, List.flatten_nil, List.append_nil, Nat.zero_add, Nat.reduceAdd, e0, e1] at hcs
  (try rw [List.drop_zero] at e0)
  (try simp only [e0] at hcs)
  exact ⟨⟨c, l⟩, v, hcs, w0, w1⟩
theorem reads_pm : Reads PmR 55 := by
  intro H enc W fuel cs x h
  obtain ⟨xs, n, _, -, hl, hn, hf⟩ := DataW.trod_struct Try.underlying55 h
  rw [show Try.prog.cellsOf 55 = 6 from by kernel_rfl] at hl
  have hxs : xs.length = 5 := hn
  have f0 : DataW.trod enc Try.prog W 0 (fun _ => true) true n 3 ((cs.drop 0).take (Try.prog.cellsOf 3)) = xs[0]? := hf 0 _ rfl
  rw [List.getElem?_eq_getElem (by omega), show Try.prog.cellsOf 3 = 1 from by kernel_rfl] at f0
  have f1 : DataW.trod enc Try.prog W 0 (fun _ => true) true n 3 ((cs.drop 1).take (Try.prog.cellsOf 3)) = xs[1]? := hf 1 _ rfl
  rw [List.getElem?_eq_getElem (by omega), show Try.prog.cellsOf 3 = 1 from by kernel_rfl] at f1
  have f2 : DataW.trod enc Try.prog W 0 (fun _ => true) true n 26 ((cs.drop 2).take (Try.prog.cellsOf 26)) = xs[2]? := hf 2 _ rfl
  rw [List.getElem?_eq_getElem (by omega), show Try.prog.cellsOf 26 = 1 from by kernel_rfl] at f2
  have f3 : DataW.trod enc Try.prog W 0 (fun _ => true) true n 53 ((cs.drop 3).take (Try.prog.cellsOf 53)) = xs[3]? := hf 3 _ rfl
  rw [List.getElem?_eq_getElem (by omega), show Try.prog.cellsOf 53 = 1 from by kernel_rfl] at f3
  have f4 : DataW.trod enc Try.prog W 0 (fun _ => true) true n 28 ((cs.drop 4).take (Try.prog.cellsOf 28)) = xs[4]? := hf 4 _ rfl
  rw [List.getElem?_eq_getElem (by omega), show Try.prog.cellsOf 28 = 2 from by kernel_rfl] at f4
  obtain ⟨rp, e0, _, w0⟩ := DataW.trod_int Try.underlying3 f0
  obtain ⟨ep, e1, _, w1⟩ := DataW.trod_int Try.underlying3 f1
  obtain ⟨fl', e2, _, w2⟩ := DataW.trod_int Try.underlying26 f2
  obtain ⟨fl, rfl, w2'⟩ := u64_nat w2
  obtain ⟨v, e3⟩ := seg_one (cs := cs) (off := 3) (by omega)
  rw [e3] at f3
  obtain ⟨l, w3⟩ := trod_slice reads_ce Try.underlying53 (by kernel_rfl) f3
  obtain ⟨sb, mr, e4, w4, w4'⟩ := trod_pair Try.underlying28 rfl rfl rfl (by kernel_rfl) f4
  have hcs := segs_all cs [1, 1, 1, 1, 2] 0 (by simpa using hl)
  simp only [List.drop_zero, segs, List.flatten_cons, List.flatten_nil, List.append_nil, Nat.zero_add, Nat.reduceAdd, e0, e1, e2, e3, e4] at hcs
  (try rw [List.drop_zero] at e0)
  (try simp only [e0] at hcs)
  exact ⟨⟨rp, ep, fl, l, sb, mr⟩, v, hcs, ⟨bounds_i64 w0, bounds_i64 w1, w2', w4, w4'⟩, w3⟩
theorem reads_op : Reads OpR 87 := by
  intro H enc W fuel cs x h
  obtain ⟨xs, n, _, -, hl, hn, hf⟩ := DataW.trod_struct Try.underlying87 h
  rw [show Try.prog.cellsOf 87 = 34 from by kernel_rfl] at hl
  have hxs : xs.length = 3 := hn
  have f0 : DataW.trod enc Try.prog W 0 (fun _ => true) true n 3 ((cs.drop 0).take (Try.prog.cellsOf 3)) = xs[0]? := hf 0 _ rfl
  rw [List.getElem?_eq_getElem (by omega), show Try.prog.cellsOf 3 = 1 from by kernel_rfl] at f0
  have f1 : DataW.trod enc Try.prog W 0 (fun _ => true) true n 38 ((cs.drop 1).take (Try.prog.cellsOf 38)) = xs[1]? := hf 1 _ rfl
  rw [List.getElem?_eq_getElem (by omega), show Try.prog.cellsOf 38 = 1 from by kernel_rfl] at f1
  have f2 : DataW.trod enc Try.prog W 0 (fun _ => true) true n 25 ((cs.drop 2).take (Try.prog.cellsOf 25)) = xs[2]? := hf 2 _ rfl
  rw [List.getElem?_eq_getElem (by omega), show Try.prog.cellsOf 25 = 32 from by kernel_rfl] at f2
  obtain ⟨ix, e0, _, w0⟩ := DataW.trod_int Try.underlying3 f0
  obtain ⟨v, e1⟩ := seg_one (cs := cs) (off := 1) (by omega)
  rw [e1] at f1
  obtain ⟨pl, w1⟩ := trod_bytes f1
  obtain ⟨hh, e2, w2, w2'⟩ := trod_arr Try.underlying25 Try.underlying5 (by kernel_rfl) (by kernel_rfl) f2
  have hcs := segs_all cs [1, 1, 32] 0 (by simpa using hl)
  simp only [List.drop_zero, segs, List.flatten_cons, List.flatten_nil, List.append_nil, Nat.zero_add, Nat.reduceAdd, e0, e1, e2] at hcs
  (try rw [List.drop_zero] at e0)
  (try simp only [e0] at hcs)
  exact ⟨⟨ix, pl, hh⟩, v, hcs, ⟨bounds_i64 w0, w2', w2⟩, w1⟩
theorem reads_tb : Reads TbR 90 := by
  intro H enc W fuel cs x h
  obtain ⟨xs, n, _, -, hl, hn, hf⟩ := DataW.trod_struct Try.underlying90 h
  rw [show Try.prog.cellsOf 90 = 2 from by kernel_rfl] at hl
  have hxs : xs.length = 2 := hn
  have f0 : DataW.trod enc Try.prog W 0 (fun _ => true) true n 3 ((cs.drop 0).take (Try.prog.cellsOf 3)) = xs[0]? := hf 0 _ rfl
  rw [List.getElem?_eq_getElem (by omega), show Try.prog.cellsOf 3 = 1 from by kernel_rfl] at f0
  have f1 : DataW.trod enc Try.prog W 0 (fun _ => true) true n 88 ((cs.drop 1).take (Try.prog.cellsOf 88)) = xs[1]? := hf 1 _ rfl
  rw [List.getElem?_eq_getElem (by omega), show Try.prog.cellsOf 88 = 1 from by kernel_rfl] at f1
  obtain ⟨ix, e0, _, w0⟩ := DataW.trod_int Try.underlying3 f0
  obtain ⟨v, e1⟩ := seg_one (cs := cs) (off := 1) (by omega)
  rw [e1] at f1
  obtain ⟨l, w1⟩ := trod_slice reads_dn Try.underlying88 (by kernel_rfl) f1
  have hcs := segs_all cs [1, 1] 0 (by simpa using hl)
  simp only [List.drop_zero, segs, List.flatten_cons, List.flatten_nil, List.append_nil, Nat.zero_add, Nat.reduceAdd, e0, e1] at hcs
  (try rw [List.drop_zero] at e0)
  (try simp only [e0] at hcs)
  exact ⟨⟨ix, l⟩, v, hcs, bounds_i64 w0, w1⟩
theorem reads_ba : Reads BaR 60 := by
  intro H enc W fuel cs x h
  obtain ⟨xs, n, _, -, hl, hn, hf⟩ := DataW.trod_struct Try.underlying60 h
  rw [show Try.prog.cellsOf 60 = 5 from by kernel_rfl] at hl
  have hxs : xs.length = 5 := hn
  have f0 : DataW.trod enc Try.prog W 0 (fun _ => true) true n 3 ((cs.drop 0).take (Try.prog.cellsOf 3)) = xs[0]? := hf 0 _ rfl
  rw [List.getElem?_eq_getElem (by omega), show Try.prog.cellsOf 3 = 1 from by kernel_rfl] at f0
  have f1 : DataW.trod enc Try.prog W 0 (fun _ => true) true n 26 ((cs.drop 1).take (Try.prog.cellsOf 26)) = xs[1]? := hf 1 _ rfl
  rw [List.getElem?_eq_getElem (by omega), show Try.prog.cellsOf 26 = 1 from by kernel_rfl] at f1
  have f2 : DataW.trod enc Try.prog W 0 (fun _ => true) true n 56 ((cs.drop 2).take (Try.prog.cellsOf 56)) = xs[2]? := hf 2 _ rfl
  rw [List.getElem?_eq_getElem (by omega), show Try.prog.cellsOf 56 = 1 from by kernel_rfl] at f2
  have f3 : DataW.trod enc Try.prog W 0 (fun _ => true) true n 57 ((cs.drop 3).take (Try.prog.cellsOf 57)) = xs[3]? := hf 3 _ rfl
  rw [List.getElem?_eq_getElem (by omega), show Try.prog.cellsOf 57 = 1 from by kernel_rfl] at f3
  have f4 : DataW.trod enc Try.prog W 0 (fun _ => true) true n 58 ((cs.drop 4).take (Try.prog.cellsOf 58)) = xs[4]? := hf 4 _ rfl
  rw [List.getElem?_eq_getElem (by omega), show Try.prog.cellsOf 58 = 1 from by kernel_rfl] at f4
  obtain ⟨ep, e0, _, w0⟩ := DataW.trod_int Try.underlying3 f0
  obtain ⟨tm', e1, _, w1⟩ := DataW.trod_int Try.underlying26 f1
  obtain ⟨tm, rfl, w1'⟩ := u64_nat w1
  obtain ⟨vp, e2⟩ := seg_one (cs := cs) (off := 2) (by omega)
  rw [e2] at f2
  obtain ⟨ps, w2⟩ := trod_slice reads_pm Try.underlying56 (by kernel_rfl) f2
  obtain ⟨vo, e3⟩ := seg_one (cs := cs) (off := 3) (by omega)
  rw [e3] at f3
  obtain ⟨os, w3⟩ := trod_slice reads_op Try.underlying57 (by kernel_rfl) f3
  obtain ⟨vt, e4⟩ := seg_one (cs := cs) (off := 4) (by omega)
  rw [e4] at f4
  obtain ⟨ts, w4⟩ := trod_slice reads_tb Try.underlying58 (by kernel_rfl) f4
  have hcs := segs_all cs [1, 1, 1, 1, 1] 0 (by simpa using hl)
  simp only [List.drop_zero, segs, List.flatten_cons, List.flatten_nil, List.append_nil, Nat.zero_add, Nat.reduceAdd, e0, e1, e2, e3, e4] at hcs
  (try rw [List.drop_zero] at e0)
  (try simp only [e0] at hcs)
  exact ⟨⟨ep, tm, ps, os, ts⟩, vp, vo, vt, hcs, ⟨bounds_i64 w0, w1'⟩, w2, w3, w4⟩
end Go.Proofs.Ytknpapcfhnhheaa

/- Proposals as arguments. -/
set_option maxRecDepth 100000
set_option linter.unusedVariables false
namespace Go.Proofs.Ytknpapcfhnhheaa
open Go Go.RowKit Go.Gv Go.ChangeShapes Go.WideShapes Go.ChangeAt Go.Deep

end Go.Proofs.Ytknpapcfhnhheaa

set_option maxRecDepth 100000
set_option linter.unusedVariables false
namespace Go.Proofs.Ytknpapcfhnhheaa.wireBack
open Go Go.RowKit Go.Gv Go.ChangeShapes Go.WideShapes Go.ChangeAt
open Go.ChangeMaps (open_string shut_string)

theorem own : ownKnob Try.prog.godebug = none := by kernel_rfl
theorem laidOut : laidOutB Try.prog = true := by kernel_rfl

theorem lifted (os : Os) (started : os.Started) (H : Type) (enc : TypeId × Value → H) :
    ReturnsInHanded {} Try.checked os 8 .any (Rows.wireBackSpec.pre6 enc Try.prog Try.f8 Rows.wireBackRow.domain false) (Rows.wireBackSpec.post enc Try.prog Try.f8 false true false false) := by
  refine returnsInHanded_of_change (C := Try.checked) own started (by kernel_rfl) Try.func8
    (ChangeSpec.witness6 (enc := enc) (C := Try.checked) false ⟨#[], #[.agg #[.int .i64 0, .int .i64 0, .int .u8 0, .int .u8 0, .int .u8 0, .int .u8 0, .int .u8 0, .int .u8 0, .int .u8 0, .int .u8 0, .int .u8 0, .int .u8 0, .int .u8 0, .int .u8 0, .int .u8 0, .int .u8 0, .int .u8 0, .int .u8 0, .int .u8 0, .int .u8 0, .int .u8 0, .int .u8 0, .int .u8 0, .int .u8 0, .int .u8 0, .int .u8 0, .int .u8 0, .int .u8 0, .int .u8 0, .int .u8 0, .int .u8 0, .int .u8 0, .int .u8 0, .int .u8 0, .int .i64 0, .int .i64 0, .int .i64 0, .slice none 0 0], .agg #[.int .i64 0, .int .i64 0, .int .u64 0, .slice none 0 0, .int .i64 0, .int .i64 0], .agg #[.int .i64 0, .int .u64 0, .slice none 0 0, .slice none 0 0, .slice none 0 0], .slice none 0 0], []⟩ 8 (by kernel_rfl) (by kernel_rfl) (by kernel_rfl) (by kernel_rfl)) ?_
  intro W base args ds gs before hval0 hW hcnd _
  have hval : ∀ (j : Nat) t v, Try.f8.params[j]? = some t → args[j]? = some v → Value.okWide Try.prog W .any base t v := hval0
  have hW' := hW
  obtain ⟨p, q, hA0, hV, rfl, hfz, hnd⟩ := hW
  have hA : DataW.TrodAll enc Try.prog W 0 (fun _ => true) true Try.f8.params.toList args.toList ds p := hA0
  rw [Try.params8] at hA hval
  obtain ⟨v0, vs0, d0, ds0, p0, q0, hargs, rfl, rfl, h0, r0⟩ := trodAll_cons hA
  obtain ⟨v1, vs1, d1, ds1, p1, q1, rfl, rfl, rfl, h1, r1⟩ := trodAll_cons r0
  obtain ⟨v2, vs2, d2, ds2, p2, q2, rfl, rfl, rfl, h2, r2⟩ := trodAll_cons r1
  obtain ⟨v3, vs3, d3, ds3, p3, q3, rfl, rfl, rfl, h3, r3⟩ := trodAll_cons r2
  obtain ⟨rfl, rfl, rfl⟩ := trodAll_nil r3
  obtain rfl : args = #[v0, v1, v2, v3] := by cases args; simp_all
  obtain ⟨rfl, rfl⟩ := trodVars_none hV
  have k0 := h0
  have lt0 : ∀ x ∈ p0, x.block < W.heap.size := by obtain ⟨m, hm⟩ := k0; exact DataW.trod_lt m _ _ _ hm
  have k1 := h1
  have lt1 : ∀ x ∈ p1, x.block < W.heap.size := by obtain ⟨m, hm⟩ := k1; exact DataW.trod_lt m _ _ _ hm
  have k2 := h2
  have lt2 : ∀ x ∈ p2, x.block < W.heap.size := by obtain ⟨m, hm⟩ := k2; exact DataW.trod_lt m _ _ _ hm
  have k3 := h3
  have lt3 : ∀ x ∈ p3, x.block < W.heap.size := by obtain ⟨m, hm⟩ := k3; exact DataW.trod_lt m _ _ _ hm
  obtain ⟨cs0, x0, e0, n0⟩ := reads_arg reads_ce Try.underlying52 (hval 0 52 v0 rfl rfl) h0
  subst e0
  obtain ⟨cs1, x1, e1, n1⟩ := reads_arg reads_pm Try.underlying55 (hval 1 55 v1 rfl rfl) h1
  subst e1
  obtain ⟨cs2, x2, e2, n2⟩ := reads_arg reads_ba Try.underlying60 (hval 2 60 v2 rfl rfl) h2
  subst e2
  obtain ⟨b3, w3, o3⟩ := bytes_of_trod (hval 3 38 v3 rfl rfl) h3
  clear hA0 hval0
  have hp3 : RdR (fun k => k < W.heap.size) b3.length W v3 b3 := ⟨w3, w3.block_lt, Nat.le_refl _⟩
  refine (LBack_any (fun k => k < W.heap.size) x0 x1 x2 cs0 cs1 cs2 v3 b3 b3.length W n0 n1 n2 hp3 (fun _ h => h)).mono fun e W' ⟨he, hmod⟩ => ?_
  subst he
  have bel : Below W.heap.size W W' := hmod.below (Nat.le_refl _) (fun _ _ => id)
  exact ⟨_, rfl, _, _, _, [], _, [], hW', trodAll_mk1 (shut_bool Try.underlying4 _), (trodAll_cons_mk (Below.trod laidOut (by kernel_rfl) (of_decide_eq_true (by kernel_rfl)) k0 bel lt0) (trodAll_cons_mk (Below.trod laidOut (by kernel_rfl) (of_decide_eq_true (by kernel_rfl)) k1 bel lt1) (trodAll_cons_mk (Below.trod laidOut (by kernel_rfl) (of_decide_eq_true (by kernel_rfl)) k2 bel lt2) (trodAll_cons_mk (Below.trod laidOut (by kernel_rfl) (of_decide_eq_true (by kernel_rfl)) k3 bel lt3) trodAll_mk0)))), rfl, bel.frame _, fun h => by cases h⟩

theorem over : Rows.wireBackRow.holds Try.pinned (OpenSpec.ofChange Rows.wireBackSpec) :=
  OpenClaim.holds_of_wide 8 Try.f8 rfl rfl rfl rfl rfl rfl rfl ⟨rfl, rfl, rfl, rfl, rfl⟩ rfl rfl rfl rfl rfl (by kernel_rfl) Try.func8 (by kernel_rfl)
    (of_decide_eq_true (by kernel_rfl)) (by unfold Func.isWrapper; first | (rw [if_pos (by decide +kernel)]; kernel_rfl) | (rw [if_neg (by decide +kernel)]; exact ⟨rfl, rfl⟩))
    (fun os started H enc _ => lifted os started H enc)

theorem proved : Rows.WireBackSaid := over
end Go.Proofs.Ytknpapcfhnhheaa.wireBack
