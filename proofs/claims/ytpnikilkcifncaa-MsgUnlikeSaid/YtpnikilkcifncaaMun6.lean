/- Texts that are built one behind the other: XKm, XMn, XArg0, XArg, XArg2, XArg3. No condition. -/
import Derived.Test.YtpnikilkcifncaaMun5
set_option maxRecDepth 100000
set_option linter.unusedVariables false
/- gavelkeep: comparisons of votes, proposals, messages. -/
namespace Go.Proofs.Ytpnikilkcifncaa
open Go Go.RowKit Go.Gv


theorem run_eql_strE {t : TypeId} {a b : ByteArray} (w : World) : (binOp .eql t (.string a) (.string b)).run Try.prog w = .ok (.bool (eqb a b)) w := by
  rw [binOp_string_eql, Sem.run_pure]
  congr 2
  by_cases h : a = b
  · rw [h, eqb_rfl]; exact beq_self_eq_true _
  · rw [eqb_ne h, beq_eq_false_iff_ne]
    intro e
    exact h (ByteArray.ext (Array.toList_inj.1 (by simpa [ByteArray.toList_eq] using e)))
theorem guard_strE {op : BinOp} {t : TypeId} {x y : Operand} {s : ByteArray} {v : Value} (w : World) : (eqGuard op t x y (.string s) v).run Try.prog w = .ok () w := by cases op <;> simp [eqGuard]
theorem pr_eqb (x y : Pr) : (((((x.ep == y.ep) && (x.rn == y.rn)) && (x.vl == y.vl)) && (x.rp == y.rp)) && eqb (x.sb, x.mr) (y.sb, y.mr) && eqb x.ba y.ba) = eqb x y := by
  rw [Bool.eq_iff_iff]
  simp only [Bool.and_eq_true, eqb_iff, beq_I, Prod.mk.injEq]
  cases x; cases y
  simp only [Pr.mk.injEq]
  constructor
  · rintro ⟨⟨⟨⟨⟨h1, h2⟩, h3⟩, h4⟩, h5, h6⟩, h7⟩; exact ⟨h1, h2, h3, h4, h7, h5, h6⟩
  · rintro ⟨h1, h2, h3, h4, h7, h5, h6⟩; exact ⟨⟨⟨⟨⟨h1, h2⟩, h3⟩, h4⟩, h5, h6⟩, h7⟩
theorem mg_eqb (x y : Mg) : ((((((((((((((((((((((x.kd == y.kd) && (x.fr == y.fr)) && (x.to == y.to)) && eqb x.cm y.cm) && eqb x.st y.st) && eqb x.ce y.ce) && eqb x.ak y.ak) && (x.ep == y.ep)) && (x.rn == y.rn)) && (((x.tm : Nat) : Int) == ((y.tm : Nat) : Int))) && eqb x.pm y.pm) && eqb x.pr y.pr) && eqb x.vt y.vt) && (x.ix == y.ix)) && eqb x.en y.en) && eqb x.op y.op) && eqb x.dn y.dn) && eqb x.rp y.rp) && (x.dc.ep == y.dc.ep)) && (x.dc.rn == y.dc.rn)) && eqb x.dc.ba y.dc.ba) && eqb x.dc.l y.dc.l) = eqb x y := by
  rw [Bool.eq_iff_iff]
  simp only [Bool.and_eq_true, eqb_iff, beq_I, Int.ofNat_inj]
  obtain ⟨a0, a1, a2, a3, a4, a5, a6, a7, a8, a9, a10, a11, a12, a13, a14, a15, a16, a17, ⟨d0, d1, d2, d3⟩⟩ := x
  obtain ⟨b0, b1, b2, b3, b4, b5, b6, b7, b8, b9, b10, b11, b12, b13, b14, b15, b16, b17, ⟨e0, e1, e2, e3⟩⟩ := y
  simp only [Mg.mk.injEq, Dc.mk.injEq]
  constructor
  · rintro ⟨⟨⟨⟨⟨⟨⟨⟨⟨⟨⟨⟨⟨⟨⟨⟨⟨⟨⟨⟨⟨h0, h1⟩, h2⟩, h3⟩, h4⟩, h5⟩, h6⟩, h7⟩, h8⟩, h9⟩, h10⟩, h11⟩, h12⟩, h13⟩, h14⟩, h15⟩, h16⟩, h17⟩, h18⟩, h19⟩, h20⟩, h21⟩; exact ⟨h0, h1, h2, h3, h4, h5, h6, h7, h8, h9, h10, h11, h12, h13, h14, h15, h16, h17, h18, h19, h20, h21⟩
  · rintro ⟨h0, h1, h2, h3, h4, h5, h6, h7, h8, h9, h10, h11, h12, h13, h14, h15, h16, h17, h18, h19, h20, h21⟩; exact ⟨⟨⟨⟨⟨⟨⟨⟨⟨⟨⟨⟨⟨⟨⟨⟨⟨⟨⟨⟨⟨h0, h1⟩, h2⟩, h3⟩, h4⟩, h5⟩, h6⟩, h7⟩, h8⟩, h9⟩, h10⟩, h11⟩, h12⟩, h13⟩, h14⟩, h15⟩, h16⟩, h17⟩, h18⟩, h19⟩, h20⟩, h21⟩
set_option maxHeartbeats 4000000 in
theorem EqL_Vt : EqsL VtR 60 := by
  intro R R2 v v2 l m w hs ht hB hB2
  obtain ⟨ao, cap, rfl⟩ := hs.shape
  obtain ⟨bo, bcap, rfl⟩ := ht.shape
  have hlm : l.length ≤ maxLen := hs.bd
  rw [maxLen_val] at hlm
  have HS := Lib.hid hs
  have HT := Lib.hid ht
  have HBR := Lib.hid hB
  have HBT := Lib.hid hB2
  clear hs ht hB hB2
  go_enter Try.func60, Try.ntmps60
  go_upto_region 1 with (fail)
  have HM0 := hid (Mod.refl (fun _ => False) w)
  by_cases hl : l.length = m.length
  rotate_left
  · skip
    go_upto_region 1 with (fail)
    refine wp_region_U 26 [6, 7, 8, 9, 10] [0, 1, 2, 3, 4] (fun a0 HA0 => ?_)
    have oe0 := ev HA0 0 rfl
    have oe1 := ev HA0 1 rfl
    refine QSeq.pure rfl _ (fun E => ex_move rfl (E.v oe0)) ?_
    refine QSeq.pure rfl (.int .i64 l.length) (fun E => ex_lenS rfl (E.d 0 0) Try.underlying105) ?_
    refine QSeq.pure rfl _ (fun E => ex_move rfl (E.v oe1)) ?_
    refine QSeq.pure rfl (.int .i64 m.length) (fun E => ex_lenS rfl (E.d 2 0) Try.underlying105) ?_
    refine QSeq.pure rfl (.bool true) (fun E => ex_binE rfl (E.d 1 2) (E.d 3 0) (guard_ints _ _ _ _ _ _) (run_neq_i _ _ _ Try.underlying3) (congrArg Value.bool (ne_tt (by omega)))) ?_
    refine QSeq.nil (t' := [_, _, _, _, _]) rfl ?_
    obtain rfl := HA0.out
    clear HA0 oe0 oe1
    simp only [pz, Act.put, List.setIfInBounds_toArray, List.set_cons_zero, List.set_cons_succ]
    go_upto_region 2 with (fail)
    refine wp_region_U 26 [4] [0] (fun a0 HA0 => ?_)
    refine QSeq.pure rfl (.bool false) (fun E => ex_assign rfl rfl) ?_
    refine QSeq.nil (t' := [_]) rfl ?_
    obtain rfl := HA0.out
    clear HA0
    simp only [pz, Act.put, List.setIfInBounds_toArray, List.set_cons_zero, List.set_cons_succ]
    go_wp2
    go_ret
    exact ⟨ret_bool (eqb_ne fun e => hl (by rw [e])).symm, HM0.out⟩
  · skip
    go_upto_region 1 with (fail)
    refine wp_region_U 26 [6, 7, 8, 9, 10] [0, 1, 2, 3, 4] (fun a0 HA0 => ?_)
    have oe0 := ev HA0 0 rfl
    have oe1 := ev HA0 1 rfl
    refine QSeq.pure rfl _ (fun E => ex_move rfl (E.v oe0)) ?_
    refine QSeq.pure rfl (.int .i64 l.length) (fun E => ex_lenS rfl (E.d 0 0) Try.underlying105) ?_
    refine QSeq.pure rfl _ (fun E => ex_move rfl (E.v oe1)) ?_
    refine QSeq.pure rfl (.int .i64 m.length) (fun E => ex_lenS rfl (E.d 2 0) Try.underlying105) ?_
    refine QSeq.pure rfl (.bool false) (fun E => ex_binE rfl (E.d 1 2) (E.d 3 0) (guard_ints _ _ _ _ _ _) (run_neq_i _ _ _ Try.underlying3) (congrArg Value.bool (ne_ff (by omega)))) ?_
    refine QSeq.nil (t' := [_, _, _, _, _]) rfl ?_
    obtain rfl := HA0.out
    clear HA0 oe0 oe1
    simp only [pz, Act.put, List.setIfInBounds_toArray, List.set_cons_zero, List.set_cons_succ]
    go_upto_region 3 with (fail)
    refine wp_region_U 26 [5] [0] (fun a0 HA0 => ?_)
    refine QSeq.pure rfl (.int .i64 0) (fun E => ex_assign rfl rfl) ?_
    refine QSeq.nil (t' := [_]) rfl ?_
    obtain rfl := HA0.out
    clear HA0
    simp only [pz, Act.put, List.setIfInBounds_toArray, List.set_cons_zero, List.set_cons_succ]
    have HLE := Lib.hid hl
    clear hl
    go_wp2
    go_loopw [5] (fun ti wr => ∃ k : Nat, ti = .int .i64 (k : Int) ∧ k ≤ l.length ∧ l.take k = m.take k ∧ w.heap.size ≤ wr.heap.size ∧ RdS VtR R wr (.slice ao l.length cap) l ∧ RdS VtR R2 wr (.slice bo m.length bcap) m ∧ Mod (fun _ => False) w wr) (fun ti _ => l.length - (intOf ti).toNat)
    case atStart => exact ⟨0, rfl, Nat.zero_le _, rfl, Nat.le_refl _, HS.out, HT.out, HM0.out⟩
    case round =>
      obtain ⟨k, rfl, hk, htk, hz, hs, ht, hm⟩ := hrel
      obtain ⟨wl, rfl⟩ : ∃ x, x = wr := ⟨_, rfl⟩
      have HS2 := Lib.hid hs
      have HT2 := Lib.hid ht
      have HML := Lib.hid hm
      have HTK := Lib.hid htk
      clear hs ht hm htk HS HT HM0
      by_cases hlt : k < l.length
      · have hlt2 : k < m.length := by have := HLE.out; omega
        go_upto_region 4 with (fail)
        refine wp_region_U 26 [11, 12, 13, 14] [0, 1, 2, 3] (fun a0 HA0 => ?_)
        have oe0 := ev HA0 0 rfl
        have oe5 := ev HA0 5 rfl
        refine QSeq.pure rfl _ (fun E => ex_move rfl (E.v oe5)) ?_
        refine QSeq.pure rfl _ (fun E => ex_move rfl (E.v oe0)) ?_
        refine QSeq.pure rfl (.int .i64 l.length) (fun E => ex_lenS rfl (E.d 1 0) Try.underlying105) ?_
        refine QSeq.pure rfl (.bool true) (fun E => ex_binE rfl (E.d 0 2) (E.d 2 0) (guard_ints _ _ _ _ _ _) (run_lss_i _ _ _ Try.underlying3) (congrArg Value.bool (decide_eq_true (by omega)))) ?_
        refine QSeq.nil (t' := [_, _, _, _]) rfl ?_
        obtain rfl := HA0.out
        clear HA0 oe0 oe5
        simp only [pz, Act.put, List.setIfInBounds_toArray, List.set_cons_zero, List.set_cons_succ]
        have hat := HS2.out.at hlt
        obtain ⟨g1, o1, c1, eao, hrg, hrd, hcs⟩ := hat
        subst eao
        obtain ⟨x, hx⟩ : ∃ z, z = l[k] := ⟨_, rfl⟩
        rw [← hx] at hrd
        have HX1 := Lib.hid hx
        have hcl : c1.length = 38 := VtR.len hrd
        have HCL1 := Lib.hid hcl
        have HAT1 := hid (show CellsAt R wl g1 (o1 + k * 38) c1 from ⟨hrg, hcs⟩)
        have HRD1 := Lib.hid hrd
        clear hcl hcs hrd hrg hx
        have hat := HT2.out.at hlt2
        obtain ⟨g2, o2, c2, eao, hrg, hrd, hcs⟩ := hat
        subst eao
        obtain ⟨y, hy⟩ : ∃ z, z = m[k] := ⟨_, rfl⟩
        rw [← hy] at hrd
        have HX2 := Lib.hid hy
        have hcl : c2.length = 38 := VtR.len hrd
        have HCL2 := Lib.hid hcl
        have HAT2 := hid (show CellsAt R2 wl g2 (o2 + k * 38) c2 from ⟨hrg, hcs⟩)
        have HRD2 := Lib.hid hrd
        clear hcl hcs hrd hrg hy
        obtain ⟨b, hb⟩ : ∃ b, b = eqb x y := ⟨_, rfl⟩
        have HB := Lib.hid hb
        clear hb
        obtain ⟨rfl, hok1⟩ := HRD1.out
        obtain ⟨rfl, hok2⟩ := HRD2.out
        have HO1 := Lib.hid hok1
        have HO2 := Lib.hid hok2
        clear hok1 hok2
        clear HRD1
        clear HRD2
        go_upto_region 6 with (fail)
        generalize ha0 : Act.mk _ _ = a0
        have oe0 : a0.eval (.tmp 0) = .slice (some ⟨g1, o1, none⟩) l.length cap := by rw [← ha0]; rfl
        have oe1 : a0.eval (.tmp 1) = .slice (some ⟨g2, o2, none⟩) m.length bcap := by rw [← ha0]; rfl
        have oe5 : a0.eval (.tmp 5) = .int .i64 ((k : Nat) : Int) := by rw [← ha0]; rfl
        have hsz0 : a0.tmps.size = 26 := by rw [← ha0]; rfl
        have HA0 := hid ha0
        clear ha0
        refine wp_region_Q0 26 hsz0 [17, 18, 19, 20, 21, 22, 23, 24, 25] [qi (.slice (some ⟨g1, o1, none⟩) l.length cap), qi (.int .i64 ((k : Nat) : Int)), qi (.pointer (some ⟨g1, o1 + k * 38, none⟩)), qi (.agg x.cells.toArray), qi (.slice (some ⟨g2, o2, none⟩) m.length bcap), qi (.int .i64 ((k : Nat) : Int)), qi (.pointer (some ⟨g2, o2 + k * 38, none⟩)), qi (.agg y.cells.toArray), qi (.bool (!b))] ⟨qi_stable, qi_stable, qi_stable, qi_stable, qi_stable, qi_stable, qi_stable, qi_stable, qi_stable, trivial⟩ [] ⟨?_, ?_, ?_, ?_, ?_, ?_, ?_, ?_, ?_, trivial⟩ ?_
        · exact stq (fun E => ex_move rfl (E.v oe0))
        · exact stq (fun E => ex_move rfl (E.v oe5))
        · exact stq (fun E => ex_idxS (i := k) (s := 38) rfl Try.underlying105 (by kernel_rfl) (E.d 0) (E.d 1) (by first | exact hlt | exact hlt2))
        · exact stq (fun E => ex_loadA rfl Try.underlying98 rfl (off := o1 + k * 38) (cs := x.cells) (by rw [HCL1.out]; kernel_rfl) (E.d 2) (fun j u hu => ((HAT1.out.mod E.m.old (by intro k h1 h2; have hb := HBR.out k h1; omega))).2 j u hu))
        · exact stq (fun E => ex_move rfl (E.v oe1))
        · exact stq (fun E => ex_move rfl (E.v oe5))
        · exact stq (fun E => ex_idxS (i := k) (s := 38) rfl Try.underlying105 (by kernel_rfl) (E.d 4) (E.d 5) (by first | exact hlt | exact hlt2))
        · exact stq (fun E => ex_loadA rfl Try.underlying98 rfl (off := o2 + k * 38) (cs := y.cells) (by rw [HCL2.out]; kernel_rfl) (E.d 6) (fun j u hu => ((HAT2.out.mod E.m.old (by intro k h1 h2; have hb := HBT.out k h1; omega))).2 j u hu))
        · exact stq (fun E => ex_binE rfl (E.d 3) (E.d 7) (agg_guardE _ _ _ _ _ _ (by kernel_rfl) _) (EqW.runN eqW_vote (ki_vt HO1.out) (ki_vt HO2.out) (vt_iff HO1.out HO2.out) _) (congrArg (fun z => Value.bool (!z)) HB.out.symm))
        intro u6_0 hr
        have zu6_0 := hr.size
        have Cx1 := hid (hr.new (S := (fun _ => False)))
        clear hr
        refine QChain.nil fun vs hl hzz hrows hne => ?_
        obtain ⟨Z, hYZ, hZb, hV⟩ := hzz
        have f0 := fvi hV hl 0
        have f1 := fvi hV hl 1
        have f4 := fvi hV hl 4
        have f5 := fvi hV hl 5
        have f8 := fvi hV hl 8
        rw [show vs = [gw vs 0, gw vs 1, gw vs 2, gw vs 3, gw vs 4, gw vs 5, gw vs 6, gw vs 7, gw vs 8] from (gw_eta hl).trans rfl]
        have ha0 := HA0.out
        subst ha0
        clear HA0 hV hYZ hZb hsz0 hrows hne oe0 oe1 oe5
        simp only [putAll, Act.put, List.setIfInBounds_toArray, List.set_cons_zero, List.set_cons_succ, f0, f1, f4, f5, f8]
        clear hl f0 f1 f4 f5 f8
        cases b with
        | false =>
          go_upto_region 7 with (fail)
          refine wp_region_U 26 [4] [0] (fun a0 HA0 => ?_)
          refine QSeq.pure rfl (.bool false) (fun E => ex_assign rfl rfl) ?_
          refine QSeq.nil (t' := [_]) rfl ?_
          obtain rfl := HA0.out
          clear HA0
          simp only [pz, Act.put, List.setIfInBounds_toArray, List.set_cons_zero, List.set_cons_succ]
          go_wp2
          go_ret
          exact ⟨ret_bool (take_ne hlt hlt2 (fun e => by have h := HB.out; rw [HX1.out, HX2.out, e, eqb_rfl] at h; cases h)).symm, (HML.out.trans Cx1.out (fun _ _ h => h.elim))⟩
        | true =>
          go_upto_region 5 with (fail)
          refine wp_region_U 26 [15, 16, 5] [0, 1, 2] (fun a0 HA0 => ?_)
          have oe5 := ev HA0 5 rfl
          refine QSeq.pure rfl _ (fun E => ex_move rfl (E.y 2 oe5)) ?_
          refine QSeq.pure rfl (.int .i64 (((k : Nat) : Int) + 1)) (fun E => ex_binE rfl (E.d 0 0) rfl (guard_ints _ _ _ _ _ _) (run_add_i _ _ Try.underlying3) (congrArg (Value.int .i64) (IntWalk.i64_in _ (by omega)))) ?_
          refine QSeq.pure rfl _ (fun E => ex_assign rfl (E.d 1 0)) ?_
          refine QSeq.nil (t' := [_, _, _]) rfl ?_
          obtain rfl := HA0.out
          clear HA0 oe5
          simp only [pz, Act.put, List.setIfInBounds_toArray, List.set_cons_zero, List.set_cons_succ]
          go_wp2
          go_roundw
          case rel => exact ⟨k + 1, by go_num, by omega, take_succ2 hlt hlt2 HTK.out (by have h := eqb_iff.1 HB.out.symm; rw [HX1.out, HX2.out] at h; exact h), by omega, (HS2.out.mod Cx1.out (fun _ _ h => h)), (HT2.out.mod Cx1.out (fun _ _ h => h)), (HML.out.trans Cx1.out (fun _ _ h => h.elim))⟩
          case measure => simp [intOf] <;> omega
      · skip
        go_upto_region 4 with (fail)
        refine wp_region_U 26 [11, 12, 13, 14] [0, 1, 2, 3] (fun a0 HA0 => ?_)
        have oe0 := ev HA0 0 rfl
        have oe5 := ev HA0 5 rfl
        refine QSeq.pure rfl _ (fun E => ex_move rfl (E.v oe5)) ?_
        refine QSeq.pure rfl _ (fun E => ex_move rfl (E.v oe0)) ?_
        refine QSeq.pure rfl (.int .i64 l.length) (fun E => ex_lenS rfl (E.d 1 0) Try.underlying105) ?_
        refine QSeq.pure rfl (.bool false) (fun E => ex_binE rfl (E.d 0 2) (E.d 2 0) (guard_ints _ _ _ _ _ _) (run_lss_i _ _ _ Try.underlying3) (congrArg Value.bool (decide_eq_false (by omega)))) ?_
        refine QSeq.nil (t' := [_, _, _, _]) rfl ?_
        obtain rfl := HA0.out
        clear HA0 oe0 oe5
        simp only [pz, Act.put, List.setIfInBounds_toArray, List.set_cons_zero, List.set_cons_succ]
        go_upto_region 8 with (fail)
        refine wp_region_U 26 [4] [0] (fun a0 HA0 => ?_)
        refine QSeq.pure rfl (.bool true) (fun E => ex_assign rfl rfl) ?_
        refine QSeq.nil (t' := [_]) rfl ?_
        obtain rfl := HA0.out
        clear HA0
        simp only [pz, Act.put, List.setIfInBounds_toArray, List.set_cons_zero, List.set_cons_succ]
        go_wp2
        go_ret
        exact ⟨ret_bool (take_all (by omega) (by have := HLE.out; omega) HTK.out).symm, HML.out⟩
set_option maxHeartbeats 4000000 in
theorem Eq_Pr : Eqs PrR 57 := by
  intro R R2 cs ds x y w hx hy hB hB2
  obtain ⟨vx_ba.ps, vx_ba.os, vx_ba.ts, rfl, hokx, hx_ba.ps, hx_ba.os, hx_ba.ts⟩ := hx
  obtain ⟨ax_ba.ps, kx_ba.ps, rfl⟩ := hx_ba.ps.shape
  have Hx_ba.ps := Lib.hid hx_ba.ps
  clear hx_ba.ps
  obtain ⟨ax_ba.os, kx_ba.os, rfl⟩ := hx_ba.os.shape
  have Hx_ba.os := Lib.hid hx_ba.os
  clear hx_ba.os
  obtain ⟨ax_ba.ts, kx_ba.ts, rfl⟩ := hx_ba.ts.shape
  have Hx_ba.ts := Lib.hid hx_ba.ts
  clear hx_ba.ts
  have HOKx := Lib.hid hokx
  clear hokx
  obtain ⟨vy_ba.ps, vy_ba.os, vy_ba.ts, rfl, hoky, hy_ba.ps, hy_ba.os, hy_ba.ts⟩ := hy
  obtain ⟨ay_ba.ps, ky_ba.ps, rfl⟩ := hy_ba.ps.shape
  have Hy_ba.ps := Lib.hid hy_ba.ps
  clear hy_ba.ps
  obtain ⟨ay_ba.os, ky_ba.os, rfl⟩ := hy_ba.os.shape
  have Hy_ba.os := Lib.hid hy_ba.os
  clear hy_ba.os
  obtain ⟨ay_ba.ts, ky_ba.ts, rfl⟩ := hy_ba.ts.shape
  have Hy_ba.ts := Lib.hid hy_ba.ts
  clear hy_ba.ts
  have HOKy := Lib.hid hoky
  clear hoky
  have HBR := Lib.hid hB
  have HBT := Lib.hid hB2
  clear hB hB2
  go_enter Try.func57, Try.ntmps57
  go_upto_region 1 with (fail)
  obtain ⟨w1, hw1⟩ : ∃ zz, zz = ((w.alloc (.cells (x.cells (.slice ax_ba.ps x.ba.ps.length kx_ba.ps) (.slice ax_ba.os x.ba.os.length kx_ba.os) (.slice ax_ba.ts x.ba.ts.length kx_ba.ts) : List Value).toArray 96)).alloc (.cells (y.cells (.slice ay_ba.ps y.ba.ps.length ky_ba.ps) (.slice ay_ba.os y.ba.os.length ky_ba.os) (.slice ay_ba.ts y.ba.ts.length ky_ba.ts) : List Value).toArray 96)) := ⟨_, rfl⟩
  change Code.wp _ _ _ _ ((w.alloc (.cells (x.cells (.slice ax_ba.ps x.ba.ps.length kx_ba.ps) (.slice ax_ba.os x.ba.os.length kx_ba.os) (.slice ax_ba.ts x.ba.ts.length kx_ba.ts) : List Value).toArray 96)).alloc (.cells (y.cells (.slice ay_ba.ps y.ba.ps.length ky_ba.ps) (.slice ay_ba.os y.ba.os.length ky_ba.os) (.slice ay_ba.ts y.ba.ts.length ky_ba.ts) : List Value).toArray 96))
  rw [← hw1]
  have HB2 := hid (show Cs w1 (w.heap.size) (x.cells (.slice ax_ba.ps x.ba.ps.length kx_ba.ps) (.slice ax_ba.os x.ba.os.length kx_ba.os) (.slice ax_ba.ts x.ba.ts.length kx_ba.ts) : List Value).toArray 96 by rw [hw1]; exact (Cs.new _ _ _).alloc _)
  have HB3 := hid (show Cs w1 (w.heap.size + 1) (y.cells (.slice ay_ba.ps y.ba.ps.length ky_ba.ps) (.slice ay_ba.os y.ba.os.length ky_ba.os) (.slice ay_ba.ts y.ba.ts.length ky_ba.ts) : List Value).toArray 96 by rw [hw1]; exact Cs_newN _ _ _ (by simp))
  have hm : Mod (fun _ => False) w w1 := by rw [hw1]; exact ((Mod.refl _ _).alloc _).alloc _
  have HM0 := hid (show Mod (fun _ => False) w w1 from hm.mono (fun _ _ h => h.elim))
  have hs1 : w1.heap.size = w.heap.size + 2 := by rw [hw1]; simp
  have Hx1 := hid (Hx_ba.ps.out.mod hm (fun _ _ h => h))
  clear Hx_ba.ps
  have Hx2 := hid (Hx_ba.os.out.mod hm (fun _ _ h => h))
  clear Hx_ba.os
  have Hx3 := hid (Hx_ba.ts.out.mod hm (fun _ _ h => h))
  clear Hx_ba.ts
  have Hx4 := hid (Hy_ba.ps.out.mod hm (fun _ _ h => h))
  clear Hy_ba.ps
  have Hx5 := hid (Hy_ba.os.out.mod hm (fun _ _ h => h))
  clear Hy_ba.os
  have Hx6 := hid (Hy_ba.ts.out.mod hm (fun _ _ h => h))
  clear Hy_ba.ts
  clear hw1 hm
  go_upto_region 1 with (fail)
  refine wp_region_U 45 [5, 6, 7, 8, 9, 10, 11, 12, 13, 14, 15, 16, 17, 18, 19, 20, 21, 22, 23, 24, 25, 26, 27, 28, 29, 30, 31, 32, 33, 34, 35, 36, 37, 38, 39, 40, 41, 42, 43, 44, 4] [0, 1, 2, 3, 4, 5, 6, 7, 8, 9, 10, 11, 12, 13, 14, 15, 16, 17, 18, 19, 20, 21, 22, 23, 24, 25, 26, 27, 28, 29, 30, 31, 32, 33, 34, 35, 36, 37, 38, 39, 40] (fun a0 HA0 => ?_)
  have oe2 := ev HA0 2 rfl
  have oe3 := ev HA0 3 rfl
  refine QSeq.pure rfl (.pointer (some ⟨w.heap.size, 0, none⟩)) (fun E => ex_field rfl Try.underlying96 rfl (by kernel_rfl) (E.v oe2)) ?_
  refine QSeq.pure rfl _ (fun E => ex_load1 rfl Try.underlying3 rfl (E.d 0 0) (Cs.lit1 HB2.out rfl)) ?_
  refine QSeq.pure rfl (.pointer (some ⟨w.heap.size + 1, 0, none⟩)) (fun E => ex_field rfl Try.underlying96 rfl (by kernel_rfl) (E.v oe3)) ?_
  refine QSeq.pure rfl _ (fun E => ex_load1 rfl Try.underlying3 rfl (E.d 2 0) (Cs.lit1 HB3.out rfl)) ?_
  refine QSeq.pure rfl (.bool (x.ep == y.ep)) (fun E => ex_bin rfl (E.d 1 2) (E.d 3 0) (guard_ints _ _ _ _ _ _) (run_eql_i _ _ _ Try.underlying3)) ?_
  refine QSeq.pure rfl _ (fun E => ex_move rfl (E.d 4 0)) ?_
  refine QSeq.may (b := (x.ep == y.ep)) rfl (.pointer (some ⟨w.heap.size, 1, none⟩)) (fun E => ((wanted_of rfl rfl (E.sz 10 (by decide)) (E.d 5 0)).trans (beq_t _))) (fun E hb => ex_field rfl Try.underlying96 rfl (by kernel_rfl) (E.v oe2)) ?_
  intro v1_6 hw
  have hv1_6 := hid hw
  clear hw
  refine QSeq.may (b := (x.ep == y.ep)) rfl (.int .i64 x.rn) (fun E => ((wanted_of rfl rfl (E.sz 10 (by decide)) (E.d 5 1)).trans (beq_t _))) (fun E hb => ex_load1 rfl Try.underlying3 rfl ((E.q 6 0 hv1_6.out).1 hb) (Cs.lit1 HB2.out rfl)) ?_
  intro v1_7 hw
  have hv1_7 := hid hw
  clear hw
  refine QSeq.may (b := (x.ep == y.ep)) rfl (.pointer (some ⟨w.heap.size + 1, 1, none⟩)) (fun E => ((wanted_of rfl rfl (E.sz 10 (by decide)) (E.d 5 2)).trans (beq_t _))) (fun E hb => ex_field rfl Try.underlying96 rfl (by kernel_rfl) (E.v oe3)) ?_
  intro v1_8 hw
  have hv1_8 := hid hw
  clear hw
  refine QSeq.may (b := (x.ep == y.ep)) rfl (.int .i64 y.rn) (fun E => ((wanted_of rfl rfl (E.sz 10 (by decide)) (E.d 5 3)).trans (beq_t _))) (fun E hb => ex_load1 rfl Try.underlying3 rfl ((E.q 8 0 hv1_8.out).1 hb) (Cs.lit1 HB3.out rfl)) ?_
  intro v1_9 hw
  have hv1_9 := hid hw
  clear hw
  refine QSeq.may (b := (x.ep == y.ep)) rfl (.bool (x.rn == y.rn)) (fun E => ((wanted_of rfl rfl (E.sz 10 (by decide)) (E.d 5 4)).trans (beq_t _))) (fun E hb => ex_bin rfl ((E.q 7 2 hv1_7.out).1 hb) ((E.q 9 0 hv1_9.out).1 hb) (guard_ints _ _ _ _ _ _) (run_eql_i _ _ _ Try.underlying3)) ?_
  intro v1_10 hw
  have hv1_10 := hid hw
  clear hw
  refine QSeq.pure rfl (.bool ((x.ep == y.ep) && (x.rn == y.rn))) (fun E => ex_pickE rfl (E.d 5 5) rfl rfl (and_val fun hb => (E.q 10 0 hv1_10.out).1 hb)) ?_
  refine QSeq.pure rfl _ (fun E => ex_move rfl (E.d 11 0)) ?_
  refine QSeq.may (b := ((x.ep == y.ep) && (x.rn == y.rn))) rfl (.pointer (some ⟨w.heap.size, 2, none⟩)) (fun E => ((wanted_of rfl rfl (E.sz 17 (by decide)) (E.d 12 0)).trans (beq_t _))) (fun E hb => ex_field rfl Try.underlying96 rfl (by kernel_rfl) (E.v oe2)) ?_
  intro v1_13 hw
  have hv1_13 := hid hw
  clear hw
  refine QSeq.may (b := ((x.ep == y.ep) && (x.rn == y.rn))) rfl (.int .i64 x.vl) (fun E => ((wanted_of rfl rfl (E.sz 17 (by decide)) (E.d 12 1)).trans (beq_t _))) (fun E hb => ex_load1 rfl Try.underlying3 rfl ((E.q 13 0 hv1_13.out).1 hb) (Cs.lit1 HB2.out rfl)) ?_
  intro v1_14 hw
  have hv1_14 := hid hw
  clear hw
  refine QSeq.may (b := ((x.ep == y.ep) && (x.rn == y.rn))) rfl (.pointer (some ⟨w.heap.size + 1, 2, none⟩)) (fun E => ((wanted_of rfl rfl (E.sz 17 (by decide)) (E.d 12 2)).trans (beq_t _))) (fun E hb => ex_field rfl Try.underlying96 rfl (by kernel_rfl) (E.v oe3)) ?_
  intro v1_15 hw
  have hv1_15 := hid hw
  clear hw
  refine QSeq.may (b := ((x.ep == y.ep) && (x.rn == y.rn))) rfl (.int .i64 y.vl) (fun E => ((wanted_of rfl rfl (E.sz 17 (by decide)) (E.d 12 3)).trans (beq_t _))) (fun E hb => ex_load1 rfl Try.underlying3 rfl ((E.q 15 0 hv1_15.out).1 hb) (Cs.lit1 HB3.out rfl)) ?_
  intro v1_16 hw
  have hv1_16 := hid hw
  clear hw
  refine QSeq.may (b := ((x.ep == y.ep) && (x.rn == y.rn))) rfl (.bool (x.vl == y.vl)) (fun E => ((wanted_of rfl rfl (E.sz 17 (by decide)) (E.d 12 4)).trans (beq_t _))) (fun E hb => ex_bin rfl ((E.q 14 2 hv1_14.out).1 hb) ((E.q 16 0 hv1_16.out).1 hb) (guard_ints _ _ _ _ _ _) (run_eql_i _ _ _ Try.underlying3)) ?_
  intro v1_17 hw
  have hv1_17 := hid hw
  clear hw
  refine QSeq.pure rfl (.bool (((x.ep == y.ep) && (x.rn == y.rn)) && (x.vl == y.vl))) (fun E => ex_pickE rfl (E.d 12 5) rfl rfl (and_val fun hb => (E.q 17 0 hv1_17.out).1 hb)) ?_
  refine QSeq.pure rfl _ (fun E => ex_move rfl (E.d 18 0)) ?_
  refine QSeq.may (b := (((x.ep == y.ep) && (x.rn == y.rn)) && (x.vl == y.vl))) rfl (.pointer (some ⟨w.heap.size, 3, none⟩)) (fun E => ((wanted_of rfl rfl (E.sz 24 (by decide)) (E.d 19 0)).trans (beq_t _))) (fun E hb => ex_field rfl Try.underlying96 rfl (by kernel_rfl) (E.v oe2)) ?_
  intro v1_20 hw
  have hv1_20 := hid hw
  clear hw
  refine QSeq.may (b := (((x.ep == y.ep) && (x.rn == y.rn)) && (x.vl == y.vl))) rfl (.int .i64 x.rp) (fun E => ((wanted_of rfl rfl (E.sz 24 (by decide)) (E.d 19 1)).trans (beq_t _))) (fun E hb => ex_load1 rfl Try.underlying3 rfl ((E.q 20 0 hv1_20.out).1 hb) (Cs.lit1 HB2.out rfl)) ?_
  intro v1_21 hw
  have hv1_21 := hid hw
  clear hw
  refine QSeq.may (b := (((x.ep == y.ep) && (x.rn == y.rn)) && (x.vl == y.vl))) rfl (.pointer (some ⟨w.heap.size + 1, 3, none⟩)) (fun E => ((wanted_of rfl rfl (E.sz 24 (by decide)) (E.d 19 2)).trans (beq_t _))) (fun E hb => ex_field rfl Try.underlying96 rfl (by kernel_rfl) (E.v oe3)) ?_
  intro v1_22 hw
  have hv1_22 := hid hw
  clear hw
  refine QSeq.may (b := (((x.ep == y.ep) && (x.rn == y.rn)) && (x.vl == y.vl))) rfl (.int .i64 y.rp) (fun E => ((wanted_of rfl rfl (E.sz 24 (by decide)) (E.d 19 3)).trans (beq_t _))) (fun E hb => ex_load1 rfl Try.underlying3 rfl ((E.q 22 0 hv1_22.out).1 hb) (Cs.lit1 HB3.out rfl)) ?_
  intro v1_23 hw
  have hv1_23 := hid hw
  clear hw
  refine QSeq.may (b := (((x.ep == y.ep) && (x.rn == y.rn)) && (x.vl == y.vl))) rfl (.bool (x.rp == y.rp)) (fun E => ((wanted_of rfl rfl (E.sz 24 (by decide)) (E.d 19 4)).trans (beq_t _))) (fun E hb => ex_bin rfl ((E.q 21 2 hv1_21.out).1 hb) ((E.q 23 0 hv1_23.out).1 hb) (guard_ints _ _ _ _ _ _) (run_eql_i _ _ _ Try.underlying3)) ?_
  intro v1_24 hw
  have hv1_24 := hid hw
  clear hw
  refine QSeq.pure rfl (.bool ((((x.ep == y.ep) && (x.rn == y.rn)) && (x.vl == y.vl)) && (x.rp == y.rp))) (fun E => ex_pickE rfl (E.d 19 5) rfl rfl (and_val fun hb => (E.q 24 0 hv1_24.out).1 hb)) ?_
  refine QSeq.pure rfl _ (fun E => ex_move rfl (E.d 25 0)) ?_
  refine QSeq.may (b := ((((x.ep == y.ep) && (x.rn == y.rn)) && (x.vl == y.vl)) && (x.rp == y.rp))) rfl (.pointer (some ⟨w.heap.size, 9, none⟩)) (fun E => ((wanted_of rfl rfl (E.sz 31 (by decide)) (E.d 26 0)).trans (beq_t _))) (fun E hb => ex_field rfl Try.underlying96 rfl (by kernel_rfl) (E.v oe2)) ?_
  intro v1_27 hw
  have hv1_27 := hid hw
  clear hw
  refine QSeq.may (b := ((((x.ep == y.ep) && (x.rn == y.rn)) && (x.vl == y.vl)) && (x.rp == y.rp))) rfl (.agg #[.int .i64 x.sb, .int .i64 x.mr]) (fun E => ((wanted_of rfl rfl (E.sz 31 (by decide)) (E.d 26 1)).trans (beq_t _))) (fun E hb => ex_loadA rfl Try.underlying34 rfl (off := 9) (cs := [.int .i64 x.sb, .int .i64 x.mr]) (by kernel_rfl) ((E.q 27 0 hv1_27.out).1 hb) (Cs.litA HB2.out rfl)) ?_
  intro v1_28 hw
  have hv1_28 := hid hw
  clear hw
  refine QSeq.may (b := ((((x.ep == y.ep) && (x.rn == y.rn)) && (x.vl == y.vl)) && (x.rp == y.rp))) rfl (.pointer (some ⟨w.heap.size + 1, 9, none⟩)) (fun E => ((wanted_of rfl rfl (E.sz 31 (by decide)) (E.d 26 2)).trans (beq_t _))) (fun E hb => ex_field rfl Try.underlying96 rfl (by kernel_rfl) (E.v oe3)) ?_
  intro v1_29 hw
  have hv1_29 := hid hw
  clear hw
  refine QSeq.may (b := ((((x.ep == y.ep) && (x.rn == y.rn)) && (x.vl == y.vl)) && (x.rp == y.rp))) rfl (.agg #[.int .i64 y.sb, .int .i64 y.mr]) (fun E => ((wanted_of rfl rfl (E.sz 31 (by decide)) (E.d 26 3)).trans (beq_t _))) (fun E hb => ex_loadA rfl Try.underlying34 rfl (off := 9) (cs := [.int .i64 y.sb, .int .i64 y.mr]) (by kernel_rfl) ((E.q 29 0 hv1_29.out).1 hb) (Cs.litA HB3.out rfl)) ?_
  intro v1_30 hw
  have hv1_30 := hid hw
  clear hw
  refine QSeq.may (b := ((((x.ep == y.ep) && (x.rn == y.rn)) && (x.vl == y.vl)) && (x.rp == y.rp))) rfl (.bool (eqb (x.sb, x.mr) (y.sb, y.mr))) (fun E => ((wanted_of rfl rfl (E.sz 31 (by decide)) (E.d 26 4)).trans (beq_t _))) (fun E hb => ex_binE rfl ((E.q 28 2 hv1_28.out).1 hb) ((E.q 30 0 hv1_30.out).1 hb) (agg_guardE _ _ _ _ _ _ (by kernel_rfl) _) (EqW.run eqW_sig (ki_2 x.sb x.mr) (ki_2 y.sb y.mr) (two_iff x.sb x.mr y.sb y.mr) _) rfl) ?_
  intro v1_31 hw
  have hv1_31 := hid hw
  clear hw
  refine QSeq.pure rfl (.bool (((((x.ep == y.ep) && (x.rn == y.rn)) && (x.vl == y.vl)) && (x.rp == y.rp)) && (eqb (x.sb, x.mr) (y.sb, y.mr)))) (fun E => ex_pickE rfl (E.d 26 5) rfl rfl (and_val fun hb => (E.q 31 0 hv1_31.out).1 hb)) ?_
  refine QSeq.pure rfl _ (fun E => ex_move rfl (E.d 32 0)) ?_
  refine QSeq.may (b := (((((x.ep == y.ep) && (x.rn == y.rn)) && (x.vl == y.vl)) && (x.rp == y.rp)) && (eqb (x.sb, x.mr) (y.sb, y.mr)))) rfl (.pointer (some ⟨w.heap.size, 4, none⟩)) (fun E => ((wanted_of rfl rfl (E.sz 38 (by decide)) (E.d 33 0)).trans (beq_t _))) (fun E hb => ex_field rfl Try.underlying96 rfl (by kernel_rfl) (E.v oe2)) ?_
  intro v1_34 hw
  have hv1_34 := hid hw
  clear hw
  refine QSeq.may (b := (((((x.ep == y.ep) && (x.rn == y.rn)) && (x.vl == y.vl)) && (x.rp == y.rp)) && (eqb (x.sb, x.mr) (y.sb, y.mr)))) rfl (.agg #[.int .i64 x.ba.ep, .int .u64 (x.ba.tm : Nat), .slice ax_ba.ps x.ba.ps.length kx_ba.ps, .slice ax_ba.os x.ba.os.length kx_ba.os, .slice ax_ba.ts x.ba.ts.length kx_ba.ts]) (fun E => ((wanted_of rfl rfl (E.sz 38 (by decide)) (E.d 33 1)).trans (beq_t _))) (fun E hb => ex_loadA rfl Try.underlying94 rfl (off := 4) (cs := [.int .i64 x.ba.ep, .int .u64 (x.ba.tm : Nat), .slice ax_ba.ps x.ba.ps.length kx_ba.ps, .slice ax_ba.os x.ba.os.length kx_ba.os, .slice ax_ba.ts x.ba.ts.length kx_ba.ts]) (by kernel_rfl) ((E.q 34 0 hv1_34.out).1 hb) (Cs.litA HB2.out rfl)) ?_
  intro v1_35 hw
  have hv1_35 := hid hw
  clear hw
  refine QSeq.may (b := (((((x.ep == y.ep) && (x.rn == y.rn)) && (x.vl == y.vl)) && (x.rp == y.rp)) && (eqb (x.sb, x.mr) (y.sb, y.mr)))) rfl (.pointer (some ⟨w.heap.size + 1, 4, none⟩)) (fun E => ((wanted_of rfl rfl (E.sz 38 (by decide)) (E.d 33 2)).trans (beq_t _))) (fun E hb => ex_field rfl Try.underlying96 rfl (by kernel_rfl) (E.v oe3)) ?_
  intro v1_36 hw
  have hv1_36 := hid hw
  clear hw
  refine QSeq.may (b := (((((x.ep == y.ep) && (x.rn == y.rn)) && (x.vl == y.vl)) && (x.rp == y.rp)) && (eqb (x.sb, x.mr) (y.sb, y.mr)))) rfl (.agg #[.int .i64 y.ba.ep, .int .u64 (y.ba.tm : Nat), .slice ay_ba.ps y.ba.ps.length ky_ba.ps, .slice ay_ba.os y.ba.os.length ky_ba.os, .slice ay_ba.ts y.ba.ts.length ky_ba.ts]) (fun E => ((wanted_of rfl rfl (E.sz 38 (by decide)) (E.d 33 3)).trans (beq_t _))) (fun E hb => ex_loadA rfl Try.underlying94 rfl (off := 4) (cs := [.int .i64 y.ba.ep, .int .u64 (y.ba.tm : Nat), .slice ay_ba.ps y.ba.ps.length ky_ba.ps, .slice ay_ba.os y.ba.os.length ky_ba.os, .slice ay_ba.ts y.ba.ts.length ky_ba.ts]) (by kernel_rfl) ((E.q 36 0 hv1_36.out).1 hb) (Cs.litA HB3.out rfl)) ?_
  intro v1_37 hw
  have hv1_37 := hid hw
  clear hw
  refine QSeq.mayCall (b := (((((x.ep == y.ep) && (x.rn == y.rn)) && (x.vl == y.vl)) && (x.rp == y.rp)) && (eqb (x.sb, x.mr) (y.sb, y.mr)))) rfl (.bool (eqb x.ba y.ba)) (args := #[.agg #[.int .i64 x.ba.ep, .int .u64 (x.ba.tm : Nat), Value.slice ax_ba.ps x.ba.ps.length kx_ba.ps, Value.slice ax_ba.os x.ba.os.length kx_ba.os, Value.slice ax_ba.ts x.ba.ts.length kx_ba.ts], .agg #[.int .i64 y.ba.ep, .int .u64 (y.ba.tm : Nat), Value.slice ay_ba.ps y.ba.ps.length ky_ba.ps, Value.slice ay_ba.os y.ba.os.length ky_ba.os, Value.slice ay_ba.ts y.ba.ts.length ky_ba.ts]]) (fun E => ((wanted_of rfl rfl (E.sz 38 (by decide)) (E.d 33 4)).trans (beq_t _))) rfl Try.func59 (fun E hb => args2 ((E.q 35 2 hv1_35.out).1 hb) ((E.q 37 0 hv1_37.out).1 hb)) (fun hb => Eq_Ba R R2 _ _ x.ba y.ba _ ⟨_, _, _, rfl, HOKx.out.2.2.2.2.1, Hx1.out, Hx2.out, Hx3.out⟩ ⟨_, _, _, rfl, HOKy.out.2.2.2.2.1, Hx4.out, Hx5.out, Hx6.out⟩ (by intro k h1; have hb := HBR.out k h1; (try have := hm.size); omega) (by intro k h1; have hb := HBT.out k h1; (try have := hm.size); omega)) ?_
  intro v1_38 u1_38 hw hm
  have hv1_38 := hid hw
  clear hw
  have zu1_38 := hm.size
  have Cx7 := hid (show Mod (fun _ => False) w1 u1_38 from hm)
  clear hm
  refine QSeq.pure rfl (.bool ((((((x.ep == y.ep) && (x.rn == y.rn)) && (x.vl == y.vl)) && (x.rp == y.rp)) && (eqb (x.sb, x.mr) (y.sb, y.mr))) && (eqb x.ba y.ba))) (fun E => ex_pickE rfl (E.d 33 5) rfl rfl (and_val fun hb => (E.q 38 0 hv1_38.out).1 hb)) ?_
  refine QSeq.pure rfl _ (fun E => ex_assign rfl (E.d 39 0)) ?_
  clear hv1_6 hv1_7 hv1_8 hv1_9 hv1_10 hv1_13 hv1_14 hv1_15 hv1_16 hv1_17 hv1_20 hv1_21 hv1_22 hv1_23 hv1_24 hv1_27 hv1_28 hv1_29 hv1_30 hv1_31 hv1_34 hv1_35 hv1_36 hv1_37 hv1_38
  refine QSeq.nil (t' := [_, _, _, _, _, _, _, _, _, _, _, _, _, _, _, _, _, _, _, _, _, _, _, _, _, _, _, _, _, _, _, _, _, _, _, _, _, _, _, _, _]) rfl ?_
  obtain rfl := HA0.out
  clear HA0 oe2 oe3
  simp only [pz, Act.put, List.setIfInBounds_toArray, List.set_cons_zero, List.set_cons_succ]
  go_wp2
  go_ret
  exact ⟨ret_bool (pr_eqb x y), (HM0.out.trans Cx7.out (fun _ _ h => h.elim))⟩
set_option maxHeartbeats 8000000 in
theorem Eq_Mg : Eqs MgR 30 := by
  intro R R2 cs ds x y w hx hy hB hB2
  obtain ⟨xc5, xc10, xc11, xc15, xc18, rfl, hokx, h5, h10, h11, h15, h18⟩ := hx
  have HLNx := hid (Mg.lns hokx h5 h10 h11 h15 h18)
  obtain ⟨xdp, xdo, xdt, xdl, rfl, hokdx, hd0, hd1, hd2, hd3⟩ := h18
  have HCx5 := hid (CeR.len h5)
  have Hx5 := Lib.hid h5
  have HCx10 := hid (PmR.len h10)
  have Hx10 := Lib.hid h10
  have HCx11 := hid (PrR.len h11)
  have Hx11 := Lib.hid h11
  have HCx15 := hid (OpR.len h15)
  have Hx15 := Lib.hid h15
  obtain ⟨axdp, kxdp, rfl⟩ := hd0.shape
  have HDx0 := Lib.hid hd0
  obtain ⟨axdo, kxdo, rfl⟩ := hd1.shape
  have HDx1 := Lib.hid hd1
  obtain ⟨axdt, kxdt, rfl⟩ := hd2.shape
  have HDx2 := Lib.hid hd2
  obtain ⟨axdl, kxdl, rfl⟩ := hd3.shape
  have HDx3 := Lib.hid hd3
  have HOKx := Lib.hid hokx
  have HODx := Lib.hid hokdx
  clear hokx hokdx h5 h10 h11 h15 hd0 hd1 hd2 hd3
  obtain ⟨yc5, yc10, yc11, yc15, yc18, rfl, hoky, h5, h10, h11, h15, h18⟩ := hy
  have HLNy := hid (Mg.lns hoky h5 h10 h11 h15 h18)
  obtain ⟨ydp, ydo, ydt, ydl, rfl, hokdy, hd0, hd1, hd2, hd3⟩ := h18
  have HCy5 := hid (CeR.len h5)
  have Hy5 := Lib.hid h5
  have HCy10 := hid (PmR.len h10)
  have Hy10 := Lib.hid h10
  have HCy11 := hid (PrR.len h11)
  have Hy11 := Lib.hid h11
  have HCy15 := hid (OpR.len h15)
  have Hy15 := Lib.hid h15
  obtain ⟨aydp, kydp, rfl⟩ := hd0.shape
  have HDy0 := Lib.hid hd0
  obtain ⟨aydo, kydo, rfl⟩ := hd1.shape
  have HDy1 := Lib.hid hd1
  obtain ⟨aydt, kydt, rfl⟩ := hd2.shape
  have HDy2 := Lib.hid hd2
  obtain ⟨aydl, kydl, rfl⟩ := hd3.shape
  have HDy3 := Lib.hid hd3
  have HOKy := Lib.hid hoky
  have HODy := Lib.hid hokdy
  clear hoky hokdy h5 h10 h11 h15 hd0 hd1 hd2 hd3
  have HBR := Lib.hid hB
  have HBT := Lib.hid hB2
  clear hB hB2
  go_enter Try.func30, Try.ntmps30
  go_upto_region 1 with (fail)
  obtain ⟨w1, hw1⟩ : ∃ zz, zz = ((w.alloc (.cells ((x.segs xc5 xc10 xc11 xc15 (x.dc.cells (.slice axdp x.dc.ba.ps.length kxdp) (.slice axdo x.dc.ba.os.length kxdo) (.slice axdt x.dc.ba.ts.length kxdt) (.slice axdl x.dc.l.length kxdl))).flatten : List Value).toArray 109)).alloc (.cells ((y.segs yc5 yc10 yc11 yc15 (y.dc.cells (.slice aydp y.dc.ba.ps.length kydp) (.slice aydo y.dc.ba.os.length kydo) (.slice aydt y.dc.ba.ts.length kydt) (.slice aydl y.dc.l.length kydl))).flatten : List Value).toArray 109)) := ⟨_, rfl⟩
  change Code.wp _ _ _ _ ((w.alloc (.cells ((x.segs xc5 xc10 xc11 xc15 (x.dc.cells (.slice axdp x.dc.ba.ps.length kxdp) (.slice axdo x.dc.ba.os.length kxdo) (.slice axdt x.dc.ba.ts.length kxdt) (.slice axdl x.dc.l.length kxdl))).flatten : List Value).toArray 109)).alloc (.cells ((y.segs yc5 yc10 yc11 yc15 (y.dc.cells (.slice aydp y.dc.ba.ps.length kydp) (.slice aydo y.dc.ba.os.length kydo) (.slice aydt y.dc.ba.ts.length kydt) (.slice aydl y.dc.l.length kydl))).flatten : List Value).toArray 109))
  rw [← hw1]
  have HB2 := hid (show Cs w1 (w.heap.size) ((x.segs xc5 xc10 xc11 xc15 (x.dc.cells (.slice axdp x.dc.ba.ps.length kxdp) (.slice axdo x.dc.ba.os.length kxdo) (.slice axdt x.dc.ba.ts.length kxdt) (.slice axdl x.dc.l.length kxdl))).flatten : List Value).toArray 109 by rw [hw1]; exact (Cs.new _ _ _).alloc _)
  have HB3 := hid (show Cs w1 (w.heap.size + 1) ((y.segs yc5 yc10 yc11 yc15 (y.dc.cells (.slice aydp y.dc.ba.ps.length kydp) (.slice aydo y.dc.ba.os.length kydo) (.slice aydt y.dc.ba.ts.length kydt) (.slice aydl y.dc.l.length kydl))).flatten : List Value).toArray 109 by rw [hw1]; exact Cs_newN _ _ _ (by simp))
  have hm : Mod (fun _ => False) w w1 := by rw [hw1]; exact ((Mod.refl _ _).alloc _).alloc _
  have HM0 := hid (show Mod (fun _ => False) w w1 from hm.mono (fun _ _ h => h.elim))
  have hs1 : w1.heap.size = w.heap.size + 2 := by rw [hw1]; simp
  have Hx1 := hid (Hx5.out.mod hm (fun _ _ h => h))
  clear Hx5
  have Hx2 := hid (Hx10.out.mod hm (fun _ _ h => h))
  clear Hx10
  have Hx3 := hid (Hx11.out.mod hm (fun _ _ h => h))
  clear Hx11
  have Hx4 := hid (Hx15.out.mod hm (fun _ _ h => h))
  clear Hx15
  have Hx5 := hid (HDx0.out.mod hm (fun _ _ h => h))
  clear HDx0
  have Hx6 := hid (HDx1.out.mod hm (fun _ _ h => h))
  clear HDx1
  have Hx7 := hid (HDx2.out.mod hm (fun _ _ h => h))
  clear HDx2
  have Hx8 := hid (HDx3.out.mod hm (fun _ _ h => h))
  clear HDx3
  have Hx9 := hid (Hy5.out.mod hm (fun _ _ h => h))
  clear Hy5
  have Hx10 := hid (Hy10.out.mod hm (fun _ _ h => h))
  clear Hy10
  have Hx11 := hid (Hy11.out.mod hm (fun _ _ h => h))
  clear Hy11
  have Hx12 := hid (Hy15.out.mod hm (fun _ _ h => h))
  clear Hy15
  have Hx13 := hid (HDy0.out.mod hm (fun _ _ h => h))
  clear HDy0
  have Hx14 := hid (HDy1.out.mod hm (fun _ _ h => h))
  clear HDy1
  have Hx15 := hid (HDy2.out.mod hm (fun _ _ h => h))
  clear HDy2
  have Hx16 := hid (HDy3.out.mod hm (fun _ _ h => h))
  clear HDy3
  clear hw1 hm
  go_upto_region 1 with (fail)
  refine wp_region_U 165 [5, 6, 7, 8, 9, 10, 11, 12, 13, 14, 15, 16, 17, 18, 19, 20, 21, 22, 23, 24, 25, 26, 27, 28, 29, 30, 31, 32, 33, 34, 35, 36, 37, 38, 39, 40, 41, 42, 43, 44, 45, 46, 47, 48, 49, 50, 51, 52, 53, 54, 55, 56, 57, 58, 59, 60, 61, 62, 63, 64, 65, 66, 67, 68, 69, 70, 71, 72, 73, 74, 75, 76, 77, 78, 79, 80, 81, 82, 83, 84, 85, 86, 87, 88, 89, 90, 91, 92, 93, 94, 95, 96, 97, 98, 99, 100, 101, 102, 103, 104, 105, 106, 107, 108, 109, 110, 111, 112, 113, 114, 115, 116, 117, 118, 119, 120, 121, 122, 123, 124, 125, 126, 127, 128, 129, 130, 131, 132, 133, 134, 135, 136, 137, 138, 139, 140, 141, 142, 143, 144, 145, 146, 147, 148, 149, 150, 151, 152, 153, 154, 155, 156, 157, 158, 159, 160, 161, 162, 163, 164, 4] [0, 1, 2, 3, 4, 5, 6, 7, 8, 9, 10, 11, 12, 13, 14, 15, 16, 17, 18, 19, 20, 21, 22, 23, 24, 25, 26, 27, 28, 29, 30, 31, 32, 33, 34, 35, 36, 37, 38, 39, 40, 41, 42, 43, 44, 45, 46, 47, 48, 49, 50, 51, 52, 53, 54, 55, 56, 57, 58, 59, 60, 61, 62, 63, 64, 65, 66, 67, 68, 69, 70, 71, 72, 73, 74, 75, 76, 77, 78, 79, 80, 81, 82, 83, 84, 85, 86, 87, 88, 89, 90, 91, 92, 93, 94, 95, 96, 97, 98, 99, 100, 101, 102, 103, 104, 105, 106, 107, 108, 109, 110, 111, 112, 113, 114, 115, 116, 117, 118, 119, 120, 121, 122, 123, 124, 125, 126, 127, 128, 129, 130, 131, 132, 133, 134, 135, 136, 137, 138, 139, 140, 141, 142, 143, 144, 145, 146, 147, 148, 149, 150, 151, 152, 153, 154, 155, 156, 157, 158, 159, 160] (fun a0 HA0 => ?_)
  have oe2 := ev HA0 2 rfl
  have oe3 := ev HA0 3 rfl
  refine QSeq.pure rfl (.pointer (some ⟨w.heap.size, 0, none⟩)) (fun E => ex_field rfl Try.underlying109 rfl (by kernel_rfl) (E.v oe2)) ?_
  refine QSeq.pure rfl (.int .i64 x.kd) (fun E => ex_load1 rfl Try.underlying3 rfl (E.d 0 0) (Cs.seg1 HB2.out HLNx.out 0 rfl (o := 0) (k := 0) rfl rfl rfl)) ?_
  refine QSeq.pure rfl (.pointer (some ⟨w.heap.size + 1, 0, none⟩)) (fun E => ex_field rfl Try.underlying109 rfl (by kernel_rfl) (E.v oe3)) ?_
  refine QSeq.pure rfl (.int .i64 y.kd) (fun E => ex_load1 rfl Try.underlying3 rfl (E.d 2 0) (Cs.seg1 HB3.out HLNy.out 0 rfl (o := 0) (k := 0) rfl rfl rfl)) ?_
  refine QSeq.pure rfl (.bool (x.kd == y.kd)) (fun E => ex_bin rfl (E.d 1 2) (E.d 3 0) (guard_ints _ _ _ _ _ _) (run_eql_i _ _ _ Try.underlying3)) ?_
  refine QSeq.pure rfl _ (fun E => ex_move rfl (E.d 4 0)) ?_
  refine QSeq.may (b := (x.kd == y.kd)) rfl (.pointer (some ⟨w.heap.size, 1, none⟩)) (fun E => ((wanted_of rfl rfl (E.sz 10 (by decide)) (E.d 5 0)).trans (beq_t _))) (fun E hb => ex_field rfl Try.underlying109 rfl (by kernel_rfl) (E.v oe2)) ?_
  intro v1_6 hw
  have hv1_6 := hid hw
  clear hw
  refine QSeq.may (b := (x.kd == y.kd)) rfl (.int .i64 x.fr) (fun E => ((wanted_of rfl rfl (E.sz 10 (by decide)) (E.d 5 1)).trans (beq_t _))) (fun E hb => ex_load1 rfl Try.underlying3 rfl ((E.q 6 0 hv1_6.out).1 hb) (Cs.seg1 HB2.out HLNx.out 1 rfl (o := 1) (k := 0) rfl rfl rfl)) ?_
  intro v1_7 hw
  have hv1_7 := hid hw
  clear hw
  refine QSeq.may (b := (x.kd == y.kd)) rfl (.pointer (some ⟨w.heap.size + 1, 1, none⟩)) (fun E => ((wanted_of rfl rfl (E.sz 10 (by decide)) (E.d 5 2)).trans (beq_t _))) (fun E hb => ex_field rfl Try.underlying109 rfl (by kernel_rfl) (E.v oe3)) ?_
  intro v1_8 hw
  have hv1_8 := hid hw
  clear hw
  refine QSeq.may (b := (x.kd == y.kd)) rfl (.int .i64 y.fr) (fun E => ((wanted_of rfl rfl (E.sz 10 (by decide)) (E.d 5 3)).trans (beq_t _))) (fun E hb => ex_load1 rfl Try.underlying3 rfl ((E.q 8 0 hv1_8.out).1 hb) (Cs.seg1 HB3.out HLNy.out 1 rfl (o := 1) (k := 0) rfl rfl rfl)) ?_
  intro v1_9 hw
  have hv1_9 := hid hw
  clear hw
  refine QSeq.may (b := (x.kd == y.kd)) rfl (.bool (x.fr == y.fr)) (fun E => ((wanted_of rfl rfl (E.sz 10 (by decide)) (E.d 5 4)).trans (beq_t _))) (fun E hb => ex_bin rfl ((E.q 7 2 hv1_7.out).1 hb) ((E.q 9 0 hv1_9.out).1 hb) (guard_ints _ _ _ _ _ _) (run_eql_i _ _ _ Try.underlying3)) ?_
  intro v1_10 hw
  have hv1_10 := hid hw
  clear hw
  refine QSeq.pure rfl (.bool ((x.kd == y.kd) && (x.fr == y.fr))) (fun E => ex_pickE rfl (E.d 5 5) rfl rfl (and_val fun hb => (E.q 10 0 hv1_10.out).1 hb)) ?_
  refine QSeq.pure rfl _ (fun E => ex_move rfl (E.d 11 0)) ?_
  refine QSeq.may (b := ((x.kd == y.kd) && (x.fr == y.fr))) rfl (.pointer (some ⟨w.heap.size, 2, none⟩)) (fun E => ((wanted_of rfl rfl (E.sz 17 (by decide)) (E.d 12 0)).trans (beq_t _))) (fun E hb => ex_field rfl Try.underlying109 rfl (by kernel_rfl) (E.v oe2)) ?_
  intro v1_13 hw
  have hv1_13 := hid hw
  clear hw
  refine QSeq.may (b := ((x.kd == y.kd) && (x.fr == y.fr))) rfl (.int .i64 x.to) (fun E => ((wanted_of rfl rfl (E.sz 17 (by decide)) (E.d 12 1)).trans (beq_t _))) (fun E hb => ex_load1 rfl Try.underlying3 rfl ((E.q 13 0 hv1_13.out).1 hb) (Cs.seg1 HB2.out HLNx.out 2 rfl (o := 2) (k := 0) rfl rfl rfl)) ?_
  intro v1_14 hw
  have hv1_14 := hid hw
  clear hw
  refine QSeq.may (b := ((x.kd == y.kd) && (x.fr == y.fr))) rfl (.pointer (some ⟨w.heap.size + 1, 2, none⟩)) (fun E => ((wanted_of rfl rfl (E.sz 17 (by decide)) (E.d 12 2)).trans (beq_t _))) (fun E hb => ex_field rfl Try.underlying109 rfl (by kernel_rfl) (E.v oe3)) ?_
  intro v1_15 hw
  have hv1_15 := hid hw
  clear hw
  refine QSeq.may (b := ((x.kd == y.kd) && (x.fr == y.fr))) rfl (.int .i64 y.to) (fun E => ((wanted_of rfl rfl (E.sz 17 (by decide)) (E.d 12 3)).trans (beq_t _))) (fun E hb => ex_load1 rfl Try.underlying3 rfl ((E.q 15 0 hv1_15.out).1 hb) (Cs.seg1 HB3.out HLNy.out 2 rfl (o := 2) (k := 0) rfl rfl rfl)) ?_
  intro v1_16 hw
  have hv1_16 := hid hw
  clear hw
  refine QSeq.may (b := ((x.kd == y.kd) && (x.fr == y.fr))) rfl (.bool (x.to == y.to)) (fun E => ((wanted_of rfl rfl (E.sz 17 (by decide)) (E.d 12 4)).trans (beq_t _))) (fun E hb => ex_bin rfl ((E.q 14 2 hv1_14.out).1 hb) ((E.q 16 0 hv1_16.out).1 hb) (guard_ints _ _ _ _ _ _) (run_eql_i _ _ _ Try.underlying3)) ?_
  intro v1_17 hw
  have hv1_17 := hid hw
  clear hw
  refine QSeq.pure rfl (.bool (((x.kd == y.kd) && (x.fr == y.fr)) && (x.to == y.to))) (fun E => ex_pickE rfl (E.d 12 5) rfl rfl (and_val fun hb => (E.q 17 0 hv1_17.out).1 hb)) ?_
  refine QSeq.pure rfl _ (fun E => ex_move rfl (E.d 18 0)) ?_
  refine QSeq.may (b := (((x.kd == y.kd) && (x.fr == y.fr)) && (x.to == y.to))) rfl (.pointer (some ⟨w.heap.size, 3, none⟩)) (fun E => ((wanted_of rfl rfl (E.sz 24 (by decide)) (E.d 19 0)).trans (beq_t _))) (fun E hb => ex_field rfl Try.underlying109 rfl (by kernel_rfl) (E.v oe2)) ?_
  intro v1_20 hw
  have hv1_20 := hid hw
  clear hw
  refine QSeq.may (b := (((x.kd == y.kd) && (x.fr == y.fr)) && (x.to == y.to))) rfl (.agg (x.cm.cells).toArray) (fun E => ((wanted_of rfl rfl (E.sz 24 (by decide)) (E.d 19 1)).trans (beq_t _))) (fun E hb => ex_loadA rfl Try.underlying36 rfl (off := 3) (cs := (x.cm.cells)) (by rw [Cm.len HOKx.out.cm.2.1]; exact size_commit) ((E.q 20 0 hv1_20.out).1 hb) (Cs.seg HB2.out HLNx.out 3 rfl rfl)) ?_
  intro v1_21 hw
  have hv1_21 := hid hw
  clear hw
  refine QSeq.may (b := (((x.kd == y.kd) && (x.fr == y.fr)) && (x.to == y.to))) rfl (.pointer (some ⟨w.heap.size + 1, 3, none⟩)) (fun E => ((wanted_of rfl rfl (E.sz 24 (by decide)) (E.d 19 2)).trans (beq_t _))) (fun E hb => ex_field rfl Try.underlying109 rfl (by kernel_rfl) (E.v oe3)) ?_
  intro v1_22 hw
  have hv1_22 := hid hw
  clear hw
  refine QSeq.may (b := (((x.kd == y.kd) && (x.fr == y.fr)) && (x.to == y.to))) rfl (.agg (y.cm.cells).toArray) (fun E => ((wanted_of rfl rfl (E.sz 24 (by decide)) (E.d 19 3)).trans (beq_t _))) (fun E hb => ex_loadA rfl Try.underlying36 rfl (off := 3) (cs := (y.cm.cells)) (by rw [Cm.len HOKy.out.cm.2.1]; exact size_commit) ((E.q 22 0 hv1_22.out).1 hb) (Cs.seg HB3.out HLNy.out 3 rfl rfl)) ?_
  intro v1_23 hw
  have hv1_23 := hid hw
  clear hw
  refine QSeq.may (b := (((x.kd == y.kd) && (x.fr == y.fr)) && (x.to == y.to))) rfl (.bool (eqb x.cm y.cm)) (fun E => ((wanted_of rfl rfl (E.sz 24 (by decide)) (E.d 19 4)).trans (beq_t _))) (fun E hb => ex_binE rfl ((E.q 21 2 hv1_21.out).1 hb) ((E.q 23 0 hv1_23.out).1 hb) (agg_guardE _ _ _ _ _ _ (by kernel_rfl) _) (EqW.run eqW_commit (ki_cm HOKx.out.cm.2.1) (ki_cm HOKy.out.cm.2.1) (cm_iff HOKx.out.cm HOKy.out.cm) _) rfl) ?_
  intro v1_24 hw
  have hv1_24 := hid hw
  clear hw
  refine QSeq.pure rfl (.bool ((((x.kd == y.kd) && (x.fr == y.fr)) && (x.to == y.to)) && (eqb x.cm y.cm))) (fun E => ex_pickE rfl (E.d 19 5) rfl rfl (and_val fun hb => (E.q 24 0 hv1_24.out).1 hb)) ?_
  refine QSeq.pure rfl _ (fun E => ex_move rfl (E.d 25 0)) ?_
  refine QSeq.may (b := ((((x.kd == y.kd) && (x.fr == y.fr)) && (x.to == y.to)) && (eqb x.cm y.cm))) rfl (.pointer (some ⟨w.heap.size, 40, none⟩)) (fun E => ((wanted_of rfl rfl (E.sz 31 (by decide)) (E.d 26 0)).trans (beq_t _))) (fun E hb => ex_field rfl Try.underlying109 rfl (by kernel_rfl) (E.v oe2)) ?_
  intro v1_27 hw
  have hv1_27 := hid hw
  clear hw
  refine QSeq.may (b := ((((x.kd == y.kd) && (x.fr == y.fr)) && (x.to == y.to)) && (eqb x.cm y.cm))) rfl (.agg (x.st.cells).toArray) (fun E => ((wanted_of rfl rfl (E.sz 31 (by decide)) (E.d 26 1)).trans (beq_t _))) (fun E hb => ex_loadA rfl Try.underlying47 rfl (off := 40) (cs := (x.st.cells)) (by rw [St.len HOKx.out.st]; kernel_rfl) ((E.q 27 0 hv1_27.out).1 hb) (Cs.seg HB2.out HLNx.out 4 rfl rfl)) ?_
  intro v1_28 hw
  have hv1_28 := hid hw
  clear hw
  refine QSeq.may (b := ((((x.kd == y.kd) && (x.fr == y.fr)) && (x.to == y.to)) && (eqb x.cm y.cm))) rfl (.pointer (some ⟨w.heap.size + 1, 40, none⟩)) (fun E => ((wanted_of rfl rfl (E.sz 31 (by decide)) (E.d 26 2)).trans (beq_t _))) (fun E hb => ex_field rfl Try.underlying109 rfl (by kernel_rfl) (E.v oe3)) ?_
  intro v1_29 hw
  have hv1_29 := hid hw
  clear hw
  refine QSeq.may (b := ((((x.kd == y.kd) && (x.fr == y.fr)) && (x.to == y.to)) && (eqb x.cm y.cm))) rfl (.agg (y.st.cells).toArray) (fun E => ((wanted_of rfl rfl (E.sz 31 (by decide)) (E.d 26 3)).trans (beq_t _))) (fun E hb => ex_loadA rfl Try.underlying47 rfl (off := 40) (cs := (y.st.cells)) (by rw [St.len HOKy.out.st]; kernel_rfl) ((E.q 29 0 hv1_29.out).1 hb) (Cs.seg HB3.out HLNy.out 4 rfl rfl)) ?_
  intro v1_30 hw
  have hv1_30 := hid hw
  clear hw
  refine QSeq.may (b := ((((x.kd == y.kd) && (x.fr == y.fr)) && (x.to == y.to)) && (eqb x.cm y.cm))) rfl (.bool (eqb x.st y.st)) (fun E => ((wanted_of rfl rfl (E.sz 31 (by decide)) (E.d 26 4)).trans (beq_t _))) (fun E hb => ex_binE rfl ((E.q 28 2 hv1_28.out).1 hb) ((E.q 30 0 hv1_30.out).1 hb) (agg_guardE _ _ _ _ _ _ (by kernel_rfl) _) (EqW.run eqW_stamp (ki_st HOKx.out.st) (ki_st HOKy.out.st) (st_iff HOKx.out.st HOKy.out.st) _) rfl) ?_
  intro v1_31 hw
  have hv1_31 := hid hw
  clear hw
  refine QSeq.pure rfl (.bool (((((x.kd == y.kd) && (x.fr == y.fr)) && (x.to == y.to)) && (eqb x.cm y.cm)) && (eqb x.st y.st))) (fun E => ex_pickE rfl (E.d 26 5) rfl rfl (and_val fun hb => (E.q 31 0 hv1_31.out).1 hb)) ?_
  refine QSeq.pure rfl _ (fun E => ex_move rfl (E.d 32 0)) ?_
  refine QSeq.may (b := (((((x.kd == y.kd) && (x.fr == y.fr)) && (x.to == y.to)) && (eqb x.cm y.cm)) && (eqb x.st y.st))) rfl (.pointer (some ⟨w.heap.size, 78, none⟩)) (fun E => ((wanted_of rfl rfl (E.sz 38 (by decide)) (E.d 33 0)).trans (beq_t _))) (fun E hb => ex_field rfl Try.underlying109 rfl (by kernel_rfl) (E.v oe2)) ?_
  intro v1_34 hw
  have hv1_34 := hid hw
  clear hw
  refine QSeq.may (b := (((((x.kd == y.kd) && (x.fr == y.fr)) && (x.to == y.to)) && (eqb x.cm y.cm)) && (eqb x.st y.st))) rfl (.agg (xc5).toArray) (fun E => ((wanted_of rfl rfl (E.sz 38 (by decide)) (E.d 33 1)).trans (beq_t _))) (fun E hb => ex_loadA rfl Try.underlying84 rfl (off := 78) (cs := (xc5)) (by rw [HCx5.out]; kernel_rfl) ((E.q 34 0 hv1_34.out).1 hb) (Cs.seg HB2.out HLNx.out 5 rfl rfl)) ?_
  intro v1_35 hw
  have hv1_35 := hid hw
  clear hw
  refine QSeq.may (b := (((((x.kd == y.kd) && (x.fr == y.fr)) && (x.to == y.to)) && (eqb x.cm y.cm)) && (eqb x.st y.st))) rfl (.pointer (some ⟨w.heap.size + 1, 78, none⟩)) (fun E => ((wanted_of rfl rfl (E.sz 38 (by decide)) (E.d 33 2)).trans (beq_t _))) (fun E hb => ex_field rfl Try.underlying109 rfl (by kernel_rfl) (E.v oe3)) ?_
  intro v1_36 hw
  have hv1_36 := hid hw
  clear hw
  refine QSeq.may (b := (((((x.kd == y.kd) && (x.fr == y.fr)) && (x.to == y.to)) && (eqb x.cm y.cm)) && (eqb x.st y.st))) rfl (.agg (yc5).toArray) (fun E => ((wanted_of rfl rfl (E.sz 38 (by decide)) (E.d 33 3)).trans (beq_t _))) (fun E hb => ex_loadA rfl Try.underlying84 rfl (off := 78) (cs := (yc5)) (by rw [HCy5.out]; kernel_rfl) ((E.q 36 0 hv1_36.out).1 hb) (Cs.seg HB3.out HLNy.out 5 rfl rfl)) ?_
  intro v1_37 hw
  have hv1_37 := hid hw
  clear hw
  refine QSeq.mayCall (b := (((((x.kd == y.kd) && (x.fr == y.fr)) && (x.to == y.to)) && (eqb x.cm y.cm)) && (eqb x.st y.st))) rfl (.bool (eqb x.ce y.ce)) (args := #[.agg (xc5).toArray, .agg (yc5).toArray]) (fun E => ((wanted_of rfl rfl (E.sz 38 (by decide)) (E.d 33 4)).trans (beq_t _))) rfl Try.func55 (fun E hb => args2 ((E.q 35 2 hv1_35.out).1 hb) ((E.q 37 0 hv1_37.out).1 hb)) (fun hb => Eq_Ce _ _ _ _ x.ce y.ce _ Hx1.out Hx9.out (by intro k h1; have hb := HBR.out k h1; (try have := hm.size); omega) (by intro k h1; have hb := HBT.out k h1; (try have := hm.size); omega)) ?_
  intro v1_38 u1_38 hw hm
  have hv1_38 := hid hw
  clear hw
  have zu1_38 := hm.size
  have Cx17 := hid (show Mod (fun _ => False) w1 u1_38 from hm)
  clear hm
  refine QSeq.pure rfl (.bool ((((((x.kd == y.kd) && (x.fr == y.fr)) && (x.to == y.to)) && (eqb x.cm y.cm)) && (eqb x.st y.st)) && (eqb x.ce y.ce))) (fun E => ex_pickE rfl (E.d 33 5) rfl rfl (and_val fun hb => (E.q 38 0 hv1_38.out).1 hb)) ?_
  refine QSeq.pure rfl _ (fun E => ex_move rfl (E.d 39 0)) ?_
  refine QSeq.may (b := ((((((x.kd == y.kd) && (x.fr == y.fr)) && (x.to == y.to)) && (eqb x.cm y.cm)) && (eqb x.st y.st)) && (eqb x.ce y.ce))) rfl (.pointer (some ⟨w.heap.size, 116, none⟩)) (fun E => ((wanted_of rfl rfl (E.sz 45 (by decide)) (E.d 40 0)).trans (beq_t _))) (fun E hb => ex_field rfl Try.underlying109 rfl (by kernel_rfl) (E.v oe2)) ?_
  intro v1_41 hw
  have hv1_41 := hid hw
  clear hw
  refine QSeq.may (b := ((((((x.kd == y.kd) && (x.fr == y.fr)) && (x.to == y.to)) && (eqb x.cm y.cm)) && (eqb x.st y.st)) && (eqb x.ce y.ce))) rfl (.agg (x.ak.cells).toArray) (fun E => ((wanted_of rfl rfl (E.sz 45 (by decide)) (E.d 40 1)).trans (beq_t _))) (fun E hb => ex_loadA rfl Try.underlying86 rfl (off := 116) (cs := (x.ak.cells)) (by rw [St.len HOKx.out.ak]; kernel_rfl) ((E.q 41 0 hv1_41.out).1 hb) (Cs.seg (HB2.out.mod Cx17.out (fun h => h)) HLNx.out 6 rfl rfl)) ?_
  intro v1_42 hw
  have hv1_42 := hid hw
  clear hw
  refine QSeq.may (b := ((((((x.kd == y.kd) && (x.fr == y.fr)) && (x.to == y.to)) && (eqb x.cm y.cm)) && (eqb x.st y.st)) && (eqb x.ce y.ce))) rfl (.pointer (some ⟨w.heap.size + 1, 116, none⟩)) (fun E => ((wanted_of rfl rfl (E.sz 45 (by decide)) (E.d 40 2)).trans (beq_t _))) (fun E hb => ex_field rfl Try.underlying109 rfl (by kernel_rfl) (E.v oe3)) ?_
  intro v1_43 hw
  have hv1_43 := hid hw
  clear hw
  refine QSeq.may (b := ((((((x.kd == y.kd) && (x.fr == y.fr)) && (x.to == y.to)) && (eqb x.cm y.cm)) && (eqb x.st y.st)) && (eqb x.ce y.ce))) rfl (.agg (y.ak.cells).toArray) (fun E => ((wanted_of rfl rfl (E.sz 45 (by decide)) (E.d 40 3)).trans (beq_t _))) (fun E hb => ex_loadA rfl Try.underlying86 rfl (off := 116) (cs := (y.ak.cells)) (by rw [St.len HOKy.out.ak]; kernel_rfl) ((E.q 43 0 hv1_43.out).1 hb) (Cs.seg (HB3.out.mod Cx17.out (fun h => h)) HLNy.out 6 rfl rfl)) ?_
  intro v1_44 hw
  have hv1_44 := hid hw
  clear hw
  refine QSeq.may (b := ((((((x.kd == y.kd) && (x.fr == y.fr)) && (x.to == y.to)) && (eqb x.cm y.cm)) && (eqb x.st y.st)) && (eqb x.ce y.ce))) rfl (.bool (eqb x.ak y.ak)) (fun E => ((wanted_of rfl rfl (E.sz 45 (by decide)) (E.d 40 4)).trans (beq_t _))) (fun E hb => ex_binE rfl ((E.q 42 2 hv1_42.out).1 hb) ((E.q 44 0 hv1_44.out).1 hb) (agg_guardE _ _ _ _ _ _ (by kernel_rfl) _) (EqW.run eqW_ack (ki_st HOKx.out.ak) (ki_st HOKy.out.ak) (st_iff HOKx.out.ak HOKy.out.ak) _) rfl) ?_
  intro v1_45 hw
  have hv1_45 := hid hw
  clear hw
  refine QSeq.pure rfl (.bool (((((((x.kd == y.kd) && (x.fr == y.fr)) && (x.to == y.to)) && (eqb x.cm y.cm)) && (eqb x.st y.st)) && (eqb x.ce y.ce)) && (eqb x.ak y.ak))) (fun E => ex_pickE rfl (E.d 40 5) rfl rfl (and_val fun hb => (E.q 45 0 hv1_45.out).1 hb)) ?_
  refine QSeq.pure rfl _ (fun E => ex_move rfl (E.d 46 0)) ?_
  refine QSeq.may (b := (((((((x.kd == y.kd) && (x.fr == y.fr)) && (x.to == y.to)) && (eqb x.cm y.cm)) && (eqb x.st y.st)) && (eqb x.ce y.ce)) && (eqb x.ak y.ak))) rfl (.pointer (some ⟨w.heap.size, 154, none⟩)) (fun E => ((wanted_of rfl rfl (E.sz 52 (by decide)) (E.d 47 0)).trans (beq_t _))) (fun E hb => ex_field rfl Try.underlying109 rfl (by kernel_rfl) (E.v oe2)) ?_
  intro v1_48 hw
  have hv1_48 := hid hw
  clear hw
  refine QSeq.may (b := (((((((x.kd == y.kd) && (x.fr == y.fr)) && (x.to == y.to)) && (eqb x.cm y.cm)) && (eqb x.st y.st)) && (eqb x.ce y.ce)) && (eqb x.ak y.ak))) rfl (.int .i64 x.ep) (fun E => ((wanted_of rfl rfl (E.sz 52 (by decide)) (E.d 47 1)).trans (beq_t _))) (fun E hb => ex_load1 rfl Try.underlying3 rfl ((E.q 48 0 hv1_48.out).1 hb) (Cs.seg1 (HB2.out.mod Cx17.out (fun h => h)) HLNx.out 7 rfl (o := 154) (k := 0) rfl rfl rfl)) ?_
  intro v1_49 hw
  have hv1_49 := hid hw
  clear hw
  refine QSeq.may (b := (((((((x.kd == y.kd) && (x.fr == y.fr)) && (x.to == y.to)) && (eqb x.cm y.cm)) && (eqb x.st y.st)) && (eqb x.ce y.ce)) && (eqb x.ak y.ak))) rfl (.pointer (some ⟨w.heap.size + 1, 154, none⟩)) (fun E => ((wanted_of rfl rfl (E.sz 52 (by decide)) (E.d 47 2)).trans (beq_t _))) (fun E hb => ex_field rfl Try.underlying109 rfl (by kernel_rfl) (E.v oe3)) ?_
  intro v1_50 hw
  have hv1_50 := hid hw
  clear hw
  refine QSeq.may (b := (((((((x.kd == y.kd) && (x.fr == y.fr)) && (x.to == y.to)) && (eqb x.cm y.cm)) && (eqb x.st y.st)) && (eqb x.ce y.ce)) && (eqb x.ak y.ak))) rfl (.int .i64 y.ep) (fun E => ((wanted_of rfl rfl (E.sz 52 (by decide)) (E.d 47 3)).trans (beq_t _))) (fun E hb => ex_load1 rfl Try.underlying3 rfl ((E.q 50 0 hv1_50.out).1 hb) (Cs.seg1 (HB3.out.mod Cx17.out (fun h => h)) HLNy.out 7 rfl (o := 154) (k := 0) rfl rfl rfl)) ?_
  intro v1_51 hw
  have hv1_51 := hid hw
  clear hw
  refine QSeq.may (b := (((((((x.kd == y.kd) && (x.fr == y.fr)) && (x.to == y.to)) && (eqb x.cm y.cm)) && (eqb x.st y.st)) && (eqb x.ce y.ce)) && (eqb x.ak y.ak))) rfl (.bool (x.ep == y.ep)) (fun E => ((wanted_of rfl rfl (E.sz 52 (by decide)) (E.d 47 4)).trans (beq_t _))) (fun E hb => ex_bin rfl ((E.q 49 2 hv1_49.out).1 hb) ((E.q 51 0 hv1_51.out).1 hb) (guard_ints _ _ _ _ _ _) (run_eql_i _ _ _ Try.underlying3)) ?_
  intro v1_52 hw
  have hv1_52 := hid hw
  clear hw
  refine QSeq.pure rfl (.bool ((((((((x.kd == y.kd) && (x.fr == y.fr)) && (x.to == y.to)) && (eqb x.cm y.cm)) && (eqb x.st y.st)) && (eqb x.ce y.ce)) && (eqb x.ak y.ak)) && (x.ep == y.ep))) (fun E => ex_pickE rfl (E.d 47 5) rfl rfl (and_val fun hb => (E.q 52 0 hv1_52.out).1 hb)) ?_
  refine QSeq.pure rfl _ (fun E => ex_move rfl (E.d 53 0)) ?_
  refine QSeq.may (b := ((((((((x.kd == y.kd) && (x.fr == y.fr)) && (x.to == y.to)) && (eqb x.cm y.cm)) && (eqb x.st y.st)) && (eqb x.ce y.ce)) && (eqb x.ak y.ak)) && (x.ep == y.ep))) rfl (.pointer (some ⟨w.heap.size, 155, none⟩)) (fun E => ((wanted_of rfl rfl (E.sz 59 (by decide)) (E.d 54 0)).trans (beq_t _))) (fun E hb => ex_field rfl Try.underlying109 rfl (by kernel_rfl) (E.v oe2)) ?_
  intro v1_55 hw
  have hv1_55 := hid hw
  clear hw
  refine QSeq.may (b := ((((((((x.kd == y.kd) && (x.fr == y.fr)) && (x.to == y.to)) && (eqb x.cm y.cm)) && (eqb x.st y.st)) && (eqb x.ce y.ce)) && (eqb x.ak y.ak)) && (x.ep == y.ep))) rfl (.int .i64 x.rn) (fun E => ((wanted_of rfl rfl (E.sz 59 (by decide)) (E.d 54 1)).trans (beq_t _))) (fun E hb => ex_load1 rfl Try.underlying3 rfl ((E.q 55 0 hv1_55.out).1 hb) (Cs.seg1 (HB2.out.mod Cx17.out (fun h => h)) HLNx.out 8 rfl (o := 155) (k := 0) rfl rfl rfl)) ?_
  intro v1_56 hw
  have hv1_56 := hid hw
  clear hw
  refine QSeq.may (b := ((((((((x.kd == y.kd) && (x.fr == y.fr)) && (x.to == y.to)) && (eqb x.cm y.cm)) && (eqb x.st y.st)) && (eqb x.ce y.ce)) && (eqb x.ak y.ak)) && (x.ep == y.ep))) rfl (.pointer (some ⟨w.heap.size + 1, 155, none⟩)) (fun E => ((wanted_of rfl rfl (E.sz 59 (by decide)) (E.d 54 2)).trans (beq_t _))) (fun E hb => ex_field rfl Try.underlying109 rfl (by kernel_rfl) (E.v oe3)) ?_
  intro v1_57 hw
  have hv1_57 := hid hw
  clear hw
  refine QSeq.may (b := ((((((((x.kd == y.kd) && (x.fr == y.fr)) && (x.to == y.to)) && (eqb x.cm y.cm)) && (eqb x.st y.st)) && (eqb x.ce y.ce)) && (eqb x.ak y.ak)) && (x.ep == y.ep))) rfl (.int .i64 y.rn) (fun E => ((wanted_of rfl rfl (E.sz 59 (by decide)) (E.d 54 3)).trans (beq_t _))) (fun E hb => ex_load1 rfl Try.underlying3 rfl ((E.q 57 0 hv1_57.out).1 hb) (Cs.seg1 (HB3.out.mod Cx17.out (fun h => h)) HLNy.out 8 rfl (o := 155) (k := 0) rfl rfl rfl)) ?_
  intro v1_58 hw
  have hv1_58 := hid hw
  clear hw
  refine QSeq.may (b := ((((((((x.kd == y.kd) && (x.fr == y.fr)) && (x.to == y.to)) && (eqb x.cm y.cm)) && (eqb x.st y.st)) && (eqb x.ce y.ce)) && (eqb x.ak y.ak)) && (x.ep == y.ep))) rfl (.bool (x.rn == y.rn)) (fun E => ((wanted_of rfl rfl (E.sz 59 (by decide)) (E.d 54 4)).trans (beq_t _))) (fun E hb => ex_bin rfl ((E.q 56 2 hv1_56.out).1 hb) ((E.q 58 0 hv1_58.out).1 hb) (guard_ints _ _ _ _ _ _) (run_eql_i _ _ _ Try.underlying3)) ?_
  intro v1_59 hw
  have hv1_59 := hid hw
  clear hw
  refine QSeq.pure rfl (.bool (((((((((x.kd == y.kd) && (x.fr == y.fr)) && (x.to == y.to)) && (eqb x.cm y.cm)) && (eqb x.st y.st)) && (eqb x.ce y.ce)) && (eqb x.ak y.ak)) && (x.ep == y.ep)) && (x.rn == y.rn))) (fun E => ex_pickE rfl (E.d 54 5) rfl rfl (and_val fun hb => (E.q 59 0 hv1_59.out).1 hb)) ?_
  refine QSeq.pure rfl _ (fun E => ex_move rfl (E.d 60 0)) ?_
  refine QSeq.may (b := (((((((((x.kd == y.kd) && (x.fr == y.fr)) && (x.to == y.to)) && (eqb x.cm y.cm)) && (eqb x.st y.st)) && (eqb x.ce y.ce)) && (eqb x.ak y.ak)) && (x.ep == y.ep)) && (x.rn == y.rn))) rfl (.pointer (some ⟨w.heap.size, 156, none⟩)) (fun E => ((wanted_of rfl rfl (E.sz 66 (by decide)) (E.d 61 0)).trans (beq_t _))) (fun E hb => ex_field rfl Try.underlying109 rfl (by kernel_rfl) (E.v oe2)) ?_
  intro v1_62 hw
  have hv1_62 := hid hw
  clear hw
  refine QSeq.may (b := (((((((((x.kd == y.kd) && (x.fr == y.fr)) && (x.to == y.to)) && (eqb x.cm y.cm)) && (eqb x.st y.st)) && (eqb x.ce y.ce)) && (eqb x.ak y.ak)) && (x.ep == y.ep)) && (x.rn == y.rn))) rfl (.int .u64 (x.tm : Nat)) (fun E => ((wanted_of rfl rfl (E.sz 66 (by decide)) (E.d 61 1)).trans (beq_t _))) (fun E hb => ex_load1 rfl Try.underlying45 rfl ((E.q 62 0 hv1_62.out).1 hb) (Cs.seg1 (HB2.out.mod Cx17.out (fun h => h)) HLNx.out 9 rfl (o := 156) (k := 0) rfl rfl rfl)) ?_
  intro v1_63 hw
  have hv1_63 := hid hw
  clear hw
  refine QSeq.may (b := (((((((((x.kd == y.kd) && (x.fr == y.fr)) && (x.to == y.to)) && (eqb x.cm y.cm)) && (eqb x.st y.st)) && (eqb x.ce y.ce)) && (eqb x.ak y.ak)) && (x.ep == y.ep)) && (x.rn == y.rn))) rfl (.pointer (some ⟨w.heap.size + 1, 156, none⟩)) (fun E => ((wanted_of rfl rfl (E.sz 66 (by decide)) (E.d 61 2)).trans (beq_t _))) (fun E hb => ex_field rfl Try.underlying109 rfl (by kernel_rfl) (E.v oe3)) ?_
  intro v1_64 hw
  have hv1_64 := hid hw
  clear hw
  refine QSeq.may (b := (((((((((x.kd == y.kd) && (x.fr == y.fr)) && (x.to == y.to)) && (eqb x.cm y.cm)) && (eqb x.st y.st)) && (eqb x.ce y.ce)) && (eqb x.ak y.ak)) && (x.ep == y.ep)) && (x.rn == y.rn))) rfl (.int .u64 (y.tm : Nat)) (fun E => ((wanted_of rfl rfl (E.sz 66 (by decide)) (E.d 61 3)).trans (beq_t _))) (fun E hb => ex_load1 rfl Try.underlying45 rfl ((E.q 64 0 hv1_64.out).1 hb) (Cs.seg1 (HB3.out.mod Cx17.out (fun h => h)) HLNy.out 9 rfl (o := 156) (k := 0) rfl rfl rfl)) ?_
  intro v1_65 hw
  have hv1_65 := hid hw
  clear hw
  refine QSeq.may (b := (((((((((x.kd == y.kd) && (x.fr == y.fr)) && (x.to == y.to)) && (eqb x.cm y.cm)) && (eqb x.st y.st)) && (eqb x.ce y.ce)) && (eqb x.ak y.ak)) && (x.ep == y.ep)) && (x.rn == y.rn))) rfl (.bool (((x.tm : Nat) : Int) == ((y.tm : Nat) : Int))) (fun E => ((wanted_of rfl rfl (E.sz 66 (by decide)) (E.d 61 4)).trans (beq_t _))) (fun E hb => ex_bin rfl ((E.q 63 2 hv1_63.out).1 hb) ((E.q 65 0 hv1_65.out).1 hb) (guard_ints _ _ _ _ _ _) (run_eql_i _ _ _ Try.underlying45)) ?_
  intro v1_66 hw
  have hv1_66 := hid hw
  clear hw
  refine QSeq.pure rfl (.bool ((((((((((x.kd == y.kd) && (x.fr == y.fr)) && (x.to == y.to)) && (eqb x.cm y.cm)) && (eqb x.st y.st)) && (eqb x.ce y.ce)) && (eqb x.ak y.ak)) && (x.ep == y.ep)) && (x.rn == y.rn)) && (((x.tm : Nat) : Int) == ((y.tm : Nat) : Int)))) (fun E => ex_pickE rfl (E.d 61 5) rfl rfl (and_val fun hb => (E.q 66 0 hv1_66.out).1 hb)) ?_
  refine QSeq.pure rfl _ (fun E => ex_move rfl (E.d 67 0)) ?_
  refine QSeq.may (b := ((((((((((x.kd == y.kd) && (x.fr == y.fr)) && (x.to == y.to)) && (eqb x.cm y.cm)) && (eqb x.st y.st)) && (eqb x.ce y.ce)) && (eqb x.ak y.ak)) && (x.ep == y.ep)) && (x.rn == y.rn)) && (((x.tm : Nat) : Int) == ((y.tm : Nat) : Int)))) rfl (.pointer (some ⟨w.heap.size, 157, none⟩)) (fun E => ((wanted_of rfl rfl (E.sz 73 (by decide)) (E.d 68 0)).trans (beq_t _))) (fun E hb => ex_field rfl Try.underlying109 rfl (by kernel_rfl) (E.v oe2)) ?_
  intro v1_69 hw
  have hv1_69 := hid hw
  clear hw
  refine QSeq.may (b := ((((((((((x.kd == y.kd) && (x.fr == y.fr)) && (x.to == y.to)) && (eqb x.cm y.cm)) && (eqb x.st y.st)) && (eqb x.ce y.ce)) && (eqb x.ak y.ak)) && (x.ep == y.ep)) && (x.rn == y.rn)) && (((x.tm : Nat) : Int) == ((y.tm : Nat) : Int)))) rfl (.agg (xc10).toArray) (fun E => ((wanted_of rfl rfl (E.sz 73 (by decide)) (E.d 68 1)).trans (beq_t _))) (fun E hb => ex_loadA rfl Try.underlying89 rfl (off := 157) (cs := (xc10)) (by rw [HCx10.out]; kernel_rfl) ((E.q 69 0 hv1_69.out).1 hb) (Cs.seg (HB2.out.mod Cx17.out (fun h => h)) HLNx.out 10 rfl rfl)) ?_
  intro v1_70 hw
  have hv1_70 := hid hw
  clear hw
  refine QSeq.may (b := ((((((((((x.kd == y.kd) && (x.fr == y.fr)) && (x.to == y.to)) && (eqb x.cm y.cm)) && (eqb x.st y.st)) && (eqb x.ce y.ce)) && (eqb x.ak y.ak)) && (x.ep == y.ep)) && (x.rn == y.rn)) && (((x.tm : Nat) : Int) == ((y.tm : Nat) : Int)))) rfl (.pointer (some ⟨w.heap.size + 1, 157, none⟩)) (fun E => ((wanted_of rfl rfl (E.sz 73 (by decide)) (E.d 68 2)).trans (beq_t _))) (fun E hb => ex_field rfl Try.underlying109 rfl (by kernel_rfl) (E.v oe3)) ?_
  intro v1_71 hw
  have hv1_71 := hid hw
  clear hw
  refine QSeq.may (b := ((((((((((x.kd == y.kd) && (x.fr == y.fr)) && (x.to == y.to)) && (eqb x.cm y.cm)) && (eqb x.st y.st)) && (eqb x.ce y.ce)) && (eqb x.ak y.ak)) && (x.ep == y.ep)) && (x.rn == y.rn)) && (((x.tm : Nat) : Int) == ((y.tm : Nat) : Int)))) rfl (.agg (yc10).toArray) (fun E => ((wanted_of rfl rfl (E.sz 73 (by decide)) (E.d 68 3)).trans (beq_t _))) (fun E hb => ex_loadA rfl Try.underlying89 rfl (off := 157) (cs := (yc10)) (by rw [HCy10.out]; kernel_rfl) ((E.q 71 0 hv1_71.out).1 hb) (Cs.seg (HB3.out.mod Cx17.out (fun h => h)) HLNy.out 10 rfl rfl)) ?_
  intro v1_72 hw
  have hv1_72 := hid hw
  clear hw
  refine QSeq.mayCall (b := ((((((((((x.kd == y.kd) && (x.fr == y.fr)) && (x.to == y.to)) && (eqb x.cm y.cm)) && (eqb x.st y.st)) && (eqb x.ce y.ce)) && (eqb x.ak y.ak)) && (x.ep == y.ep)) && (x.rn == y.rn)) && (((x.tm : Nat) : Int) == ((y.tm : Nat) : Int)))) rfl (.bool (eqb x.pm y.pm)) (args := #[.agg (xc10).toArray, .agg (yc10).toArray]) (fun E => ((wanted_of rfl rfl (E.sz 73 (by decide)) (E.d 68 4)).trans (beq_t _))) rfl Try.func56 (fun E hb => args2 ((E.q 70 2 hv1_70.out).1 hb) ((E.q 72 0 hv1_72.out).1 hb)) (fun hb => Eq_Pm _ _ _ _ x.pm y.pm _ (Hx2.out.mod Cx17.out (fun _ _ h => h)) (Hx10.out.mod Cx17.out (fun _ _ h => h)) (by intro k h1; have hb := HBR.out k h1; (try have := hm.size); omega) (by intro k h1; have hb := HBT.out k h1; (try have := hm.size); omega)) ?_
  intro v1_73 u1_73 hw hm
  have hv1_73 := hid hw
  clear hw
  have zu1_73 := hm.size
  have HMu1_73 := hid hm
  have Cx18 := hid (Cx17.out.goE hm)
  clear hm Cx17
  refine QSeq.pure rfl (.bool (((((((((((x.kd == y.kd) && (x.fr == y.fr)) && (x.to == y.to)) && (eqb x.cm y.cm)) && (eqb x.st y.st)) && (eqb x.ce y.ce)) && (eqb x.ak y.ak)) && (x.ep == y.ep)) && (x.rn == y.rn)) && (((x.tm : Nat) : Int) == ((y.tm : Nat) : Int))) && (eqb x.pm y.pm))) (fun E => ex_pickE rfl (E.d 68 5) rfl rfl (and_val fun hb => (E.q 73 0 hv1_73.out).1 hb)) ?_
  refine QSeq.pure rfl _ (fun E => ex_move rfl (E.d 74 0)) ?_
  refine QSeq.may (b := (((((((((((x.kd == y.kd) && (x.fr == y.fr)) && (x.to == y.to)) && (eqb x.cm y.cm)) && (eqb x.st y.st)) && (eqb x.ce y.ce)) && (eqb x.ak y.ak)) && (x.ep == y.ep)) && (x.rn == y.rn)) && (((x.tm : Nat) : Int) == ((y.tm : Nat) : Int))) && (eqb x.pm y.pm))) rfl (.pointer (some ⟨w.heap.size, 163, none⟩)) (fun E => ((wanted_of rfl rfl (E.sz 80 (by decide)) (E.d 75 0)).trans (beq_t _))) (fun E hb => ex_field rfl Try.underlying109 rfl (by kernel_rfl) (E.v oe2)) ?_
  intro v1_76 hw
  have hv1_76 := hid hw
  clear hw
  refine QSeq.may (b := (((((((((((x.kd == y.kd) && (x.fr == y.fr)) && (x.to == y.to)) && (eqb x.cm y.cm)) && (eqb x.st y.st)) && (eqb x.ce y.ce)) && (eqb x.ak y.ak)) && (x.ep == y.ep)) && (x.rn == y.rn)) && (((x.tm : Nat) : Int) == ((y.tm : Nat) : Int))) && (eqb x.pm y.pm))) rfl (.agg (xc11).toArray) (fun E => ((wanted_of rfl rfl (E.sz 80 (by decide)) (E.d 75 1)).trans (beq_t _))) (fun E hb => ex_loadA rfl Try.underlying96 rfl (off := 163) (cs := (xc11)) (by rw [HCx11.out]; kernel_rfl) ((E.q 76 0 hv1_76.out).1 hb) (Cs.seg (HB2.out.mod Cx18.out (fun h => h)) HLNx.out 11 rfl rfl)) ?_
  intro v1_77 hw
  have hv1_77 := hid hw
  clear hw
  refine QSeq.may (b := (((((((((((x.kd == y.kd) && (x.fr == y.fr)) && (x.to == y.to)) && (eqb x.cm y.cm)) && (eqb x.st y.st)) && (eqb x.ce y.ce)) && (eqb x.ak y.ak)) && (x.ep == y.ep)) && (x.rn == y.rn)) && (((x.tm : Nat) : Int) == ((y.tm : Nat) : Int))) && (eqb x.pm y.pm))) rfl (.pointer (some ⟨w.heap.size + 1, 163, none⟩)) (fun E => ((wanted_of rfl rfl (E.sz 80 (by decide)) (E.d 75 2)).trans (beq_t _))) (fun E hb => ex_field rfl Try.underlying109 rfl (by kernel_rfl) (E.v oe3)) ?_
  intro v1_78 hw
  have hv1_78 := hid hw
  clear hw
  refine QSeq.may (b := (((((((((((x.kd == y.kd) && (x.fr == y.fr)) && (x.to == y.to)) && (eqb x.cm y.cm)) && (eqb x.st y.st)) && (eqb x.ce y.ce)) && (eqb x.ak y.ak)) && (x.ep == y.ep)) && (x.rn == y.rn)) && (((x.tm : Nat) : Int) == ((y.tm : Nat) : Int))) && (eqb x.pm y.pm))) rfl (.agg (yc11).toArray) (fun E => ((wanted_of rfl rfl (E.sz 80 (by decide)) (E.d 75 3)).trans (beq_t _))) (fun E hb => ex_loadA rfl Try.underlying96 rfl (off := 163) (cs := (yc11)) (by rw [HCy11.out]; kernel_rfl) ((E.q 78 0 hv1_78.out).1 hb) (Cs.seg (HB3.out.mod Cx18.out (fun h => h)) HLNy.out 11 rfl rfl)) ?_
  intro v1_79 hw
  have hv1_79 := hid hw
  clear hw
  refine QSeq.mayCall (b := (((((((((((x.kd == y.kd) && (x.fr == y.fr)) && (x.to == y.to)) && (eqb x.cm y.cm)) && (eqb x.st y.st)) && (eqb x.ce y.ce)) && (eqb x.ak y.ak)) && (x.ep == y.ep)) && (x.rn == y.rn)) && (((x.tm : Nat) : Int) == ((y.tm : Nat) : Int))) && (eqb x.pm y.pm))) rfl (.bool (eqb x.pr y.pr)) (args := #[.agg (xc11).toArray, .agg (yc11).toArray]) (fun E => ((wanted_of rfl rfl (E.sz 80 (by decide)) (E.d 75 4)).trans (beq_t _))) rfl Try.func57 (fun E hb => args2 ((E.q 77 2 hv1_77.out).1 hb) ((E.q 79 0 hv1_79.out).1 hb)) (fun hb => Eq_Pr _ _ _ _ x.pr y.pr _ (Hx3.out.mod Cx18.out (fun _ _ h => h)) (Hx11.out.mod Cx18.out (fun _ _ h => h)) (by intro k h1; have hb := HBR.out k h1; (try have := hm.size); omega) (by intro k h1; have hb := HBT.out k h1; (try have := hm.size); omega)) ?_
  intro v1_80 u1_80 hw hm
  have hv1_80 := hid hw
  clear hw
  have zu1_80 := hm.size
  have HMu1_80 := hid hm
  have Cx19 := hid (Cx18.out.goE hm)
  clear hm Cx18
  refine QSeq.pure rfl (.bool ((((((((((((x.kd == y.kd) && (x.fr == y.fr)) && (x.to == y.to)) && (eqb x.cm y.cm)) && (eqb x.st y.st)) && (eqb x.ce y.ce)) && (eqb x.ak y.ak)) && (x.ep == y.ep)) && (x.rn == y.rn)) && (((x.tm : Nat) : Int) == ((y.tm : Nat) : Int))) && (eqb x.pm y.pm)) && (eqb x.pr y.pr))) (fun E => ex_pickE rfl (E.d 75 5) rfl rfl (and_val fun hb => (E.q 80 0 hv1_80.out).1 hb)) ?_
  refine QSeq.pure rfl _ (fun E => ex_move rfl (E.d 81 0)) ?_
  refine QSeq.may (b := ((((((((((((x.kd == y.kd) && (x.fr == y.fr)) && (x.to == y.to)) && (eqb x.cm y.cm)) && (eqb x.st y.st)) && (eqb x.ce y.ce)) && (eqb x.ak y.ak)) && (x.ep == y.ep)) && (x.rn == y.rn)) && (((x.tm : Nat) : Int) == ((y.tm : Nat) : Int))) && (eqb x.pm y.pm)) && (eqb x.pr y.pr))) rfl (.pointer (some ⟨w.heap.size, 174, none⟩)) (fun E => ((wanted_of rfl rfl (E.sz 87 (by decide)) (E.d 82 0)).trans (beq_t _))) (fun E hb => ex_field rfl Try.underlying109 rfl (by kernel_rfl) (E.v oe2)) ?_
  intro v1_83 hw
  have hv1_83 := hid hw
  clear hw
  refine QSeq.may (b := ((((((((((((x.kd == y.kd) && (x.fr == y.fr)) && (x.to == y.to)) && (eqb x.cm y.cm)) && (eqb x.st y.st)) && (eqb x.ce y.ce)) && (eqb x.ak y.ak)) && (x.ep == y.ep)) && (x.rn == y.rn)) && (((x.tm : Nat) : Int) == ((y.tm : Nat) : Int))) && (eqb x.pm y.pm)) && (eqb x.pr y.pr))) rfl (.agg (x.vt.cells).toArray) (fun E => ((wanted_of rfl rfl (E.sz 87 (by decide)) (E.d 82 1)).trans (beq_t _))) (fun E hb => ex_loadA rfl Try.underlying98 rfl (off := 174) (cs := (x.vt.cells)) (by rw [Vt.len HOKx.out.vt]; kernel_rfl) ((E.q 83 0 hv1_83.out).1 hb) (Cs.seg (HB2.out.mod Cx19.out (fun h => h)) HLNx.out 12 rfl rfl)) ?_
  intro v1_84 hw
  have hv1_84 := hid hw
  clear hw
  refine QSeq.may (b := ((((((((((((x.kd == y.kd) && (x.fr == y.fr)) && (x.to == y.to)) && (eqb x.cm y.cm)) && (eqb x.st y.st)) && (eqb x.ce y.ce)) && (eqb x.ak y.ak)) && (x.ep == y.ep)) && (x.rn == y.rn)) && (((x.tm : Nat) : Int) == ((y.tm : Nat) : Int))) && (eqb x.pm y.pm)) && (eqb x.pr y.pr))) rfl (.pointer (some ⟨w.heap.size + 1, 174, none⟩)) (fun E => ((wanted_of rfl rfl (E.sz 87 (by decide)) (E.d 82 2)).trans (beq_t _))) (fun E hb => ex_field rfl Try.underlying109 rfl (by kernel_rfl) (E.v oe3)) ?_
  intro v1_85 hw
  have hv1_85 := hid hw
  clear hw
  refine QSeq.may (b := ((((((((((((x.kd == y.kd) && (x.fr == y.fr)) && (x.to == y.to)) && (eqb x.cm y.cm)) && (eqb x.st y.st)) && (eqb x.ce y.ce)) && (eqb x.ak y.ak)) && (x.ep == y.ep)) && (x.rn == y.rn)) && (((x.tm : Nat) : Int) == ((y.tm : Nat) : Int))) && (eqb x.pm y.pm)) && (eqb x.pr y.pr))) rfl (.agg (y.vt.cells).toArray) (fun E => ((wanted_of rfl rfl (E.sz 87 (by decide)) (E.d 82 3)).trans (beq_t _))) (fun E hb => ex_loadA rfl Try.underlying98 rfl (off := 174) (cs := (y.vt.cells)) (by rw [Vt.len HOKy.out.vt]; kernel_rfl) ((E.q 85 0 hv1_85.out).1 hb) (Cs.seg (HB3.out.mod Cx19.out (fun h => h)) HLNy.out 12 rfl rfl)) ?_
  intro v1_86 hw
  have hv1_86 := hid hw
  clear hw
  refine QSeq.may (b := ((((((((((((x.kd == y.kd) && (x.fr == y.fr)) && (x.to == y.to)) && (eqb x.cm y.cm)) && (eqb x.st y.st)) && (eqb x.ce y.ce)) && (eqb x.ak y.ak)) && (x.ep == y.ep)) && (x.rn == y.rn)) && (((x.tm : Nat) : Int) == ((y.tm : Nat) : Int))) && (eqb x.pm y.pm)) && (eqb x.pr y.pr))) rfl (.bool (eqb x.vt y.vt)) (fun E => ((wanted_of rfl rfl (E.sz 87 (by decide)) (E.d 82 4)).trans (beq_t _))) (fun E hb => ex_binE rfl ((E.q 84 2 hv1_84.out).1 hb) ((E.q 86 0 hv1_86.out).1 hb) (agg_guardE _ _ _ _ _ _ (by kernel_rfl) _) (EqW.run eqW_vote (ki_vt HOKx.out.vt) (ki_vt HOKy.out.vt) (vt_iff HOKx.out.vt HOKy.out.vt) _) rfl) ?_
  intro v1_87 hw
  have hv1_87 := hid hw
  clear hw
  refine QSeq.pure rfl (.bool (((((((((((((x.kd == y.kd) && (x.fr == y.fr)) && (x.to == y.to)) && (eqb x.cm y.cm)) && (eqb x.st y.st)) && (eqb x.ce y.ce)) && (eqb x.ak y.ak)) && (x.ep == y.ep)) && (x.rn == y.rn)) && (((x.tm : Nat) : Int) == ((y.tm : Nat) : Int))) && (eqb x.pm y.pm)) && (eqb x.pr y.pr)) && (eqb x.vt y.vt))) (fun E => ex_pickE rfl (E.d 82 5) rfl rfl (and_val fun hb => (E.q 87 0 hv1_87.out).1 hb)) ?_
  refine QSeq.pure rfl _ (fun E => ex_move rfl (E.d 88 0)) ?_
  refine QSeq.may (b := (((((((((((((x.kd == y.kd) && (x.fr == y.fr)) && (x.to == y.to)) && (eqb x.cm y.cm)) && (eqb x.st y.st)) && (eqb x.ce y.ce)) && (eqb x.ak y.ak)) && (x.ep == y.ep)) && (x.rn == y.rn)) && (((x.tm : Nat) : Int) == ((y.tm : Nat) : Int))) && (eqb x.pm y.pm)) && (eqb x.pr y.pr)) && (eqb x.vt y.vt))) rfl (.pointer (some ⟨w.heap.size, 212, none⟩)) (fun E => ((wanted_of rfl rfl (E.sz 94 (by decide)) (E.d 89 0)).trans (beq_t _))) (fun E hb => ex_field rfl Try.underlying109 rfl (by kernel_rfl) (E.v oe2)) ?_
  intro v1_90 hw
  have hv1_90 := hid hw
  clear hw
  refine QSeq.may (b := (((((((((((((x.kd == y.kd) && (x.fr == y.fr)) && (x.to == y.to)) && (eqb x.cm y.cm)) && (eqb x.st y.st)) && (eqb x.ce y.ce)) && (eqb x.ak y.ak)) && (x.ep == y.ep)) && (x.rn == y.rn)) && (((x.tm : Nat) : Int) == ((y.tm : Nat) : Int))) && (eqb x.pm y.pm)) && (eqb x.pr y.pr)) && (eqb x.vt y.vt))) rfl (.int .i64 x.ix) (fun E => ((wanted_of rfl rfl (E.sz 94 (by decide)) (E.d 89 1)).trans (beq_t _))) (fun E hb => ex_load1 rfl Try.underlying3 rfl ((E.q 90 0 hv1_90.out).1 hb) (Cs.seg1 (HB2.out.mod Cx19.out (fun h => h)) HLNx.out 13 rfl (o := 212) (k := 0) rfl rfl rfl)) ?_
  intro v1_91 hw
  have hv1_91 := hid hw
  clear hw
  refine QSeq.may (b := (((((((((((((x.kd == y.kd) && (x.fr == y.fr)) && (x.to == y.to)) && (eqb x.cm y.cm)) && (eqb x.st y.st)) && (eqb x.ce y.ce)) && (eqb x.ak y.ak)) && (x.ep == y.ep)) && (x.rn == y.rn)) && (((x.tm : Nat) : Int) == ((y.tm : Nat) : Int))) && (eqb x.pm y.pm)) && (eqb x.pr y.pr)) && (eqb x.vt y.vt))) rfl (.pointer (some ⟨w.heap.size + 1, 212, none⟩)) (fun E => ((wanted_of rfl rfl (E.sz 94 (by decide)) (E.d 89 2)).trans (beq_t _))) (fun E hb => ex_field rfl Try.underlying109 rfl (by kernel_rfl) (E.v oe3)) ?_
  intro v1_92 hw
  have hv1_92 := hid hw
  clear hw
  refine QSeq.may (b := (((((((((((((x.kd == y.kd) && (x.fr == y.fr)) && (x.to == y.to)) && (eqb x.cm y.cm)) && (eqb x.st y.st)) && (eqb x.ce y.ce)) && (eqb x.ak y.ak)) && (x.ep == y.ep)) && (x.rn == y.rn)) && (((x.tm : Nat) : Int) == ((y.tm : Nat) : Int))) && (eqb x.pm y.pm)) && (eqb x.pr y.pr)) && (eqb x.vt y.vt))) rfl (.int .i64 y.ix) (fun E => ((wanted_of rfl rfl (E.sz 94 (by decide)) (E.d 89 3)).trans (beq_t _))) (fun E hb => ex_load1 rfl Try.underlying3 rfl ((E.q 92 0 hv1_92.out).1 hb) (Cs.seg1 (HB3.out.mod Cx19.out (fun h => h)) HLNy.out 13 rfl (o := 212) (k := 0) rfl rfl rfl)) ?_
  intro v1_93 hw
  have hv1_93 := hid hw
  clear hw
  refine QSeq.may (b := (((((((((((((x.kd == y.kd) && (x.fr == y.fr)) && (x.to == y.to)) && (eqb x.cm y.cm)) && (eqb x.st y.st)) && (eqb x.ce y.ce)) && (eqb x.ak y.ak)) && (x.ep == y.ep)) && (x.rn == y.rn)) && (((x.tm : Nat) : Int) == ((y.tm : Nat) : Int))) && (eqb x.pm y.pm)) && (eqb x.pr y.pr)) && (eqb x.vt y.vt))) rfl (.bool (x.ix == y.ix)) (fun E => ((wanted_of rfl rfl (E.sz 94 (by decide)) (E.d 89 4)).trans (beq_t _))) (fun E hb => ex_bin rfl ((E.q 91 2 hv1_91.out).1 hb) ((E.q 93 0 hv1_93.out).1 hb) (guard_ints _ _ _ _ _ _) (run_eql_i _ _ _ Try.underlying3)) ?_
  intro v1_94 hw
  have hv1_94 := hid hw
  clear hw
  refine QSeq.pure rfl (.bool ((((((((((((((x.kd == y.kd) && (x.fr == y.fr)) && (x.to == y.to)) && (eqb x.cm y.cm)) && (eqb x.st y.st)) && (eqb x.ce y.ce)) && (eqb x.ak y.ak)) && (x.ep == y.ep)) && (x.rn == y.rn)) && (((x.tm : Nat) : Int) == ((y.tm : Nat) : Int))) && (eqb x.pm y.pm)) && (eqb x.pr y.pr)) && (eqb x.vt y.vt)) && (x.ix == y.ix))) (fun E => ex_pickE rfl (E.d 89 5) rfl rfl (and_val fun hb => (E.q 94 0 hv1_94.out).1 hb)) ?_
  refine QSeq.pure rfl _ (fun E => ex_move rfl (E.d 95 0)) ?_
  refine QSeq.may (b := ((((((((((((((x.kd == y.kd) && (x.fr == y.fr)) && (x.to == y.to)) && (eqb x.cm y.cm)) && (eqb x.st y.st)) && (eqb x.ce y.ce)) && (eqb x.ak y.ak)) && (x.ep == y.ep)) && (x.rn == y.rn)) && (((x.tm : Nat) : Int) == ((y.tm : Nat) : Int))) && (eqb x.pm y.pm)) && (eqb x.pr y.pr)) && (eqb x.vt y.vt)) && (x.ix == y.ix))) rfl (.pointer (some ⟨w.heap.size, 213, none⟩)) (fun E => ((wanted_of rfl rfl (E.sz 101 (by decide)) (E.d 96 0)).trans (beq_t _))) (fun E hb => ex_field rfl Try.underlying109 rfl (by kernel_rfl) (E.v oe2)) ?_
  intro v1_97 hw
  have hv1_97 := hid hw
  clear hw
  refine QSeq.may (b := ((((((((((((((x.kd == y.kd) && (x.fr == y.fr)) && (x.to == y.to)) && (eqb x.cm y.cm)) && (eqb x.st y.st)) && (eqb x.ce y.ce)) && (eqb x.ak y.ak)) && (x.ep == y.ep)) && (x.rn == y.rn)) && (((x.tm : Nat) : Int) == ((y.tm : Nat) : Int))) && (eqb x.pm y.pm)) && (eqb x.pr y.pr)) && (eqb x.vt y.vt)) && (x.ix == y.ix))) rfl (.agg (x.en.cells).toArray) (fun E => ((wanted_of rfl rfl (E.sz 101 (by decide)) (E.d 96 1)).trans (beq_t _))) (fun E hb => ex_loadA rfl Try.underlying100 rfl (off := 213) (cs := (x.en.cells)) (by rw [En.len HOKx.out.en]; kernel_rfl) ((E.q 97 0 hv1_97.out).1 hb) (Cs.seg (HB2.out.mod Cx19.out (fun h => h)) HLNx.out 14 rfl rfl)) ?_
  intro v1_98 hw
  have hv1_98 := hid hw
  clear hw
  refine QSeq.may (b := ((((((((((((((x.kd == y.kd) && (x.fr == y.fr)) && (x.to == y.to)) && (eqb x.cm y.cm)) && (eqb x.st y.st)) && (eqb x.ce y.ce)) && (eqb x.ak y.ak)) && (x.ep == y.ep)) && (x.rn == y.rn)) && (((x.tm : Nat) : Int) == ((y.tm : Nat) : Int))) && (eqb x.pm y.pm)) && (eqb x.pr y.pr)) && (eqb x.vt y.vt)) && (x.ix == y.ix))) rfl (.pointer (some ⟨w.heap.size + 1, 213, none⟩)) (fun E => ((wanted_of rfl rfl (E.sz 101 (by decide)) (E.d 96 2)).trans (beq_t _))) (fun E hb => ex_field rfl Try.underlying109 rfl (by kernel_rfl) (E.v oe3)) ?_
  intro v1_99 hw
  have hv1_99 := hid hw
  clear hw
  refine QSeq.may (b := ((((((((((((((x.kd == y.kd) && (x.fr == y.fr)) && (x.to == y.to)) && (eqb x.cm y.cm)) && (eqb x.st y.st)) && (eqb x.ce y.ce)) && (eqb x.ak y.ak)) && (x.ep == y.ep)) && (x.rn == y.rn)) && (((x.tm : Nat) : Int) == ((y.tm : Nat) : Int))) && (eqb x.pm y.pm)) && (eqb x.pr y.pr)) && (eqb x.vt y.vt)) && (x.ix == y.ix))) rfl (.agg (y.en.cells).toArray) (fun E => ((wanted_of rfl rfl (E.sz 101 (by decide)) (E.d 96 3)).trans (beq_t _))) (fun E hb => ex_loadA rfl Try.underlying100 rfl (off := 213) (cs := (y.en.cells)) (by rw [En.len HOKy.out.en]; kernel_rfl) ((E.q 99 0 hv1_99.out).1 hb) (Cs.seg (HB3.out.mod Cx19.out (fun h => h)) HLNy.out 14 rfl rfl)) ?_
  intro v1_100 hw
  have hv1_100 := hid hw
  clear hw
  refine QSeq.may (b := ((((((((((((((x.kd == y.kd) && (x.fr == y.fr)) && (x.to == y.to)) && (eqb x.cm y.cm)) && (eqb x.st y.st)) && (eqb x.ce y.ce)) && (eqb x.ak y.ak)) && (x.ep == y.ep)) && (x.rn == y.rn)) && (((x.tm : Nat) : Int) == ((y.tm : Nat) : Int))) && (eqb x.pm y.pm)) && (eqb x.pr y.pr)) && (eqb x.vt y.vt)) && (x.ix == y.ix))) rfl (.bool (eqb x.en y.en)) (fun E => ((wanted_of rfl rfl (E.sz 101 (by decide)) (E.d 96 4)).trans (beq_t _))) (fun E hb => ex_binE rfl ((E.q 98 2 hv1_98.out).1 hb) ((E.q 100 0 hv1_100.out).1 hb) (agg_guardE _ _ _ _ _ _ (by kernel_rfl) _) (EqW.run eqW_entry (ki_en HOKx.out.en) (ki_en HOKy.out.en) (en_iff HOKx.out.en HOKy.out.en) _) rfl) ?_
  intro v1_101 hw
  have hv1_101 := hid hw
  clear hw
  refine QSeq.pure rfl (.bool (((((((((((((((x.kd == y.kd) && (x.fr == y.fr)) && (x.to == y.to)) && (eqb x.cm y.cm)) && (eqb x.st y.st)) && (eqb x.ce y.ce)) && (eqb x.ak y.ak)) && (x.ep == y.ep)) && (x.rn == y.rn)) && (((x.tm : Nat) : Int) == ((y.tm : Nat) : Int))) && (eqb x.pm y.pm)) && (eqb x.pr y.pr)) && (eqb x.vt y.vt)) && (x.ix == y.ix)) && (eqb x.en y.en))) (fun E => ex_pickE rfl (E.d 96 5) rfl rfl (and_val fun hb => (E.q 101 0 hv1_101.out).1 hb)) ?_
  refine QSeq.pure rfl _ (fun E => ex_move rfl (E.d 102 0)) ?_
  refine QSeq.may (b := (((((((((((((((x.kd == y.kd) && (x.fr == y.fr)) && (x.to == y.to)) && (eqb x.cm y.cm)) && (eqb x.st y.st)) && (eqb x.ce y.ce)) && (eqb x.ak y.ak)) && (x.ep == y.ep)) && (x.rn == y.rn)) && (((x.tm : Nat) : Int) == ((y.tm : Nat) : Int))) && (eqb x.pm y.pm)) && (eqb x.pr y.pr)) && (eqb x.vt y.vt)) && (x.ix == y.ix)) && (eqb x.en y.en))) rfl (.pointer (some ⟨w.heap.size, 248, none⟩)) (fun E => ((wanted_of rfl rfl (E.sz 108 (by decide)) (E.d 103 0)).trans (beq_t _))) (fun E hb => ex_field rfl Try.underlying109 rfl (by kernel_rfl) (E.v oe2)) ?_
  intro v1_104 hw
  have hv1_104 := hid hw
  clear hw
  refine QSeq.may (b := (((((((((((((((x.kd == y.kd) && (x.fr == y.fr)) && (x.to == y.to)) && (eqb x.cm y.cm)) && (eqb x.st y.st)) && (eqb x.ce y.ce)) && (eqb x.ak y.ak)) && (x.ep == y.ep)) && (x.rn == y.rn)) && (((x.tm : Nat) : Int) == ((y.tm : Nat) : Int))) && (eqb x.pm y.pm)) && (eqb x.pr y.pr)) && (eqb x.vt y.vt)) && (x.ix == y.ix)) && (eqb x.en y.en))) rfl (.agg (xc15).toArray) (fun E => ((wanted_of rfl rfl (E.sz 108 (by decide)) (E.d 103 1)).trans (beq_t _))) (fun E hb => ex_loadA rfl Try.underlying102 rfl (off := 248) (cs := (xc15)) (by rw [HCx15.out]; kernel_rfl) ((E.q 104 0 hv1_104.out).1 hb) (Cs.seg (HB2.out.mod Cx19.out (fun h => h)) HLNx.out 15 rfl rfl)) ?_
  intro v1_105 hw
  have hv1_105 := hid hw
  clear hw
  refine QSeq.may (b := (((((((((((((((x.kd == y.kd) && (x.fr == y.fr)) && (x.to == y.to)) && (eqb x.cm y.cm)) && (eqb x.st y.st)) && (eqb x.ce y.ce)) && (eqb x.ak y.ak)) && (x.ep == y.ep)) && (x.rn == y.rn)) && (((x.tm : Nat) : Int) == ((y.tm : Nat) : Int))) && (eqb x.pm y.pm)) && (eqb x.pr y.pr)) && (eqb x.vt y.vt)) && (x.ix == y.ix)) && (eqb x.en y.en))) rfl (.pointer (some ⟨w.heap.size + 1, 248, none⟩)) (fun E => ((wanted_of rfl rfl (E.sz 108 (by decide)) (E.d 103 2)).trans (beq_t _))) (fun E hb => ex_field rfl Try.underlying109 rfl (by kernel_rfl) (E.v oe3)) ?_
  intro v1_106 hw
  have hv1_106 := hid hw
  clear hw
  refine QSeq.may (b := (((((((((((((((x.kd == y.kd) && (x.fr == y.fr)) && (x.to == y.to)) && (eqb x.cm y.cm)) && (eqb x.st y.st)) && (eqb x.ce y.ce)) && (eqb x.ak y.ak)) && (x.ep == y.ep)) && (x.rn == y.rn)) && (((x.tm : Nat) : Int) == ((y.tm : Nat) : Int))) && (eqb x.pm y.pm)) && (eqb x.pr y.pr)) && (eqb x.vt y.vt)) && (x.ix == y.ix)) && (eqb x.en y.en))) rfl (.agg (yc15).toArray) (fun E => ((wanted_of rfl rfl (E.sz 108 (by decide)) (E.d 103 3)).trans (beq_t _))) (fun E hb => ex_loadA rfl Try.underlying102 rfl (off := 248) (cs := (yc15)) (by rw [HCy15.out]; kernel_rfl) ((E.q 106 0 hv1_106.out).1 hb) (Cs.seg (HB3.out.mod Cx19.out (fun h => h)) HLNy.out 15 rfl rfl)) ?_
  intro v1_107 hw
  have hv1_107 := hid hw
  clear hw
  refine QSeq.mayCall (b := (((((((((((((((x.kd == y.kd) && (x.fr == y.fr)) && (x.to == y.to)) && (eqb x.cm y.cm)) && (eqb x.st y.st)) && (eqb x.ce y.ce)) && (eqb x.ak y.ak)) && (x.ep == y.ep)) && (x.rn == y.rn)) && (((x.tm : Nat) : Int) == ((y.tm : Nat) : Int))) && (eqb x.pm y.pm)) && (eqb x.pr y.pr)) && (eqb x.vt y.vt)) && (x.ix == y.ix)) && (eqb x.en y.en))) rfl (.bool (eqb x.op y.op)) (args := #[.agg (xc15).toArray, .agg (yc15).toArray]) (fun E => ((wanted_of rfl rfl (E.sz 108 (by decide)) (E.d 103 4)).trans (beq_t _))) rfl Try.func58 (fun E hb => args2 ((E.q 105 2 hv1_105.out).1 hb) ((E.q 107 0 hv1_107.out).1 hb)) (fun hb => Eq_Op _ _ _ _ x.op y.op _ (Hx4.out.mod Cx19.out (fun _ _ h => h)) (Hx12.out.mod Cx19.out (fun _ _ h => h)) (by intro k h1; have hb := HBR.out k h1; (try have := hm.size); omega) (by intro k h1; have hb := HBT.out k h1; (try have := hm.size); omega)) ?_
  intro v1_108 u1_108 hw hm
  have hv1_108 := hid hw
  clear hw
  have zu1_108 := hm.size
  have HMu1_108 := hid hm
  have Cx20 := hid (Cx19.out.goE hm)
  clear hm Cx19
  refine QSeq.pure rfl (.bool ((((((((((((((((x.kd == y.kd) && (x.fr == y.fr)) && (x.to == y.to)) && (eqb x.cm y.cm)) && (eqb x.st y.st)) && (eqb x.ce y.ce)) && (eqb x.ak y.ak)) && (x.ep == y.ep)) && (x.rn == y.rn)) && (((x.tm : Nat) : Int) == ((y.tm : Nat) : Int))) && (eqb x.pm y.pm)) && (eqb x.pr y.pr)) && (eqb x.vt y.vt)) && (x.ix == y.ix)) && (eqb x.en y.en)) && (eqb x.op y.op))) (fun E => ex_pickE rfl (E.d 103 5) rfl rfl (and_val fun hb => (E.q 108 0 hv1_108.out).1 hb)) ?_
  refine QSeq.pure rfl _ (fun E => ex_move rfl (E.d 109 0)) ?_
  refine QSeq.may (b := ((((((((((((((((x.kd == y.kd) && (x.fr == y.fr)) && (x.to == y.to)) && (eqb x.cm y.cm)) && (eqb x.st y.st)) && (eqb x.ce y.ce)) && (eqb x.ak y.ak)) && (x.ep == y.ep)) && (x.rn == y.rn)) && (((x.tm : Nat) : Int) == ((y.tm : Nat) : Int))) && (eqb x.pm y.pm)) && (eqb x.pr y.pr)) && (eqb x.vt y.vt)) && (x.ix == y.ix)) && (eqb x.en y.en)) && (eqb x.op y.op))) rfl (.pointer (some ⟨w.heap.size, 282, none⟩)) (fun E => ((wanted_of rfl rfl (E.sz 115 (by decide)) (E.d 110 0)).trans (beq_t _))) (fun E hb => ex_field rfl Try.underlying109 rfl (by kernel_rfl) (E.v oe2)) ?_
  intro v1_111 hw
  have hv1_111 := hid hw
  clear hw
  refine QSeq.may (b := ((((((((((((((((x.kd == y.kd) && (x.fr == y.fr)) && (x.to == y.to)) && (eqb x.cm y.cm)) && (eqb x.st y.st)) && (eqb x.ce y.ce)) && (eqb x.ak y.ak)) && (x.ep == y.ep)) && (x.rn == y.rn)) && (((x.tm : Nat) : Int) == ((y.tm : Nat) : Int))) && (eqb x.pm y.pm)) && (eqb x.pr y.pr)) && (eqb x.vt y.vt)) && (x.ix == y.ix)) && (eqb x.en y.en)) && (eqb x.op y.op))) rfl (.agg (x.dn.cells).toArray) (fun E => ((wanted_of rfl rfl (E.sz 115 (by decide)) (E.d 110 1)).trans (beq_t _))) (fun E hb => ex_loadA rfl Try.underlying104 rfl (off := 282) (cs := (x.dn.cells)) (by kernel_rfl) ((E.q 111 0 hv1_111.out).1 hb) (Cs.seg (HB2.out.mod Cx20.out (fun h => h)) HLNx.out 16 rfl rfl)) ?_
  intro v1_112 hw
  have hv1_112 := hid hw
  clear hw
  refine QSeq.may (b := ((((((((((((((((x.kd == y.kd) && (x.fr == y.fr)) && (x.to == y.to)) && (eqb x.cm y.cm)) && (eqb x.st y.st)) && (eqb x.ce y.ce)) && (eqb x.ak y.ak)) && (x.ep == y.ep)) && (x.rn == y.rn)) && (((x.tm : Nat) : Int) == ((y.tm : Nat) : Int))) && (eqb x.pm y.pm)) && (eqb x.pr y.pr)) && (eqb x.vt y.vt)) && (x.ix == y.ix)) && (eqb x.en y.en)) && (eqb x.op y.op))) rfl (.pointer (some ⟨w.heap.size + 1, 282, none⟩)) (fun E => ((wanted_of rfl rfl (E.sz 115 (by decide)) (E.d 110 2)).trans (beq_t _))) (fun E hb => ex_field rfl Try.underlying109 rfl (by kernel_rfl) (E.v oe3)) ?_
  intro v1_113 hw
  have hv1_113 := hid hw
  clear hw
  refine QSeq.may (b := ((((((((((((((((x.kd == y.kd) && (x.fr == y.fr)) && (x.to == y.to)) && (eqb x.cm y.cm)) && (eqb x.st y.st)) && (eqb x.ce y.ce)) && (eqb x.ak y.ak)) && (x.ep == y.ep)) && (x.rn == y.rn)) && (((x.tm : Nat) : Int) == ((y.tm : Nat) : Int))) && (eqb x.pm y.pm)) && (eqb x.pr y.pr)) && (eqb x.vt y.vt)) && (x.ix == y.ix)) && (eqb x.en y.en)) && (eqb x.op y.op))) rfl (.agg (y.dn.cells).toArray) (fun E => ((wanted_of rfl rfl (E.sz 115 (by decide)) (E.d 110 3)).trans (beq_t _))) (fun E hb => ex_loadA rfl Try.underlying104 rfl (off := 282) (cs := (y.dn.cells)) (by kernel_rfl) ((E.q 113 0 hv1_113.out).1 hb) (Cs.seg (HB3.out.mod Cx20.out (fun h => h)) HLNy.out 16 rfl rfl)) ?_
  intro v1_114 hw
  have hv1_114 := hid hw
  clear hw
  refine QSeq.may (b := ((((((((((((((((x.kd == y.kd) && (x.fr == y.fr)) && (x.to == y.to)) && (eqb x.cm y.cm)) && (eqb x.st y.st)) && (eqb x.ce y.ce)) && (eqb x.ak y.ak)) && (x.ep == y.ep)) && (x.rn == y.rn)) && (((x.tm : Nat) : Int) == ((y.tm : Nat) : Int))) && (eqb x.pm y.pm)) && (eqb x.pr y.pr)) && (eqb x.vt y.vt)) && (x.ix == y.ix)) && (eqb x.en y.en)) && (eqb x.op y.op))) rfl (.bool (eqb x.dn y.dn)) (fun E => ((wanted_of rfl rfl (E.sz 115 (by decide)) (E.d 110 4)).trans (beq_t _))) (fun E hb => ex_binE rfl ((E.q 112 2 hv1_112.out).1 hb) ((E.q 114 0 hv1_114.out).1 hb) (agg_guardE _ _ _ _ _ _ (by kernel_rfl) _) (EqW.run eqW_deny (ki_dn _) (ki_dn _) (dn_iff HOKx.out.dn HOKy.out.dn) _) rfl) ?_
  intro v1_115 hw
  have hv1_115 := hid hw
  clear hw
  refine QSeq.pure rfl (.bool (((((((((((((((((x.kd == y.kd) && (x.fr == y.fr)) && (x.to == y.to)) && (eqb x.cm y.cm)) && (eqb x.st y.st)) && (eqb x.ce y.ce)) && (eqb x.ak y.ak)) && (x.ep == y.ep)) && (x.rn == y.rn)) && (((x.tm : Nat) : Int) == ((y.tm : Nat) : Int))) && (eqb x.pm y.pm)) && (eqb x.pr y.pr)) && (eqb x.vt y.vt)) && (x.ix == y.ix)) && (eqb x.en y.en)) && (eqb x.op y.op)) && (eqb x.dn y.dn))) (fun E => ex_pickE rfl (E.d 110 5) rfl rfl (and_val fun hb => (E.q 115 0 hv1_115.out).1 hb)) ?_
  refine QSeq.pure rfl _ (fun E => ex_move rfl (E.d 116 0)) ?_
  refine QSeq.may (b := (((((((((((((((((x.kd == y.kd) && (x.fr == y.fr)) && (x.to == y.to)) && (eqb x.cm y.cm)) && (eqb x.st y.st)) && (eqb x.ce y.ce)) && (eqb x.ak y.ak)) && (x.ep == y.ep)) && (x.rn == y.rn)) && (((x.tm : Nat) : Int) == ((y.tm : Nat) : Int))) && (eqb x.pm y.pm)) && (eqb x.pr y.pr)) && (eqb x.vt y.vt)) && (x.ix == y.ix)) && (eqb x.en y.en)) && (eqb x.op y.op)) && (eqb x.dn y.dn))) rfl (.pointer (some ⟨w.heap.size, 286, none⟩)) (fun E => ((wanted_of rfl rfl (E.sz 122 (by decide)) (E.d 117 0)).trans (beq_t _))) (fun E hb => ex_field rfl Try.underlying109 rfl (by kernel_rfl) (E.v oe2)) ?_
  intro v1_118 hw
  have hv1_118 := hid hw
  clear hw
  refine QSeq.may (b := (((((((((((((((((x.kd == y.kd) && (x.fr == y.fr)) && (x.to == y.to)) && (eqb x.cm y.cm)) && (eqb x.st y.st)) && (eqb x.ce y.ce)) && (eqb x.ak y.ak)) && (x.ep == y.ep)) && (x.rn == y.rn)) && (((x.tm : Nat) : Int) == ((y.tm : Nat) : Int))) && (eqb x.pm y.pm)) && (eqb x.pr y.pr)) && (eqb x.vt y.vt)) && (x.ix == y.ix)) && (eqb x.en y.en)) && (eqb x.op y.op)) && (eqb x.dn y.dn))) rfl (.string x.rp) (fun E => ((wanted_of rfl rfl (E.sz 122 (by decide)) (E.d 117 1)).trans (beq_t _))) (fun E hb => ex_load1 rfl Try.underlying9 rfl ((E.q 118 0 hv1_118.out).1 hb) (Cs.seg1 (HB2.out.mod Cx20.out (fun h => h)) HLNx.out 17 rfl (o := 286) (k := 0) rfl rfl rfl)) ?_
  intro v1_119 hw
  have hv1_119 := hid hw
  clear hw
  refine QSeq.may (b := (((((((((((((((((x.kd == y.kd) && (x.fr == y.fr)) && (x.to == y.to)) && (eqb x.cm y.cm)) && (eqb x.st y.st)) && (eqb x.ce y.ce)) && (eqb x.ak y.ak)) && (x.ep == y.ep)) && (x.rn == y.rn)) && (((x.tm : Nat) : Int) == ((y.tm : Nat) : Int))) && (eqb x.pm y.pm)) && (eqb x.pr y.pr)) && (eqb x.vt y.vt)) && (x.ix == y.ix)) && (eqb x.en y.en)) && (eqb x.op y.op)) && (eqb x.dn y.dn))) rfl (.pointer (some ⟨w.heap.size + 1, 286, none⟩)) (fun E => ((wanted_of rfl rfl (E.sz 122 (by decide)) (E.d 117 2)).trans (beq_t _))) (fun E hb => ex_field rfl Try.underlying109 rfl (by kernel_rfl) (E.v oe3)) ?_
  intro v1_120 hw
  have hv1_120 := hid hw
  clear hw
  refine QSeq.may (b := (((((((((((((((((x.kd == y.kd) && (x.fr == y.fr)) && (x.to == y.to)) && (eqb x.cm y.cm)) && (eqb x.st y.st)) && (eqb x.ce y.ce)) && (eqb x.ak y.ak)) && (x.ep == y.ep)) && (x.rn == y.rn)) && (((x.tm : Nat) : Int) == ((y.tm : Nat) : Int))) && (eqb x.pm y.pm)) && (eqb x.pr y.pr)) && (eqb x.vt y.vt)) && (x.ix == y.ix)) && (eqb x.en y.en)) && (eqb x.op y.op)) && (eqb x.dn y.dn))) rfl (.string y.rp) (fun E => ((wanted_of rfl rfl (E.sz 122 (by decide)) (E.d 117 3)).trans (beq_t _))) (fun E hb => ex_load1 rfl Try.underlying9 rfl ((E.q 120 0 hv1_120.out).1 hb) (Cs.seg1 (HB3.out.mod Cx20.out (fun h => h)) HLNy.out 17 rfl (o := 286) (k := 0) rfl rfl rfl)) ?_
  intro v1_121 hw
  have hv1_121 := hid hw
  clear hw
  refine QSeq.may (b := (((((((((((((((((x.kd == y.kd) && (x.fr == y.fr)) && (x.to == y.to)) && (eqb x.cm y.cm)) && (eqb x.st y.st)) && (eqb x.ce y.ce)) && (eqb x.ak y.ak)) && (x.ep == y.ep)) && (x.rn == y.rn)) && (((x.tm : Nat) : Int) == ((y.tm : Nat) : Int))) && (eqb x.pm y.pm)) && (eqb x.pr y.pr)) && (eqb x.vt y.vt)) && (x.ix == y.ix)) && (eqb x.en y.en)) && (eqb x.op y.op)) && (eqb x.dn y.dn))) rfl (.bool (eqb x.rp y.rp)) (fun E => ((wanted_of rfl rfl (E.sz 122 (by decide)) (E.d 117 4)).trans (beq_t _))) (fun E hb => ex_binE rfl ((E.q 119 2 hv1_119.out).1 hb) ((E.q 121 0 hv1_121.out).1 hb) (guard_strE _) (run_eql_strE _) rfl) ?_
  intro v1_122 hw
  have hv1_122 := hid hw
  clear hw
  refine QSeq.pure rfl (.bool ((((((((((((((((((x.kd == y.kd) && (x.fr == y.fr)) && (x.to == y.to)) && (eqb x.cm y.cm)) && (eqb x.st y.st)) && (eqb x.ce y.ce)) && (eqb x.ak y.ak)) && (x.ep == y.ep)) && (x.rn == y.rn)) && (((x.tm : Nat) : Int) == ((y.tm : Nat) : Int))) && (eqb x.pm y.pm)) && (eqb x.pr y.pr)) && (eqb x.vt y.vt)) && (x.ix == y.ix)) && (eqb x.en y.en)) && (eqb x.op y.op)) && (eqb x.dn y.dn)) && (eqb x.rp y.rp))) (fun E => ex_pickE rfl (E.d 117 5) rfl rfl (and_val fun hb => (E.q 122 0 hv1_122.out).1 hb)) ?_
  refine QSeq.pure rfl _ (fun E => ex_move rfl (E.d 123 0)) ?_
  refine QSeq.may (b := ((((((((((((((((((x.kd == y.kd) && (x.fr == y.fr)) && (x.to == y.to)) && (eqb x.cm y.cm)) && (eqb x.st y.st)) && (eqb x.ce y.ce)) && (eqb x.ak y.ak)) && (x.ep == y.ep)) && (x.rn == y.rn)) && (((x.tm : Nat) : Int) == ((y.tm : Nat) : Int))) && (eqb x.pm y.pm)) && (eqb x.pr y.pr)) && (eqb x.vt y.vt)) && (x.ix == y.ix)) && (eqb x.en y.en)) && (eqb x.op y.op)) && (eqb x.dn y.dn)) && (eqb x.rp y.rp))) rfl (.pointer (some ⟨w.heap.size, 287, none⟩)) (fun E => ((wanted_of rfl rfl (E.sz 129 (by decide)) (E.d 124 0)).trans (beq_t _))) (fun E hb => ex_field rfl Try.underlying109 rfl (by kernel_rfl) (E.v oe2)) ?_
  intro v1_125 hw
  have hv1_125 := hid hw
  clear hw
  refine QSeq.may (b := ((((((((((((((((((x.kd == y.kd) && (x.fr == y.fr)) && (x.to == y.to)) && (eqb x.cm y.cm)) && (eqb x.st y.st)) && (eqb x.ce y.ce)) && (eqb x.ak y.ak)) && (x.ep == y.ep)) && (x.rn == y.rn)) && (((x.tm : Nat) : Int) == ((y.tm : Nat) : Int))) && (eqb x.pm y.pm)) && (eqb x.pr y.pr)) && (eqb x.vt y.vt)) && (x.ix == y.ix)) && (eqb x.en y.en)) && (eqb x.op y.op)) && (eqb x.dn y.dn)) && (eqb x.rp y.rp))) rfl (.pointer (some ⟨w.heap.size, 287, none⟩)) (fun E => ((wanted_of rfl rfl (E.sz 129 (by decide)) (E.d 124 1)).trans (beq_t _))) (fun E hb => ex_field rfl Try.underlying107 rfl (by kernel_rfl) ((E.q 125 0 hv1_125.out).1 hb)) ?_
  intro v1_126 hw
  have hv1_126 := hid hw
  clear hw
  refine QSeq.may (b := ((((((((((((((((((x.kd == y.kd) && (x.fr == y.fr)) && (x.to == y.to)) && (eqb x.cm y.cm)) && (eqb x.st y.st)) && (eqb x.ce y.ce)) && (eqb x.ak y.ak)) && (x.ep == y.ep)) && (x.rn == y.rn)) && (((x.tm : Nat) : Int) == ((y.tm : Nat) : Int))) && (eqb x.pm y.pm)) && (eqb x.pr y.pr)) && (eqb x.vt y.vt)) && (x.ix == y.ix)) && (eqb x.en y.en)) && (eqb x.op y.op)) && (eqb x.dn y.dn)) && (eqb x.rp y.rp))) rfl (.int .i64 x.dc.ep) (fun E => ((wanted_of rfl rfl (E.sz 129 (by decide)) (E.d 124 2)).trans (beq_t _))) (fun E hb => ex_load1 rfl Try.underlying3 rfl ((E.q 126 0 hv1_126.out).1 hb) (Cs.seg1 (HB2.out.mod Cx20.out (fun h => h)) HLNx.out 18 rfl (o := 287) (k := 0) rfl rfl rfl)) ?_
  intro v1_127 hw
  have hv1_127 := hid hw
  clear hw
  refine QSeq.may (b := ((((((((((((((((((x.kd == y.kd) && (x.fr == y.fr)) && (x.to == y.to)) && (eqb x.cm y.cm)) && (eqb x.st y.st)) && (eqb x.ce y.ce)) && (eqb x.ak y.ak)) && (x.ep == y.ep)) && (x.rn == y.rn)) && (((x.tm : Nat) : Int) == ((y.tm : Nat) : Int))) && (eqb x.pm y.pm)) && (eqb x.pr y.pr)) && (eqb x.vt y.vt)) && (x.ix == y.ix)) && (eqb x.en y.en)) && (eqb x.op y.op)) && (eqb x.dn y.dn)) && (eqb x.rp y.rp))) rfl (.pointer (some ⟨w.heap.size + 1, 287, none⟩)) (fun E => ((wanted_of rfl rfl (E.sz 129 (by decide)) (E.d 124 3)).trans (beq_t _))) (fun E hb => ex_field rfl Try.underlying109 rfl (by kernel_rfl) (E.v oe3)) ?_
  intro v1_128 hw
  have hv1_128 := hid hw
  clear hw
  refine QSeq.may (b := ((((((((((((((((((x.kd == y.kd) && (x.fr == y.fr)) && (x.to == y.to)) && (eqb x.cm y.cm)) && (eqb x.st y.st)) && (eqb x.ce y.ce)) && (eqb x.ak y.ak)) && (x.ep == y.ep)) && (x.rn == y.rn)) && (((x.tm : Nat) : Int) == ((y.tm : Nat) : Int))) && (eqb x.pm y.pm)) && (eqb x.pr y.pr)) && (eqb x.vt y.vt)) && (x.ix == y.ix)) && (eqb x.en y.en)) && (eqb x.op y.op)) && (eqb x.dn y.dn)) && (eqb x.rp y.rp))) rfl (.pointer (some ⟨w.heap.size + 1, 287, none⟩)) (fun E => ((wanted_of rfl rfl (E.sz 129 (by decide)) (E.d 124 4)).trans (beq_t _))) (fun E hb => ex_field rfl Try.underlying107 rfl (by kernel_rfl) ((E.q 128 0 hv1_128.out).1 hb)) ?_
  intro v1_129 hw
  have hv1_129 := hid hw
  clear hw
  refine QSeq.may (b := ((((((((((((((((((x.kd == y.kd) && (x.fr == y.fr)) && (x.to == y.to)) && (eqb x.cm y.cm)) && (eqb x.st y.st)) && (eqb x.ce y.ce)) && (eqb x.ak y.ak)) && (x.ep == y.ep)) && (x.rn == y.rn)) && (((x.tm : Nat) : Int) == ((y.tm : Nat) : Int))) && (eqb x.pm y.pm)) && (eqb x.pr y.pr)) && (eqb x.vt y.vt)) && (x.ix == y.ix)) && (eqb x.en y.en)) && (eqb x.op y.op)) && (eqb x.dn y.dn)) && (eqb x.rp y.rp))) rfl (.int .i64 y.dc.ep) (fun E => ((wanted_of rfl rfl (E.sz 129 (by decide)) (E.d 124 5)).trans (beq_t _))) (fun E hb => ex_load1 rfl Try.underlying3 rfl ((E.q 129 0 hv1_129.out).1 hb) (Cs.seg1 (HB3.out.mod Cx20.out (fun h => h)) HLNy.out 18 rfl (o := 287) (k := 0) rfl rfl rfl)) ?_
  intro v1_130 hw
  have hv1_130 := hid hw
  clear hw
  refine QSeq.may (b := ((((((((((((((((((x.kd == y.kd) && (x.fr == y.fr)) && (x.to == y.to)) && (eqb x.cm y.cm)) && (eqb x.st y.st)) && (eqb x.ce y.ce)) && (eqb x.ak y.ak)) && (x.ep == y.ep)) && (x.rn == y.rn)) && (((x.tm : Nat) : Int) == ((y.tm : Nat) : Int))) && (eqb x.pm y.pm)) && (eqb x.pr y.pr)) && (eqb x.vt y.vt)) && (x.ix == y.ix)) && (eqb x.en y.en)) && (eqb x.op y.op)) && (eqb x.dn y.dn)) && (eqb x.rp y.rp))) rfl (.bool (x.dc.ep == y.dc.ep)) (fun E => ((wanted_of rfl rfl (E.sz 129 (by decide)) (E.d 124 6)).trans (beq_t _))) (fun E hb => ex_bin rfl ((E.q 127 3 hv1_127.out).1 hb) ((E.q 130 0 hv1_130.out).1 hb) (guard_ints _ _ _ _ _ _) (run_eql_i _ _ _ Try.underlying3)) ?_
  intro v1_131 hw
  have hv1_131 := hid hw
  clear hw
  refine QSeq.pure rfl (.bool (((((((((((((((((((x.kd == y.kd) && (x.fr == y.fr)) && (x.to == y.to)) && (eqb x.cm y.cm)) && (eqb x.st y.st)) && (eqb x.ce y.ce)) && (eqb x.ak y.ak)) && (x.ep == y.ep)) && (x.rn == y.rn)) && (((x.tm : Nat) : Int) == ((y.tm : Nat) : Int))) && (eqb x.pm y.pm)) && (eqb x.pr y.pr)) && (eqb x.vt y.vt)) && (x.ix == y.ix)) && (eqb x.en y.en)) && (eqb x.op y.op)) && (eqb x.dn y.dn)) && (eqb x.rp y.rp)) && (x.dc.ep == y.dc.ep))) (fun E => ex_pickE rfl (E.d 124 7) rfl rfl (and_val fun hb => (E.q 131 0 hv1_131.out).1 hb)) ?_
  refine QSeq.pure rfl _ (fun E => ex_move rfl (E.d 132 0)) ?_
  refine QSeq.may (b := (((((((((((((((((((x.kd == y.kd) && (x.fr == y.fr)) && (x.to == y.to)) && (eqb x.cm y.cm)) && (eqb x.st y.st)) && (eqb x.ce y.ce)) && (eqb x.ak y.ak)) && (x.ep == y.ep)) && (x.rn == y.rn)) && (((x.tm : Nat) : Int) == ((y.tm : Nat) : Int))) && (eqb x.pm y.pm)) && (eqb x.pr y.pr)) && (eqb x.vt y.vt)) && (x.ix == y.ix)) && (eqb x.en y.en)) && (eqb x.op y.op)) && (eqb x.dn y.dn)) && (eqb x.rp y.rp)) && (x.dc.ep == y.dc.ep))) rfl (.pointer (some ⟨w.heap.size, 287, none⟩)) (fun E => ((wanted_of rfl rfl (E.sz 138 (by decide)) (E.d 133 0)).trans (beq_t _))) (fun E hb => ex_field rfl Try.underlying109 rfl (by kernel_rfl) (E.v oe2)) ?_
  intro v1_134 hw
  have hv1_134 := hid hw
  clear hw
  refine QSeq.may (b := (((((((((((((((((((x.kd == y.kd) && (x.fr == y.fr)) && (x.to == y.to)) && (eqb x.cm y.cm)) && (eqb x.st y.st)) && (eqb x.ce y.ce)) && (eqb x.ak y.ak)) && (x.ep == y.ep)) && (x.rn == y.rn)) && (((x.tm : Nat) : Int) == ((y.tm : Nat) : Int))) && (eqb x.pm y.pm)) && (eqb x.pr y.pr)) && (eqb x.vt y.vt)) && (x.ix == y.ix)) && (eqb x.en y.en)) && (eqb x.op y.op)) && (eqb x.dn y.dn)) && (eqb x.rp y.rp)) && (x.dc.ep == y.dc.ep))) rfl (.pointer (some ⟨w.heap.size, 288, none⟩)) (fun E => ((wanted_of rfl rfl (E.sz 138 (by decide)) (E.d 133 1)).trans (beq_t _))) (fun E hb => ex_field rfl Try.underlying107 rfl (by kernel_rfl) ((E.q 134 0 hv1_134.out).1 hb)) ?_
  intro v1_135 hw
  have hv1_135 := hid hw
  clear hw
  refine QSeq.may (b := (((((((((((((((((((x.kd == y.kd) && (x.fr == y.fr)) && (x.to == y.to)) && (eqb x.cm y.cm)) && (eqb x.st y.st)) && (eqb x.ce y.ce)) && (eqb x.ak y.ak)) && (x.ep == y.ep)) && (x.rn == y.rn)) && (((x.tm : Nat) : Int) == ((y.tm : Nat) : Int))) && (eqb x.pm y.pm)) && (eqb x.pr y.pr)) && (eqb x.vt y.vt)) && (x.ix == y.ix)) && (eqb x.en y.en)) && (eqb x.op y.op)) && (eqb x.dn y.dn)) && (eqb x.rp y.rp)) && (x.dc.ep == y.dc.ep))) rfl (.int .i64 x.dc.rn) (fun E => ((wanted_of rfl rfl (E.sz 138 (by decide)) (E.d 133 2)).trans (beq_t _))) (fun E hb => ex_load1 rfl Try.underlying3 rfl ((E.q 135 0 hv1_135.out).1 hb) (Cs.seg1 (HB2.out.mod Cx20.out (fun h => h)) HLNx.out 18 rfl (o := 287) (k := 1) rfl rfl rfl)) ?_
  intro v1_136 hw
  have hv1_136 := hid hw
  clear hw
  refine QSeq.may (b := (((((((((((((((((((x.kd == y.kd) && (x.fr == y.fr)) && (x.to == y.to)) && (eqb x.cm y.cm)) && (eqb x.st y.st)) && (eqb x.ce y.ce)) && (eqb x.ak y.ak)) && (x.ep == y.ep)) && (x.rn == y.rn)) && (((x.tm : Nat) : Int) == ((y.tm : Nat) : Int))) && (eqb x.pm y.pm)) && (eqb x.pr y.pr)) && (eqb x.vt y.vt)) && (x.ix == y.ix)) && (eqb x.en y.en)) && (eqb x.op y.op)) && (eqb x.dn y.dn)) && (eqb x.rp y.rp)) && (x.dc.ep == y.dc.ep))) rfl (.pointer (some ⟨w.heap.size + 1, 287, none⟩)) (fun E => ((wanted_of rfl rfl (E.sz 138 (by decide)) (E.d 133 3)).trans (beq_t _))) (fun E hb => ex_field rfl Try.underlying109 rfl (by kernel_rfl) (E.v oe3)) ?_
  intro v1_137 hw
  have hv1_137 := hid hw
  clear hw
  refine QSeq.may (b := (((((((((((((((((((x.kd == y.kd) && (x.fr == y.fr)) && (x.to == y.to)) && (eqb x.cm y.cm)) && (eqb x.st y.st)) && (eqb x.ce y.ce)) && (eqb x.ak y.ak)) && (x.ep == y.ep)) && (x.rn == y.rn)) && (((x.tm : Nat) : Int) == ((y.tm : Nat) : Int))) && (eqb x.pm y.pm)) && (eqb x.pr y.pr)) && (eqb x.vt y.vt)) && (x.ix == y.ix)) && (eqb x.en y.en)) && (eqb x.op y.op)) && (eqb x.dn y.dn)) && (eqb x.rp y.rp)) && (x.dc.ep == y.dc.ep))) rfl (.pointer (some ⟨w.heap.size + 1, 288, none⟩)) (fun E => ((wanted_of rfl rfl (E.sz 138 (by decide)) (E.d 133 4)).trans (beq_t _))) (fun E hb => ex_field rfl Try.underlying107 rfl (by kernel_rfl) ((E.q 137 0 hv1_137.out).1 hb)) ?_
  intro v1_138 hw
  have hv1_138 := hid hw
  clear hw
  refine QSeq.may (b := (((((((((((((((((((x.kd == y.kd) && (x.fr == y.fr)) && (x.to == y.to)) && (eqb x.cm y.cm)) && (eqb x.st y.st)) && (eqb x.ce y.ce)) && (eqb x.ak y.ak)) && (x.ep == y.ep)) && (x.rn == y.rn)) && (((x.tm : Nat) : Int) == ((y.tm : Nat) : Int))) && (eqb x.pm y.pm)) && (eqb x.pr y.pr)) && (eqb x.vt y.vt)) && (x.ix == y.ix)) && (eqb x.en y.en)) && (eqb x.op y.op)) && (eqb x.dn y.dn)) && (eqb x.rp y.rp)) && (x.dc.ep == y.dc.ep))) rfl (.int .i64 y.dc.rn) (fun E => ((wanted_of rfl rfl (E.sz 138 (by decide)) (E.d 133 5)).trans (beq_t _))) (fun E hb => ex_load1 rfl Try.underlying3 rfl ((E.q 138 0 hv1_138.out).1 hb) (Cs.seg1 (HB3.out.mod Cx20.out (fun h => h)) HLNy.out 18 rfl (o := 287) (k := 1) rfl rfl rfl)) ?_
  intro v1_139 hw
  have hv1_139 := hid hw
  clear hw
  refine QSeq.may (b := (((((((((((((((((((x.kd == y.kd) && (x.fr == y.fr)) && (x.to == y.to)) && (eqb x.cm y.cm)) && (eqb x.st y.st)) && (eqb x.ce y.ce)) && (eqb x.ak y.ak)) && (x.ep == y.ep)) && (x.rn == y.rn)) && (((x.tm : Nat) : Int) == ((y.tm : Nat) : Int))) && (eqb x.pm y.pm)) && (eqb x.pr y.pr)) && (eqb x.vt y.vt)) && (x.ix == y.ix)) && (eqb x.en y.en)) && (eqb x.op y.op)) && (eqb x.dn y.dn)) && (eqb x.rp y.rp)) && (x.dc.ep == y.dc.ep))) rfl (.bool (x.dc.rn == y.dc.rn)) (fun E => ((wanted_of rfl rfl (E.sz 138 (by decide)) (E.d 133 6)).trans (beq_t _))) (fun E hb => ex_bin rfl ((E.q 136 3 hv1_136.out).1 hb) ((E.q 139 0 hv1_139.out).1 hb) (guard_ints _ _ _ _ _ _) (run_eql_i _ _ _ Try.underlying3)) ?_
  intro v1_140 hw
  have hv1_140 := hid hw
  clear hw
  refine QSeq.pure rfl (.bool ((((((((((((((((((((x.kd == y.kd) && (x.fr == y.fr)) && (x.to == y.to)) && (eqb x.cm y.cm)) && (eqb x.st y.st)) && (eqb x.ce y.ce)) && (eqb x.ak y.ak)) && (x.ep == y.ep)) && (x.rn == y.rn)) && (((x.tm : Nat) : Int) == ((y.tm : Nat) : Int))) && (eqb x.pm y.pm)) && (eqb x.pr y.pr)) && (eqb x.vt y.vt)) && (x.ix == y.ix)) && (eqb x.en y.en)) && (eqb x.op y.op)) && (eqb x.dn y.dn)) && (eqb x.rp y.rp)) && (x.dc.ep == y.dc.ep)) && (x.dc.rn == y.dc.rn))) (fun E => ex_pickE rfl (E.d 133 7) rfl rfl (and_val fun hb => (E.q 140 0 hv1_140.out).1 hb)) ?_
  refine QSeq.pure rfl _ (fun E => ex_move rfl (E.d 141 0)) ?_
  refine QSeq.may (b := ((((((((((((((((((((x.kd == y.kd) && (x.fr == y.fr)) && (x.to == y.to)) && (eqb x.cm y.cm)) && (eqb x.st y.st)) && (eqb x.ce y.ce)) && (eqb x.ak y.ak)) && (x.ep == y.ep)) && (x.rn == y.rn)) && (((x.tm : Nat) : Int) == ((y.tm : Nat) : Int))) && (eqb x.pm y.pm)) && (eqb x.pr y.pr)) && (eqb x.vt y.vt)) && (x.ix == y.ix)) && (eqb x.en y.en)) && (eqb x.op y.op)) && (eqb x.dn y.dn)) && (eqb x.rp y.rp)) && (x.dc.ep == y.dc.ep)) && (x.dc.rn == y.dc.rn))) rfl (.pointer (some ⟨w.heap.size, 287, none⟩)) (fun E => ((wanted_of rfl rfl (E.sz 147 (by decide)) (E.d 142 0)).trans (beq_t _))) (fun E hb => ex_field rfl Try.underlying109 rfl (by kernel_rfl) (E.v oe2)) ?_
  intro v1_143 hw
  have hv1_143 := hid hw
  clear hw
  refine QSeq.may (b := ((((((((((((((((((((x.kd == y.kd) && (x.fr == y.fr)) && (x.to == y.to)) && (eqb x.cm y.cm)) && (eqb x.st y.st)) && (eqb x.ce y.ce)) && (eqb x.ak y.ak)) && (x.ep == y.ep)) && (x.rn == y.rn)) && (((x.tm : Nat) : Int) == ((y.tm : Nat) : Int))) && (eqb x.pm y.pm)) && (eqb x.pr y.pr)) && (eqb x.vt y.vt)) && (x.ix == y.ix)) && (eqb x.en y.en)) && (eqb x.op y.op)) && (eqb x.dn y.dn)) && (eqb x.rp y.rp)) && (x.dc.ep == y.dc.ep)) && (x.dc.rn == y.dc.rn))) rfl (.pointer (some ⟨w.heap.size, 289, none⟩)) (fun E => ((wanted_of rfl rfl (E.sz 147 (by decide)) (E.d 142 1)).trans (beq_t _))) (fun E hb => ex_field rfl Try.underlying107 rfl (by kernel_rfl) ((E.q 143 0 hv1_143.out).1 hb)) ?_
  intro v1_144 hw
  have hv1_144 := hid hw
  clear hw
  refine QSeq.may (b := ((((((((((((((((((((x.kd == y.kd) && (x.fr == y.fr)) && (x.to == y.to)) && (eqb x.cm y.cm)) && (eqb x.st y.st)) && (eqb x.ce y.ce)) && (eqb x.ak y.ak)) && (x.ep == y.ep)) && (x.rn == y.rn)) && (((x.tm : Nat) : Int) == ((y.tm : Nat) : Int))) && (eqb x.pm y.pm)) && (eqb x.pr y.pr)) && (eqb x.vt y.vt)) && (x.ix == y.ix)) && (eqb x.en y.en)) && (eqb x.op y.op)) && (eqb x.dn y.dn)) && (eqb x.rp y.rp)) && (x.dc.ep == y.dc.ep)) && (x.dc.rn == y.dc.rn))) rfl (.agg #[.int .i64 x.dc.ba.ep, .int .u64 (x.dc.ba.tm : Nat), Value.slice axdp x.dc.ba.ps.length kxdp, Value.slice axdo x.dc.ba.os.length kxdo, Value.slice axdt x.dc.ba.ts.length kxdt]) (fun E => ((wanted_of rfl rfl (E.sz 147 (by decide)) (E.d 142 2)).trans (beq_t _))) (fun E hb => ex_loadA rfl Try.underlying94 rfl (off := 289) (cs := [.int .i64 x.dc.ba.ep, .int .u64 (x.dc.ba.tm : Nat), Value.slice axdp x.dc.ba.ps.length kxdp, Value.slice axdo x.dc.ba.os.length kxdo, Value.slice axdt x.dc.ba.ts.length kxdt]) (by kernel_rfl) ((E.q 144 0 hv1_144.out).1 hb) (Cs.segA (HB2.out.mod Cx20.out (fun h => h)) HLNx.out 18 rfl (o := 287) (k := 2) rfl rfl rfl)) ?_
  intro v1_145 hw
  have hv1_145 := hid hw
  clear hw
  refine QSeq.may (b := ((((((((((((((((((((x.kd == y.kd) && (x.fr == y.fr)) && (x.to == y.to)) && (eqb x.cm y.cm)) && (eqb x.st y.st)) && (eqb x.ce y.ce)) && (eqb x.ak y.ak)) && (x.ep == y.ep)) && (x.rn == y.rn)) && (((x.tm : Nat) : Int) == ((y.tm : Nat) : Int))) && (eqb x.pm y.pm)) && (eqb x.pr y.pr)) && (eqb x.vt y.vt)) && (x.ix == y.ix)) && (eqb x.en y.en)) && (eqb x.op y.op)) && (eqb x.dn y.dn)) && (eqb x.rp y.rp)) && (x.dc.ep == y.dc.ep)) && (x.dc.rn == y.dc.rn))) rfl (.pointer (some ⟨w.heap.size + 1, 287, none⟩)) (fun E => ((wanted_of rfl rfl (E.sz 147 (by decide)) (E.d 142 3)).trans (beq_t _))) (fun E hb => ex_field rfl Try.underlying109 rfl (by kernel_rfl) (E.v oe3)) ?_
  intro v1_146 hw
  have hv1_146 := hid hw
  clear hw
  refine QSeq.may (b := ((((((((((((((((((((x.kd == y.kd) && (x.fr == y.fr)) && (x.to == y.to)) && (eqb x.cm y.cm)) && (eqb x.st y.st)) && (eqb x.ce y.ce)) && (eqb x.ak y.ak)) && (x.ep == y.ep)) && (x.rn == y.rn)) && (((x.tm : Nat) : Int) == ((y.tm : Nat) : Int))) && (eqb x.pm y.pm)) && (eqb x.pr y.pr)) && (eqb x.vt y.vt)) && (x.ix == y.ix)) && (eqb x.en y.en)) && (eqb x.op y.op)) && (eqb x.dn y.dn)) && (eqb x.rp y.rp)) && (x.dc.ep == y.dc.ep)) && (x.dc.rn == y.dc.rn))) rfl (.pointer (some ⟨w.heap.size + 1, 289, none⟩)) (fun E => ((wanted_of rfl rfl (E.sz 147 (by decide)) (E.d 142 4)).trans (beq_t _))) (fun E hb => ex_field rfl Try.underlying107 rfl (by kernel_rfl) ((E.q 146 0 hv1_146.out).1 hb)) ?_
  intro v1_147 hw
  have hv1_147 := hid hw
  clear hw
  refine QSeq.may (b := ((((((((((((((((((((x.kd == y.kd) && (x.fr == y.fr)) && (x.to == y.to)) && (eqb x.cm y.cm)) && (eqb x.st y.st)) && (eqb x.ce y.ce)) && (eqb x.ak y.ak)) && (x.ep == y.ep)) && (x.rn == y.rn)) && (((x.tm : Nat) : Int) == ((y.tm : Nat) : Int))) && (eqb x.pm y.pm)) && (eqb x.pr y.pr)) && (eqb x.vt y.vt)) && (x.ix == y.ix)) && (eqb x.en y.en)) && (eqb x.op y.op)) && (eqb x.dn y.dn)) && (eqb x.rp y.rp)) && (x.dc.ep == y.dc.ep)) && (x.dc.rn == y.dc.rn))) rfl (.agg #[.int .i64 y.dc.ba.ep, .int .u64 (y.dc.ba.tm : Nat), Value.slice aydp y.dc.ba.ps.length kydp, Value.slice aydo y.dc.ba.os.length kydo, Value.slice aydt y.dc.ba.ts.length kydt]) (fun E => ((wanted_of rfl rfl (E.sz 147 (by decide)) (E.d 142 5)).trans (beq_t _))) (fun E hb => ex_loadA rfl Try.underlying94 rfl (off := 289) (cs := [.int .i64 y.dc.ba.ep, .int .u64 (y.dc.ba.tm : Nat), Value.slice aydp y.dc.ba.ps.length kydp, Value.slice aydo y.dc.ba.os.length kydo, Value.slice aydt y.dc.ba.ts.length kydt]) (by kernel_rfl) ((E.q 147 0 hv1_147.out).1 hb) (Cs.segA (HB3.out.mod Cx20.out (fun h => h)) HLNy.out 18 rfl (o := 287) (k := 2) rfl rfl rfl)) ?_
  intro v1_148 hw
  have hv1_148 := hid hw
  clear hw
  refine QSeq.mayCall (b := ((((((((((((((((((((x.kd == y.kd) && (x.fr == y.fr)) && (x.to == y.to)) && (eqb x.cm y.cm)) && (eqb x.st y.st)) && (eqb x.ce y.ce)) && (eqb x.ak y.ak)) && (x.ep == y.ep)) && (x.rn == y.rn)) && (((x.tm : Nat) : Int) == ((y.tm : Nat) : Int))) && (eqb x.pm y.pm)) && (eqb x.pr y.pr)) && (eqb x.vt y.vt)) && (x.ix == y.ix)) && (eqb x.en y.en)) && (eqb x.op y.op)) && (eqb x.dn y.dn)) && (eqb x.rp y.rp)) && (x.dc.ep == y.dc.ep)) && (x.dc.rn == y.dc.rn))) rfl (.bool (eqb x.dc.ba y.dc.ba)) (args := #[.agg #[.int .i64 x.dc.ba.ep, .int .u64 (x.dc.ba.tm : Nat), Value.slice axdp x.dc.ba.ps.length kxdp, Value.slice axdo x.dc.ba.os.length kxdo, Value.slice axdt x.dc.ba.ts.length kxdt], .agg #[.int .i64 y.dc.ba.ep, .int .u64 (y.dc.ba.tm : Nat), Value.slice aydp y.dc.ba.ps.length kydp, Value.slice aydo y.dc.ba.os.length kydo, Value.slice aydt y.dc.ba.ts.length kydt]]) (fun E => ((wanted_of rfl rfl (E.sz 147 (by decide)) (E.d 142 6)).trans (beq_t _))) rfl Try.func59 (fun E hb => args2 ((E.q 145 3 hv1_145.out).1 hb) ((E.q 148 0 hv1_148.out).1 hb)) (fun hb => Eq_Ba R R2 _ _ x.dc.ba y.dc.ba _ ⟨_, _, _, rfl, HODx.out.2.2, (Hx5.out.mod Cx20.out (fun _ _ h => h)), (Hx6.out.mod Cx20.out (fun _ _ h => h)), (Hx7.out.mod Cx20.out (fun _ _ h => h))⟩ ⟨_, _, _, rfl, HODy.out.2.2, (Hx13.out.mod Cx20.out (fun _ _ h => h)), (Hx14.out.mod Cx20.out (fun _ _ h => h)), (Hx15.out.mod Cx20.out (fun _ _ h => h))⟩ (by intro k h1; have hb := HBR.out k h1; (try have := hm.size); omega) (by intro k h1; have hb := HBT.out k h1; (try have := hm.size); omega)) ?_
  intro v1_149 u1_149 hw hm
  have hv1_149 := hid hw
  clear hw
  have zu1_149 := hm.size
  have HMu1_149 := hid hm
  have Cx21 := hid (Cx20.out.goE hm)
  clear hm Cx20
  refine QSeq.pure rfl (.bool (((((((((((((((((((((x.kd == y.kd) && (x.fr == y.fr)) && (x.to == y.to)) && (eqb x.cm y.cm)) && (eqb x.st y.st)) && (eqb x.ce y.ce)) && (eqb x.ak y.ak)) && (x.ep == y.ep)) && (x.rn == y.rn)) && (((x.tm : Nat) : Int) == ((y.tm : Nat) : Int))) && (eqb x.pm y.pm)) && (eqb x.pr y.pr)) && (eqb x.vt y.vt)) && (x.ix == y.ix)) && (eqb x.en y.en)) && (eqb x.op y.op)) && (eqb x.dn y.dn)) && (eqb x.rp y.rp)) && (x.dc.ep == y.dc.ep)) && (x.dc.rn == y.dc.rn)) && (eqb x.dc.ba y.dc.ba))) (fun E => ex_pickE rfl (E.d 142 7) rfl rfl (and_val fun hb => (E.q 149 0 hv1_149.out).1 hb)) ?_
  refine QSeq.pure rfl _ (fun E => ex_move rfl (E.d 150 0)) ?_
  refine QSeq.may (b := (((((((((((((((((((((x.kd == y.kd) && (x.fr == y.fr)) && (x.to == y.to)) && (eqb x.cm y.cm)) && (eqb x.st y.st)) && (eqb x.ce y.ce)) && (eqb x.ak y.ak)) && (x.ep == y.ep)) && (x.rn == y.rn)) && (((x.tm : Nat) : Int) == ((y.tm : Nat) : Int))) && (eqb x.pm y.pm)) && (eqb x.pr y.pr)) && (eqb x.vt y.vt)) && (x.ix == y.ix)) && (eqb x.en y.en)) && (eqb x.op y.op)) && (eqb x.dn y.dn)) && (eqb x.rp y.rp)) && (x.dc.ep == y.dc.ep)) && (x.dc.rn == y.dc.rn)) && (eqb x.dc.ba y.dc.ba))) rfl (.pointer (some ⟨w.heap.size, 287, none⟩)) (fun E => ((wanted_of rfl rfl (E.sz 156 (by decide)) (E.d 151 0)).trans (beq_t _))) (fun E hb => ex_field rfl Try.underlying109 rfl (by kernel_rfl) (E.v oe2)) ?_
  intro v1_152 hw
  have hv1_152 := hid hw
  clear hw
  refine QSeq.may (b := (((((((((((((((((((((x.kd == y.kd) && (x.fr == y.fr)) && (x.to == y.to)) && (eqb x.cm y.cm)) && (eqb x.st y.st)) && (eqb x.ce y.ce)) && (eqb x.ak y.ak)) && (x.ep == y.ep)) && (x.rn == y.rn)) && (((x.tm : Nat) : Int) == ((y.tm : Nat) : Int))) && (eqb x.pm y.pm)) && (eqb x.pr y.pr)) && (eqb x.vt y.vt)) && (x.ix == y.ix)) && (eqb x.en y.en)) && (eqb x.op y.op)) && (eqb x.dn y.dn)) && (eqb x.rp y.rp)) && (x.dc.ep == y.dc.ep)) && (x.dc.rn == y.dc.rn)) && (eqb x.dc.ba y.dc.ba))) rfl (.pointer (some ⟨w.heap.size, 294, none⟩)) (fun E => ((wanted_of rfl rfl (E.sz 156 (by decide)) (E.d 151 1)).trans (beq_t _))) (fun E hb => ex_field rfl Try.underlying107 rfl (by kernel_rfl) ((E.q 152 0 hv1_152.out).1 hb)) ?_
  intro v1_153 hw
  have hv1_153 := hid hw
  clear hw
  refine QSeq.may (b := (((((((((((((((((((((x.kd == y.kd) && (x.fr == y.fr)) && (x.to == y.to)) && (eqb x.cm y.cm)) && (eqb x.st y.st)) && (eqb x.ce y.ce)) && (eqb x.ak y.ak)) && (x.ep == y.ep)) && (x.rn == y.rn)) && (((x.tm : Nat) : Int) == ((y.tm : Nat) : Int))) && (eqb x.pm y.pm)) && (eqb x.pr y.pr)) && (eqb x.vt y.vt)) && (x.ix == y.ix)) && (eqb x.en y.en)) && (eqb x.op y.op)) && (eqb x.dn y.dn)) && (eqb x.rp y.rp)) && (x.dc.ep == y.dc.ep)) && (x.dc.rn == y.dc.rn)) && (eqb x.dc.ba y.dc.ba))) rfl (.slice axdl x.dc.l.length kxdl) (fun E => ((wanted_of rfl rfl (E.sz 156 (by decide)) (E.d 151 2)).trans (beq_t _))) (fun E hb => ex_load1 rfl Try.underlying105 rfl ((E.q 153 0 hv1_153.out).1 hb) (Cs.seg1 (HB2.out.mod Cx21.out (fun h => h)) HLNx.out 18 rfl (o := 287) (k := 7) rfl rfl rfl)) ?_
  intro v1_154 hw
  have hv1_154 := hid hw
  clear hw
  refine QSeq.may (b := (((((((((((((((((((((x.kd == y.kd) && (x.fr == y.fr)) && (x.to == y.to)) && (eqb x.cm y.cm)) && (eqb x.st y.st)) && (eqb x.ce y.ce)) && (eqb x.ak y.ak)) && (x.ep == y.ep)) && (x.rn == y.rn)) && (((x.tm : Nat) : Int) == ((y.tm : Nat) : Int))) && (eqb x.pm y.pm)) && (eqb x.pr y.pr)) && (eqb x.vt y.vt)) && (x.ix == y.ix)) && (eqb x.en y.en)) && (eqb x.op y.op)) && (eqb x.dn y.dn)) && (eqb x.rp y.rp)) && (x.dc.ep == y.dc.ep)) && (x.dc.rn == y.dc.rn)) && (eqb x.dc.ba y.dc.ba))) rfl (.pointer (some ⟨w.heap.size + 1, 287, none⟩)) (fun E => ((wanted_of rfl rfl (E.sz 156 (by decide)) (E.d 151 3)).trans (beq_t _))) (fun E hb => ex_field rfl Try.underlying109 rfl (by kernel_rfl) (E.v oe3)) ?_
  intro v1_155 hw
  have hv1_155 := hid hw
  clear hw
  refine QSeq.may (b := (((((((((((((((((((((x.kd == y.kd) && (x.fr == y.fr)) && (x.to == y.to)) && (eqb x.cm y.cm)) && (eqb x.st y.st)) && (eqb x.ce y.ce)) && (eqb x.ak y.ak)) && (x.ep == y.ep)) && (x.rn == y.rn)) && (((x.tm : Nat) : Int) == ((y.tm : Nat) : Int))) && (eqb x.pm y.pm)) && (eqb x.pr y.pr)) && (eqb x.vt y.vt)) && (x.ix == y.ix)) && (eqb x.en y.en)) && (eqb x.op y.op)) && (eqb x.dn y.dn)) && (eqb x.rp y.rp)) && (x.dc.ep == y.dc.ep)) && (x.dc.rn == y.dc.rn)) && (eqb x.dc.ba y.dc.ba))) rfl (.pointer (some ⟨w.heap.size + 1, 294, none⟩)) (fun E => ((wanted_of rfl rfl (E.sz 156 (by decide)) (E.d 151 4)).trans (beq_t _))) (fun E hb => ex_field rfl Try.underlying107 rfl (by kernel_rfl) ((E.q 155 0 hv1_155.out).1 hb)) ?_
  intro v1_156 hw
  have hv1_156 := hid hw
  clear hw
  refine QSeq.may (b := (((((((((((((((((((((x.kd == y.kd) && (x.fr == y.fr)) && (x.to == y.to)) && (eqb x.cm y.cm)) && (eqb x.st y.st)) && (eqb x.ce y.ce)) && (eqb x.ak y.ak)) && (x.ep == y.ep)) && (x.rn == y.rn)) && (((x.tm : Nat) : Int) == ((y.tm : Nat) : Int))) && (eqb x.pm y.pm)) && (eqb x.pr y.pr)) && (eqb x.vt y.vt)) && (x.ix == y.ix)) && (eqb x.en y.en)) && (eqb x.op y.op)) && (eqb x.dn y.dn)) && (eqb x.rp y.rp)) && (x.dc.ep == y.dc.ep)) && (x.dc.rn == y.dc.rn)) && (eqb x.dc.ba y.dc.ba))) rfl (.slice aydl y.dc.l.length kydl) (fun E => ((wanted_of rfl rfl (E.sz 156 (by decide)) (E.d 151 5)).trans (beq_t _))) (fun E hb => ex_load1 rfl Try.underlying105 rfl ((E.q 156 0 hv1_156.out).1 hb) (Cs.seg1 (HB3.out.mod Cx21.out (fun h => h)) HLNy.out 18 rfl (o := 287) (k := 7) rfl rfl rfl)) ?_
  intro v1_157 hw
  have hv1_157 := hid hw
  clear hw
  refine QSeq.mayCall (b := (((((((((((((((((((((x.kd == y.kd) && (x.fr == y.fr)) && (x.to == y.to)) && (eqb x.cm y.cm)) && (eqb x.st y.st)) && (eqb x.ce y.ce)) && (eqb x.ak y.ak)) && (x.ep == y.ep)) && (x.rn == y.rn)) && (((x.tm : Nat) : Int) == ((y.tm : Nat) : Int))) && (eqb x.pm y.pm)) && (eqb x.pr y.pr)) && (eqb x.vt y.vt)) && (x.ix == y.ix)) && (eqb x.en y.en)) && (eqb x.op y.op)) && (eqb x.dn y.dn)) && (eqb x.rp y.rp)) && (x.dc.ep == y.dc.ep)) && (x.dc.rn == y.dc.rn)) && (eqb x.dc.ba y.dc.ba))) rfl (.bool (eqb x.dc.l y.dc.l)) (args := #[.slice axdl x.dc.l.length kxdl, .slice aydl y.dc.l.length kydl]) (fun E => ((wanted_of rfl rfl (E.sz 156 (by decide)) (E.d 151 6)).trans (beq_t _))) rfl Try.func60 (fun E hb => args2 ((E.q 154 3 hv1_154.out).1 hb) ((E.q 157 0 hv1_157.out).1 hb)) (fun hb => EqL_Vt _ _ _ _ _ _ _ (Hx8.out.mod Cx21.out (fun _ _ h => h)) (Hx16.out.mod Cx21.out (fun _ _ h => h)) (by intro k h1; have hb := HBR.out k h1; (try have := hm.size); omega) (by intro k h1; have hb := HBT.out k h1; (try have := hm.size); omega)) ?_
  intro v1_158 u1_158 hw hm
  have hv1_158 := hid hw
  clear hw
  have zu1_158 := hm.size
  have HMu1_158 := hid hm
  have Cx22 := hid (Cx21.out.goE hm)
  clear hm Cx21
  refine QSeq.pure rfl (.bool ((((((((((((((((((((((x.kd == y.kd) && (x.fr == y.fr)) && (x.to == y.to)) && (eqb x.cm y.cm)) && (eqb x.st y.st)) && (eqb x.ce y.ce)) && (eqb x.ak y.ak)) && (x.ep == y.ep)) && (x.rn == y.rn)) && (((x.tm : Nat) : Int) == ((y.tm : Nat) : Int))) && (eqb x.pm y.pm)) && (eqb x.pr y.pr)) && (eqb x.vt y.vt)) && (x.ix == y.ix)) && (eqb x.en y.en)) && (eqb x.op y.op)) && (eqb x.dn y.dn)) && (eqb x.rp y.rp)) && (x.dc.ep == y.dc.ep)) && (x.dc.rn == y.dc.rn)) && (eqb x.dc.ba y.dc.ba)) && (eqb x.dc.l y.dc.l))) (fun E => ex_pickE rfl (E.d 151 7) rfl rfl (and_val fun hb => (E.q 158 0 hv1_158.out).1 hb)) ?_
  refine QSeq.pure rfl _ (fun E => ex_assign rfl (E.d 159 0)) ?_
  clear HMu1_73 HMu1_80 HMu1_108 HMu1_149 HMu1_158 hv1_6 hv1_7 hv1_8 hv1_9 hv1_10 hv1_13 hv1_14 hv1_15 hv1_16 hv1_17 hv1_20 hv1_21 hv1_22 hv1_23 hv1_24 hv1_27 hv1_28 hv1_29 hv1_30 hv1_31 hv1_34 hv1_35 hv1_36 hv1_37 hv1_38 hv1_41 hv1_42 hv1_43 hv1_44 hv1_45 hv1_48 hv1_49 hv1_50 hv1_51 hv1_52 hv1_55 hv1_56 hv1_57 hv1_58 hv1_59 hv1_62 hv1_63 hv1_64 hv1_65 hv1_66 hv1_69 hv1_70 hv1_71 hv1_72 hv1_73 hv1_76 hv1_77 hv1_78 hv1_79 hv1_80 hv1_83 hv1_84 hv1_85 hv1_86 hv1_87 hv1_90 hv1_91 hv1_92 hv1_93 hv1_94 hv1_97 hv1_98 hv1_99 hv1_100 hv1_101 hv1_104 hv1_105 hv1_106 hv1_107 hv1_108 hv1_111 hv1_112 hv1_113 hv1_114 hv1_115 hv1_118 hv1_119 hv1_120 hv1_121 hv1_122 hv1_125 hv1_126 hv1_127 hv1_128 hv1_129 hv1_130 hv1_131 hv1_134 hv1_135 hv1_136 hv1_137 hv1_138 hv1_139 hv1_140 hv1_143 hv1_144 hv1_145 hv1_146 hv1_147 hv1_148 hv1_149 hv1_152 hv1_153 hv1_154 hv1_155 hv1_156 hv1_157 hv1_158
  refine QSeq.nil (t' := [_, _, _, _, _, _, _, _, _, _, _, _, _, _, _, _, _, _, _, _, _, _, _, _, _, _, _, _, _, _, _, _, _, _, _, _, _, _, _, _, _, _, _, _, _, _, _, _, _, _, _, _, _, _, _, _, _, _, _, _, _, _, _, _, _, _, _, _, _, _, _, _, _, _, _, _, _, _, _, _, _, _, _, _, _, _, _, _, _, _, _, _, _, _, _, _, _, _, _, _, _, _, _, _, _, _, _, _, _, _, _, _, _, _, _, _, _, _, _, _, _, _, _, _, _, _, _, _, _, _, _, _, _, _, _, _, _, _, _, _, _, _, _, _, _, _, _, _, _, _, _, _, _, _, _, _, _, _, _, _, _]) rfl ?_
  obtain rfl := HA0.out
  clear HA0 oe2 oe3
  simp only [pz, Act.put, List.setIfInBounds_toArray, List.set_cons_zero, List.set_cons_succ]
  go_wp2
  go_ret
  exact ⟨ret_bool (by rw []; exact mg_eqb x y), (HM0.out.trans Cx22.out (fun _ _ h => h.elim))⟩
end Go.Proofs.Ytpnikilkcifncaa

/- MsgUnlike: the walk. -/
namespace Go.Proofs.Ytpnikilkcifncaa
open Go Go.RowKit Go.Gv

set_option maxHeartbeats 8000000 in
theorem LUnlike_any (R2 : Nat → Prop) (a b : Mg) (ca cb : List Value) (k j : Int) (w : World) (ha : MgR.rd R2 w ca a) (hb : MgR.rd R2 w cb b) (hk : I64 k) (hj : I64 j) (hB2 : ∀ k, R2 k → k < w.heap.size) :
    Calls Try.prog 8 #[.agg ca.toArray, .agg cb.toArray, .int .i64 k, .int .i64 j] w fun e w' => e = .returned (.bool true) ∧ Mod (fun _ => False) w w' := by
  have HA := Lib.hid ha
  have HB := Lib.hid hb
  have HCA := hid (MgR.len ha)
  have HCB := hid (MgR.len hb)
  have HBT := Lib.hid hB2
  have HK := Lib.hid hk
  have HJ := Lib.hid hj
  clear ha hb hB2 hk hj
  go_enter Try.func8, Try.ntmps8
  go_upto_region 1 with (fail)
  obtain ⟨w1, hw1⟩ : ∃ zz, zz = ((w.alloc (.cells (ca : List Value).toArray 109)).alloc (.cells (cb : List Value).toArray 109)) := ⟨_, rfl⟩
  change Code.wp _ _ _ _ ((w.alloc (.cells (ca : List Value).toArray 109)).alloc (.cells (cb : List Value).toArray 109))
  rw [← hw1]
  have HB4 := hid (show Cs w1 (w.heap.size) (ca : List Value).toArray 109 by rw [hw1]; exact (Cs.new _ _ _).alloc _)
  have HB5 := hid (show Cs w1 (w.heap.size + 1) (cb : List Value).toArray 109 by rw [hw1]; exact Cs_newN _ _ _ (by simp))
  have hm : Mod (fun _ => False) w w1 := by rw [hw1]; exact ((Mod.refl _ _).alloc _).alloc _
  have HM0 := hid (show Mod (fun _ => False) w w1 from hm.mono (fun _ _ h => h.elim))
  have hs1 : w1.heap.size = w.heap.size + 2 := by rw [hw1]; simp
  have Hx1 := hid (HA.out.mod hm (fun _ _ h => h))
  clear HA
  have Hx2 := hid (HB.out.mod hm (fun _ _ h => h))
  clear HB
  clear hw1 hm
  obtain ⟨mX, hmX⟩ : ∃ z, z = tinyM a (within k 4) := ⟨_, rfl⟩
  obtain ⟨mY, hmY⟩ : ∃ z, z = tinyM b (within k 4) := ⟨_, rfl⟩
  obtain ⟨mZ, hmZ⟩ : ∃ z, z = tinyM a (within j 4) := ⟨_, rfl⟩
  have HEmX := Lib.hid hmX
  have HRmX : ∀ R w, MgR.rd R w (fC mX) mX := by rw [hmX]; exact fun R w => fC_rd (tiny_OK _ _) (tiny_flat _ _) R w
  have HPmX := hid (show packs mX = true by rw [hmX]; exact tiny_packs _ _)
  have HLmX := hid (show (packB mX).length ≤ 900000 by rw [hmX]; exact Nat.le_trans (tiny_len _ _) (by decide))
  have HQmX := Lib.hid HRmX
  have HOmX := hid (MgR.one (HRmX (fun _ => False) w))
  have HNmX := hid (show (fC mX).length = 295 from MgR.len (HRmX (fun _ => False) w))
  clear HRmX hmX
  have HEmY := Lib.hid hmY
  have HRmY : ∀ R w, MgR.rd R w (fC mY) mY := by rw [hmY]; exact fun R w => fC_rd (tiny_OK _ _) (tiny_flat _ _) R w
  have HPmY := hid (show packs mY = true by rw [hmY]; exact tiny_packs _ _)
  have HLmY := hid (show (packB mY).length ≤ 900000 by rw [hmY]; exact Nat.le_trans (tiny_len _ _) (by decide))
  have HQmY := Lib.hid HRmY
  have HOmY := hid (MgR.one (HRmY (fun _ => False) w))
  have HNmY := hid (show (fC mY).length = 295 from MgR.len (HRmY (fun _ => False) w))
  clear HRmY hmY
  have HEmZ := Lib.hid hmZ
  have HRmZ : ∀ R w, MgR.rd R w (fC mZ) mZ := by rw [hmZ]; exact fun R w => fC_rd (tiny_OK _ _) (tiny_flat _ _) R w
  have HPmZ := hid (show packs mZ = true by rw [hmZ]; exact tiny_packs _ _)
  have HLmZ := hid (show (packB mZ).length ≤ 900000 by rw [hmZ]; exact Nat.le_trans (tiny_len _ _) (by decide))
  have HQmZ := Lib.hid HRmZ
  have HOmZ := hid (MgR.one (HRmZ (fun _ => False) w))
  have HNmZ := hid (show (fC mZ).length = 295 from MgR.len (HRmZ (fun _ => False) w))
  clear HRmZ hmZ
  go_upto_region 1 with (fail)
  generalize ha0 : Act.mk _ _ = a0
  have oe2 : a0.eval (.tmp 2) = .int .i64 k := by rw [← ha0]; rfl
  have oe4 : a0.eval (.tmp 4) = .pointer (some ⟨w.heap.size, 0, none⟩) := by rw [← ha0]; rfl
  have oe5 : a0.eval (.tmp 5) = .pointer (some ⟨w.heap.size + 1, 0, none⟩) := by rw [← ha0]; rfl
  have hsz0 : a0.tmps.size = 77 := by rw [← ha0]; rfl
  have HA0 := hid ha0
  clear ha0
  refine wp_region_Q 77 hsz0 (by kernel_rfl) (by kernel_rfl) [19, 20, 21, 22, 23, 24, 9, 10, 85, 86] (by kernel_rfl) (by decide) (fun _ => False) (fun _ _ => False) (fun _ _ h => h) [qi (.agg ca.toArray), qi (.int .i64 k), qi (.agg (fC mX).toArray), qi (.agg cb.toArray), qi (.int .i64 k), qi (.agg (fC mY).toArray), qa, qa, qa, qa] ⟨qi_stable, qi_stable, qi_stable, qi_stable, qi_stable, qi_stable, qa_stable, qa_stable, qa_stable, qa_stable, trivial⟩ [] (by kernel_rfl) (by decide) (by kernel_rfl) [⟨6, 8, 109, (mg0C 0 0 0), 0, (fun t => (fC mX))⟩, ⟨7, 9, 109, (mg0C 0 0 0), 0, (fun t => (fC mY))⟩] (by kernel_rfl) (by intro r hr; simp only [List.mem_cons, List.not_mem_nil, or_false] at hr; rcases hr with rfl | rfl <;> exact ⟨by kernel_rfl, by kernel_rfl⟩) (by intro r hr; simp only [List.mem_cons, List.not_mem_nil, or_false] at hr; rcases hr with rfl | rfl <;> exact ⟨of_decide_eq_true (by kernel_rfl), of_decide_eq_true (by kernel_rfl)⟩) (by intro r hr; simp only [List.mem_cons, List.not_mem_nil, or_false] at hr; rcases hr with rfl | rfl <;> exact fun _ _ _ _ => ⟨trivial, trivial⟩) ⟨?_, ?_, ?_, ?_, ?_, ?_, ?_, ?_, ?_, ?_, trivial⟩ ?_
  · exact stq (fun E => ex_loadA rfl Try.underlying109 rfl (off := 0) (cs := ca) (by rw [HCA.out]; kernel_rfl) (E.v oe4) (Cs.whole (HB4.out.mod E.m.old (by intro h2; omega))))
  · exact stq (fun E => ex_move rfl (E.v oe2))
  · refine stepq_env rfl rfl rfl fun _ _ _ _ _ hm _ _ _ hd _ _ => ?_
    have h0 := hd ⟨0, .data⟩ (by simp) rfl _ rfl
    have h1 := hd ⟨1, .data⟩ (by simp) rfl _ rfl
    refine qe_callF (args := #[.agg ca.toArray, .int .i64 k]) rfl (wanted_none rfl) rfl Try.func28 (args2 h0 h1) (HEmX.out.symm ▸ tiny_Q R2 _ a k _ (Hx1.out.mod hm.old (by intro k h1 h2; have hb := HBT.out k h1; omega)) HK.out) ?_
    rintro e w2 ⟨rfl, hm2⟩
    exact ⟨_, rfl, QE.still hm2, rfl⟩
  · exact stq (fun E => ex_loadA rfl Try.underlying109 rfl (off := 0) (cs := cb) (by rw [HCB.out]; kernel_rfl) (E.v oe5) (Cs.whole (HB5.out.mod E.m.old (by intro h2; omega))))
  · exact stq (fun E => ex_move rfl (E.v oe2))
  · refine stepq_env rfl rfl rfl fun _ _ _ _ _ hm _ _ _ hd _ _ => ?_
    have h3 := hd ⟨3, .data⟩ (by simp) rfl _ rfl
    have h4 := hd ⟨4, .data⟩ (by simp) rfl _ rfl
    refine qe_callF (args := #[.agg cb.toArray, .int .i64 k]) rfl (wanted_none rfl) rfl Try.func28 (args2 h3 h4) (HEmY.out.symm ▸ tiny_Q R2 _ b k _ (Hx2.out.mod hm.old (by intro k h1 h2; have hb := HBT.out k h1; omega)) HK.out) ?_
    rintro e w2 ⟨rfl, hm2⟩
    exact ⟨_, rfl, QE.still hm2, rfl⟩
  · exact stepq_make rfl rfl ⟨rfl, rfl, by kernel_rfl, by kernel_rfl⟩
  · exact stepq_make rfl rfl ⟨rfl, rfl, by kernel_rfl, by kernel_rfl⟩
  · refine stepq_write rfl rfl rfl ⟨rfl, 9, (.tmp 21), rfl, by decide, rfl, by kernel_rfl, fun Z tr act w' hm hout hsz hd hpre => ?_⟩
    have h2 := hd ⟨2, .data⟩ (by simp) rfl _ rfl
    exact ⟨Nat.zero_le _, (by rw [show act.eval ((.tmp 21)) = _ from h2]; rfl), HNmX.out, HOmX.out⟩
  · refine stepq_write rfl rfl rfl ⟨rfl, 10, (.tmp 24), rfl, by decide, rfl, by kernel_rfl, fun Z tr act w' hm hout hsz hd hpre => ?_⟩
    have h5 := hd ⟨5, .data⟩ (by simp) rfl _ rfl
    exact ⟨Nat.zero_le _, (by rw [show act.eval ((.tmp 24)) = _ from h5]; rfl), HNmY.out, HOmY.out⟩
  intro u1_0 hr
  have zu1_0 := hr.size
  have Cx3 := hid (hr.new (S := (fun _ => False)))
  clear hr
  refine QChain.nil fun vs hl hzz hrows hne => ?_
  obtain ⟨Z, hYZ, hZb, hV⟩ := hzz
  obtain ⟨x9, g6, hBx9, hYx9, hCx9⟩ := hrows _ (by simp only [List.mem_cons, List.not_mem_nil, or_false]; exact Or.inl rfl)
  have f6 : gw vs 6 = _ := getv g6
  (try dsimp only at hBx9 hYx9); (try simp only [false_or] at hBx9 hYx9)
  have zqx9 := hCx9.lt
  have Hx4 := hid (show Cs u1_0 x9 ((fC mX) : List Value).toArray 109 from hCx9)
  obtain ⟨y9, g7, hBy9, hYy9, hCy9⟩ := hrows _ (by simp only [List.mem_cons, List.not_mem_nil, or_false]; exact Or.inr (rfl))
  have f7 : gw vs 7 = _ := getv g7
  (try dsimp only at hBy9 hYy9); (try simp only [false_or] at hBy9 hYy9)
  have zqy9 := hCy9.lt
  have Hx5 := hid (show Cs u1_0 y9 ((fC mY) : List Value).toArray 109 from hCy9)
  have nx9_y9 : x9 ≠ y9 := fun e => hne _ (by simp only [List.mem_cons, List.not_mem_nil, or_false]; exact Or.inl rfl) _ (by simp only [List.mem_cons, List.not_mem_nil, or_false]; exact Or.inr (rfl)) (show (6 : Nat) ≠ 7 by decide) (by subst e; exact g6.trans g7.symm)
  have f1 := fvi hV hl 1
  have f2 := fvi hV hl 2
  have f4 := fvi hV hl 4
  have f5 := fvi hV hl 5
  rw [show vs = [gw vs 0, gw vs 1, gw vs 2, gw vs 3, gw vs 4, gw vs 5, gw vs 6, gw vs 7, gw vs 8, gw vs 9] from (gw_eta hl).trans rfl]
  have ha0 := HA0.out
  subst ha0
  clear HA0 hV hYZ hZb hsz0 hrows hne oe2 oe4 oe5 hCx9 g6 hCy9 g7
  simp only [putAll, Act.put, List.setIfInBounds_toArray, List.set_cons_zero, List.set_cons_succ, List.set_nil, f6, f7, f1, f2, f4, f5]
  clear hl f6 f7 f1 f2 f4 f5
  go_upto_region 2 with (fail)
  refine wp_region_U 77 [26, 27, 25, 28, 29, 11, 12] [0, 1, 2, 3, 4, 5, 6] (fun a0 HA0 => ?_)
  have oe9 := ev HA0 9 rfl
  refine QSeq.pure rfl _ (fun E => ex_loadA rfl Try.underlying109 rfl (off := 0) (cs := (fC mX)) (by rw [HNmX.out]; kernel_rfl) (E.v oe9) (Cs.whole Hx4.out)) ?_
  refine QSeq.call rfl rfl Try.func29 (callsP HPmX.out (Pack_Q _ _ mX _ (HQmX.out (fun _ => False) _) (fun _ h => h.elim) HLmX.out)) (fun E => args1 (E.d 0 0)) ?_
  rintro e u2_1 ⟨vpx, rfl, qpx, hm⟩
  rw [HPmX.out] at qpx
  replace qpx := (show OwR _ _ _ _ (packB mX) from qpx)
  obtain ⟨aopx, cappx, rfl⟩ := qpx.shape
  refine ⟨_, rfl, ?_⟩
  have Hx6 := hid qpx
  have zu2_1 := hm.size
  have Cx7 := hid (show Mod (fun _ => False) u1_0 u2_1 from hm)
  clear hm
  clear qpx
  refine QSeq.pure rfl _ (fun E => ex_move rfl (E.d 1 0)) ?_
  refine QSeq.pure rfl (.slice aopx ((packB mX).length) cappx) (fun E => ex_extract rfl (E.d 2 0) rfl) ?_
  refine QSeq.pure rfl (.bool true) (fun E => ex_extract rfl (E.d 2 1) rfl) ?_
  refine QSeq.pure rfl _ (fun E => ex_assign rfl (E.d 3 1)) ?_
  refine QSeq.pure rfl _ (fun E => ex_assign rfl (E.d 4 1)) ?_
  refine QSeq.nil (t' := [_, _, _, _, _, _, _]) rfl ?_
  obtain rfl := HA0.out
  clear HA0 oe9
  simp only [pz, Act.put, List.setIfInBounds_toArray, List.set_cons_zero, List.set_cons_succ]
  go_upto_region 3 with (fail)
  refine wp_region_U 77 [31, 32, 30, 33, 34, 13, 14] [0, 1, 2, 3, 4, 5, 6] (fun a0 HA0 => ?_)
  have oe10 := ev HA0 10 rfl
  refine QSeq.pure rfl _ (fun E => ex_loadA rfl Try.underlying109 rfl (off := 0) (cs := (fC mY)) (by rw [HNmY.out]; kernel_rfl) (E.v oe10) (Cs.whole (Hx5.out.mod Cx7.out (fun h => h)))) ?_
  refine QSeq.call rfl rfl Try.func29 (callsP HPmY.out (Pack_Q _ _ mY _ (HQmY.out (fun _ => False) _) (fun _ h => h.elim) HLmY.out)) (fun E => args1 (E.d 0 0)) ?_
  rintro e u3_1 ⟨vpy, rfl, qpy, hm⟩
  rw [HPmY.out] at qpy
  replace qpy := (show OwR _ _ _ _ (packB mY) from qpy)
  obtain ⟨aopy, cappy, rfl⟩ := qpy.shape
  refine ⟨_, rfl, ?_⟩
  have Hx8 := hid qpy
  have zu3_1 := hm.size
  have Cx9 := hid (show Mod (fun _ => False) u2_1 u3_1 from hm)
  clear hm
  clear qpy
  refine QSeq.pure rfl _ (fun E => ex_move rfl (E.d 1 0)) ?_
  refine QSeq.pure rfl (.slice aopy ((packB mY).length) cappy) (fun E => ex_extract rfl (E.d 2 0) rfl) ?_
  refine QSeq.pure rfl (.bool true) (fun E => ex_extract rfl (E.d 2 1) rfl) ?_
  refine QSeq.pure rfl _ (fun E => ex_assign rfl (E.d 3 1)) ?_
  refine QSeq.pure rfl _ (fun E => ex_assign rfl (E.d 4 1)) ?_
  refine QSeq.nil (t' := [_, _, _, _, _, _, _]) rfl ?_
  obtain rfl := HA0.out
  clear HA0 oe10
  simp only [pz, Act.put, List.setIfInBounds_toArray, List.set_cons_zero, List.set_cons_succ]
  go_upto_region 4 with (fail)
  refine wp_region_U 77 [36, 37, 38, 39, 35, 40, 41, 15, 16] [0, 1, 2, 3, 4, 5, 6, 7, 8] (fun a0 HA0 => ?_)
  have oe3 := ev HA0 3 rfl
  have oe4 := ev HA0 4 rfl
  refine QSeq.pure rfl _ (fun E => ex_loadA rfl Try.underlying109 rfl (off := 0) (cs := ca) (by rw [HCA.out]; kernel_rfl) (E.v oe4) (Cs.whole (((HB4.out.mod Cx3.out (fun h => h)).mod Cx7.out (fun h => h)).mod Cx9.out (fun h => h)))) ?_
  refine QSeq.pure rfl _ (fun E => ex_move rfl (E.v oe3)) ?_
  refine QSeq.call rfl rfl Try.func28 (HEmZ.out.symm ▸ tiny_Q R2 _ a j _ (((Hx1.out.mod Cx3.out (fun _ _ h => h)).mod Cx7.out (fun _ _ h => h)).mod Cx9.out (fun _ _ h => h)) HJ.out) (fun E => args2 (E.d 0 1) (E.d 1 0)) ?_
  rintro e u4_2 ⟨rfl, hm⟩
  refine ⟨_, rfl, ?_⟩
  have zu4_2 := hm.size
  have Cx10 := hid (show Mod (fun _ => False) u3_1 u4_2 from hm)
  clear hm
  refine QSeq.call rfl rfl Try.func29 (callsP HPmZ.out (Pack_Q _ _ mZ _ (HQmZ.out (fun _ => False) _) (fun _ h => h.elim) HLmZ.out)) (fun E => args1 (E.d 2 0)) ?_
  rintro e u4_3 ⟨vpz, rfl, qpz, hm⟩
  rw [HPmZ.out] at qpz
  replace qpz := (show OwR _ _ _ _ (packB mZ) from qpz)
  obtain ⟨aopz, cappz, rfl⟩ := qpz.shape
  refine ⟨_, rfl, ?_⟩
  have Hx11 := hid qpz
  have zu4_3 := hm.size
  have HMu4_3 := hid hm
  have Cx12 := hid (Cx10.out.goE hm)
  clear hm Cx10
  clear qpz
  refine QSeq.pure rfl _ (fun E => ex_move rfl (E.d 3 0)) ?_
  refine QSeq.pure rfl (.slice aopz ((packB mZ).length) cappz) (fun E => ex_extract rfl (E.d 4 0) rfl) ?_
  refine QSeq.pure rfl (.bool true) (fun E => ex_extract rfl (E.d 4 1) rfl) ?_
  refine QSeq.pure rfl _ (fun E => ex_assign rfl (E.d 5 1)) ?_
  refine QSeq.pure rfl _ (fun E => ex_assign rfl (E.d 6 1)) ?_
  clear HMu4_3
  refine QSeq.nil (t' := [_, _, _, _, _, _, _, _, _]) rfl ?_
  obtain rfl := HA0.out
  clear HA0 oe3 oe4
  simp only [pz, Act.put, List.setIfInBounds_toArray, List.set_cons_zero, List.set_cons_succ]
  obtain ⟨bx, hbx⟩ : ∃ z, z = eqb mX mY := ⟨_, rfl⟩
  have HBX := Lib.hid hbx
  clear hbx
  go_upto_region 5 with (fail)
  refine wp_region_U 77 [42, 43, 44, 17] [0, 1, 2, 3] (fun a0 HA0 => ?_)
  have oe9 := ev HA0 9 rfl
  have oe10 := ev HA0 10 rfl
  refine QSeq.pure rfl _ (fun E => ex_loadA rfl Try.underlying109 rfl (off := 0) (cs := (fC mX)) (by rw [HNmX.out]; kernel_rfl) (E.v oe9) (Cs.whole (((Hx4.out.mod Cx7.out (fun h => h)).mod Cx9.out (fun h => h)).mod Cx12.out (fun h => h)))) ?_
  refine QSeq.pure rfl _ (fun E => ex_loadA rfl Try.underlying109 rfl (off := 0) (cs := (fC mY)) (by rw [HNmY.out]; kernel_rfl) (E.v oe10) (Cs.whole (((Hx5.out.mod Cx7.out (fun h => h)).mod Cx9.out (fun h => h)).mod Cx12.out (fun h => h)))) ?_
  refine QSeq.call rfl rfl Try.func30 (callsB HBX.out.symm (Eq_Mg _ _ _ _ mX mY _ (HQmX.out (fun _ => False) _) (HQmY.out (fun _ => False) _) (fun _ h => h.elim) (fun _ h => h.elim))) (fun E => args2 (E.d 0 1) (E.d 1 0)) ?_
  rintro e u5_2 ⟨rfl, hm⟩
  refine ⟨_, rfl, ?_⟩
  have zu5_2 := hm.size
  have Cx13 := hid (show Mod (fun _ => False) u4_3 u5_2 from hm)
  clear hm
  refine QSeq.pure rfl _ (fun E => ex_assign rfl (E.d 2 0)) ?_
  refine QSeq.nil (t' := [_, _, _, _]) rfl ?_
  obtain rfl := HA0.out
  clear HA0 oe9 oe10
  simp only [pz, Act.put, List.setIfInBounds_toArray, List.set_cons_zero, List.set_cons_succ]
  obtain ⟨un, hun⟩ : ∃ z, z = (!(within k 4 == within j 4)) := ⟨_, rfl⟩
  have HUN := Lib.hid hun
  clear hun
  go_upto_region 6 with (fail)
  refine wp_region_U 77 [45, 46, 47, 48, 49, 18] [0, 1, 2, 3, 4, 5] (fun a0 HA0 => ?_)
  have oe2 := ev HA0 2 rfl
  have oe3 := ev HA0 3 rfl
  refine QSeq.pure rfl _ (fun E => ex_move rfl (E.v oe2)) ?_
  refine QSeq.go fun act E => ?_
  refine qc_callF (args := #[.int .i64 k, .int .i64 4]) rfl (wanted_none rfl) rfl Try.func10 (args2 (E.d 0 0) rfl) (Within_any k 4 (by decide) (by decide) HK.out _) ?_
  rintro e w2 ⟨rfl, hw2⟩
  obtain rfl : u5_2 = w2 := by first | exact hw2 | exact hw2.symm
  refine ⟨_, rfl, ?_⟩
  clear act E
  refine QSeq.pure rfl _ (fun E => ex_move rfl (E.v oe3)) ?_
  refine QSeq.go fun act E => ?_
  refine qc_callF (args := #[.int .i64 j, .int .i64 4]) rfl (wanted_none rfl) rfl Try.func10 (args2 (E.d 2 0) rfl) (Within_any j 4 (by decide) (by decide) HJ.out _) ?_
  rintro e w2 ⟨rfl, hw2⟩
  obtain rfl : u5_2 = w2 := by first | exact hw2 | exact hw2.symm
  refine ⟨_, rfl, ?_⟩
  clear act E
  refine QSeq.pure rfl (.bool un) (fun E => ex_binE rfl (E.d 1 2) (E.d 3 0) (guard_ints _ _ _ _ _ _) (run_neq_i _ _ _ Try.underlying3) (congrArg Value.bool HUN.out.symm)) ?_
  refine QSeq.pure rfl _ (fun E => ex_assign rfl (E.d 4 0)) ?_
  refine QSeq.nil (t' := [_, _, _, _, _, _]) rfl ?_
  obtain rfl := HA0.out
  clear HA0 oe2 oe3
  simp only [pz, Act.put, List.setIfInBounds_toArray, List.set_cons_zero, List.set_cons_succ]
  have HXY := hid (show eqb (packB mX) (packB mY) = bx by rw [HBX.out, Bool.eq_iff_iff, eqb_iff, eqb_iff]; exact ⟨fun e => by have h1 := HEmX.out; have h2 := HEmY.out; rw [h1, h2] at e ⊢; exact tiny_inj e, fun e => by rw [e]⟩)
  cases un with
  | false =>
    go_upto_region 7 with (fail)
    refine wp_region_U 77 [50, 51, 52, 53, 54, 55, 56, 57, 58, 59, 60, 61, 62, 63, 64, 65, 66, 67, 68, 69, 70, 71, 72, 73, 74, 75, 76, 8] [0, 1, 2, 3, 4, 5, 6, 7, 8, 9, 10, 11, 12, 13, 14, 15, 16, 17, 18, 19, 20, 21, 22, 23, 24, 25, 26, 27] (fun a0 HA0 => ?_)
    have oe11 := ev HA0 11 rfl
    have oe12 := ev HA0 12 rfl
    have oe13 := ev HA0 13 rfl
    have oe14 := ev HA0 14 rfl
    have oe16 := ev HA0 16 rfl
    have oe17 := ev HA0 17 rfl
    have oe18 := ev HA0 18 rfl
    refine QSeq.pure rfl _ (fun E => ex_move rfl (E.v oe12)) ?_
    refine QSeq.pure rfl _ (fun E => ex_move rfl (E.d 0 0)) ?_
    refine QSeq.pureG rfl (.bool true) (fun E => ((wanted_of rfl rfl (E.sz 51 (by decide)) (E.d 1 0)).trans rfl)) (fun E => ex_move rfl (E.v oe14)) ?_
    refine QSeq.pure rfl (.bool true) (fun E => ex_pick rfl (E.d 1 1) (E.d 2 0) rfl) ?_
    refine QSeq.pure rfl _ (fun E => ex_move rfl (E.d 3 0)) ?_
    refine QSeq.pureG rfl (.bool true) (fun E => ((wanted_of rfl rfl (E.sz 54 (by decide)) (E.d 4 0)).trans rfl)) (fun E => ex_move rfl (E.v oe16)) ?_
    refine QSeq.pure rfl (.bool true) (fun E => ex_pick rfl (E.d 4 1) (E.d 5 0) rfl) ?_
    refine QSeq.pure rfl _ (fun E => ex_move rfl (E.d 6 0)) ?_
    refine QSeq.pureG rfl (.slice aopx ((packB mX).length) cappx) (fun E => ((wanted_of rfl rfl (E.sz 57 (by decide)) (E.d 7 0)).trans rfl)) (fun E => ex_move rfl (E.v oe11)) ?_
    refine QSeq.pureG rfl (.slice aopy ((packB mY).length) cappy) (fun E => ((wanted_of rfl rfl (E.sz 57 (by decide)) (E.d 7 1)).trans rfl)) (fun E => ex_move rfl (E.v oe13)) ?_
    refine QSeq.go fun act E => ?_
    refine qc_callF (args := #[.slice aopx ((packB mX).length) cappx, .slice aopy ((packB mY).length) cappy]) rfl ((wanted_of rfl rfl (E.sz 57 (by decide)) (E.d 7 2)).trans rfl) rfl Try.func31 (args2 (E.d 8 1) (E.d 9 0)) (callsB HXY.out (Same_B (((Hx6.out.mod Cx9.out (fun _ _ h => h)).mod Cx12.out (fun _ _ h => h)).mod Cx13.out (fun _ _ h => h)).rd ((Hx8.out.mod Cx12.out (fun _ _ h => h)).mod Cx13.out (fun _ _ h => h)).rd)) ?_
    rintro e u7_10 ⟨rfl, hm⟩
    refine ⟨_, rfl, ?_⟩
    have zu7_10 := hm.size
    have Cx14 := hid (show Mod (fun _ => False) u5_2 u7_10 from hm)
    clear hm
    clear act E
    refine QSeq.pureG rfl (.bool bx) (fun E => ((wanted_of rfl rfl (E.sz 57 (by decide)) (E.d 7 3)).trans rfl)) (fun E => ex_move rfl (E.v oe17)) ?_
    refine QSeq.pureG rfl (.bool true) (fun E => ((wanted_of rfl rfl (E.sz 57 (by decide)) (E.d 7 4)).trans rfl)) (fun E => ex_binE rfl (E.d 10 1) (E.d 11 0) (guard_bools _ _ _ _ _ _) (run_eql_bools _ _ _ Try.underlying4) (congrArg Value.bool (beq_self_eq_true _))) ?_
    refine QSeq.pure rfl (.bool true) (fun E => ex_pick rfl (E.d 7 5) (E.d 12 0) rfl) ?_
    refine QSeq.pure rfl _ (fun E => ex_move rfl (E.d 13 0)) ?_
    refine QSeq.pureG rfl (.bool false) (fun E => ((wanted_of rfl rfl (E.sz 64 (by decide)) (E.d 14 0)).trans rfl)) (fun E => ex_move rfl (E.v oe18)) ?_
    refine QSeq.pureG rfl (.bool true) (fun E => ((wanted_of rfl rfl (E.sz 64 (by decide)) (E.d 14 1)).trans rfl)) (fun E => ex_not rfl (E.d 15 0)) ?_
    refine QSeq.pureG rfl (.bool true) (fun E => ((wanted_of rfl rfl (E.sz 64 (by decide)) (E.d 14 2)).trans rfl)) (fun E => ex_move rfl (E.d 16 0)) ?_
    refine QSeq.skip rfl (fun E => ((wanted_of rfl rfl (E.sz 67 (by decide)) (E.d 17 0)).trans rfl)) ?_
    refine QSeq.skip rfl (fun E => ((wanted_of rfl rfl (E.sz 67 (by decide)) (E.d 17 1)).trans rfl)) ?_
    refine QSeq.skip rfl (fun E => ((wanted_of rfl rfl (E.sz 67 (by decide)) (E.d 17 2)).trans rfl)) ?_
    refine QSeq.skip rfl (fun E => ((wanted_of rfl rfl (E.sz 67 (by decide)) (E.d 17 3)).trans rfl)) ?_
    refine QSeq.pureG rfl (.bool true) (fun E => ((wanted_of rfl rfl (E.sz 64 (by decide)) (E.d 14 7)).trans rfl)) (fun E => ex_pick rfl (E.d 17 4) rfl (E.d 21 0)) ?_
    refine QSeq.pure rfl (.bool true) (fun E => ex_pick rfl (E.d 14 8) (E.d 22 0) rfl) ?_
    refine QSeq.pure rfl _ (fun E => ex_move rfl (E.d 23 0)) ?_
    refine QSeq.go fun act E => ?_
    refine qc_callF (args := #[]) rfl ((wanted_of rfl rfl (E.sz 74 (by decide)) (E.d 24 0)).trans rfl) rfl Try.func32 args0 (wakes06 _) ?_
    rintro e u7_25 ⟨rfl, hm⟩
    refine ⟨_, rfl, ?_⟩
    have zu7_25 := hm.size
    have HMu7_25 := hid hm
    have Cx15 := hid (Cx14.out.goE hm)
    clear hm Cx14
    clear act E
    refine QSeq.pure rfl (.bool true) (fun E => ex_pick rfl (E.d 24 1) (E.d 25 0) rfl) ?_
    refine QSeq.pure rfl _ (fun E => ex_assign rfl (E.d 26 0)) ?_
    clear HMu7_25
    refine QSeq.nil (t' := [_, _, _, _, _, _, _, _, _, _, _, _, _, _, _, _, _, _, _, _, _, _, _, _, _, _, _, _]) rfl ?_
    obtain rfl := HA0.out
    clear HA0 oe11 oe12 oe13 oe14 oe16 oe17 oe18
    simp only [pz, Act.put, List.setIfInBounds_toArray, List.set_cons_zero, List.set_cons_succ]
    go_wp2
    go_ret
    exact ⟨rfl, ((((((HM0.out.trans Cx3.out (fun _ _ h => h.elim)).trans Cx7.out (fun _ _ h => h.elim)).trans Cx9.out (fun _ _ h => h.elim)).trans Cx12.out (fun _ _ h => h.elim)).trans Cx13.out (fun _ _ h => h.elim)).trans Cx15.out (fun _ _ h => h.elim))⟩
  | true =>
    have HXZ := hid (show eqb (packB mX) (packB mZ) = false from eqb_ne (by rw [HEmX.out, HEmZ.out]; exact tiny_unlike (within_range k 4 (by decide)) (within_range j 4 (by decide)) (fun e => by have h := HUN.out; rw [e] at h; simp at h)))
    go_upto_region 7 with (fail)
    refine wp_region_U 77 [50, 51, 52, 53, 54, 55, 56, 57, 58, 59, 60, 61, 62, 63, 64, 65, 66, 67, 68, 69, 70, 71, 72, 73, 74, 75, 76, 8] [0, 1, 2, 3, 4, 5, 6, 7, 8, 9, 10, 11, 12, 13, 14, 15, 16, 17, 18, 19, 20, 21, 22, 23, 24, 25, 26, 27] (fun a0 HA0 => ?_)
    have oe11 := ev HA0 11 rfl
    have oe12 := ev HA0 12 rfl
    have oe13 := ev HA0 13 rfl
    have oe14 := ev HA0 14 rfl
    have oe15 := ev HA0 15 rfl
    have oe16 := ev HA0 16 rfl
    have oe17 := ev HA0 17 rfl
    have oe18 := ev HA0 18 rfl
    refine QSeq.pure rfl _ (fun E => ex_move rfl (E.v oe12)) ?_
    refine QSeq.pure rfl _ (fun E => ex_move rfl (E.d 0 0)) ?_
    refine QSeq.pureG rfl (.bool true) (fun E => ((wanted_of rfl rfl (E.sz 51 (by decide)) (E.d 1 0)).trans rfl)) (fun E => ex_move rfl (E.v oe14)) ?_
    refine QSeq.pure rfl (.bool true) (fun E => ex_pick rfl (E.d 1 1) (E.d 2 0) rfl) ?_
    refine QSeq.pure rfl _ (fun E => ex_move rfl (E.d 3 0)) ?_
    refine QSeq.pureG rfl (.bool true) (fun E => ((wanted_of rfl rfl (E.sz 54 (by decide)) (E.d 4 0)).trans rfl)) (fun E => ex_move rfl (E.v oe16)) ?_
    refine QSeq.pure rfl (.bool true) (fun E => ex_pick rfl (E.d 4 1) (E.d 5 0) rfl) ?_
    refine QSeq.pure rfl _ (fun E => ex_move rfl (E.d 6 0)) ?_
    refine QSeq.pureG rfl (.slice aopx ((packB mX).length) cappx) (fun E => ((wanted_of rfl rfl (E.sz 57 (by decide)) (E.d 7 0)).trans rfl)) (fun E => ex_move rfl (E.v oe11)) ?_
    refine QSeq.pureG rfl (.slice aopy ((packB mY).length) cappy) (fun E => ((wanted_of rfl rfl (E.sz 57 (by decide)) (E.d 7 1)).trans rfl)) (fun E => ex_move rfl (E.v oe13)) ?_
    refine QSeq.go fun act E => ?_
    refine qc_callF (args := #[.slice aopx ((packB mX).length) cappx, .slice aopy ((packB mY).length) cappy]) rfl ((wanted_of rfl rfl (E.sz 57 (by decide)) (E.d 7 2)).trans rfl) rfl Try.func31 (args2 (E.d 8 1) (E.d 9 0)) (callsB HXY.out (Same_B (((Hx6.out.mod Cx9.out (fun _ _ h => h)).mod Cx12.out (fun _ _ h => h)).mod Cx13.out (fun _ _ h => h)).rd ((Hx8.out.mod Cx12.out (fun _ _ h => h)).mod Cx13.out (fun _ _ h => h)).rd)) ?_
    rintro e u7_10 ⟨rfl, hm⟩
    refine ⟨_, rfl, ?_⟩
    have zu7_10 := hm.size
    have Cx16 := hid (show Mod (fun _ => False) u5_2 u7_10 from hm)
    clear hm
    clear act E
    refine QSeq.pureG rfl (.bool bx) (fun E => ((wanted_of rfl rfl (E.sz 57 (by decide)) (E.d 7 3)).trans rfl)) (fun E => ex_move rfl (E.v oe17)) ?_
    refine QSeq.pureG rfl (.bool true) (fun E => ((wanted_of rfl rfl (E.sz 57 (by decide)) (E.d 7 4)).trans rfl)) (fun E => ex_binE rfl (E.d 10 1) (E.d 11 0) (guard_bools _ _ _ _ _ _) (run_eql_bools _ _ _ Try.underlying4) (congrArg Value.bool (beq_self_eq_true _))) ?_
    refine QSeq.pure rfl (.bool true) (fun E => ex_pick rfl (E.d 7 5) (E.d 12 0) rfl) ?_
    refine QSeq.pure rfl _ (fun E => ex_move rfl (E.d 13 0)) ?_
    refine QSeq.pureG rfl (.bool true) (fun E => ((wanted_of rfl rfl (E.sz 64 (by decide)) (E.d 14 0)).trans rfl)) (fun E => ex_move rfl (E.v oe18)) ?_
    refine QSeq.pureG rfl (.bool false) (fun E => ((wanted_of rfl rfl (E.sz 64 (by decide)) (E.d 14 1)).trans rfl)) (fun E => ex_not rfl (E.d 15 0)) ?_
    refine QSeq.pureG rfl (.bool false) (fun E => ((wanted_of rfl rfl (E.sz 64 (by decide)) (E.d 14 2)).trans rfl)) (fun E => ex_move rfl (E.d 16 0)) ?_
    refine QSeq.pureG rfl (.slice aopx ((packB mX).length) cappx) (fun E => ((wanted_of rfl rfl (E.sz 67 (by decide)) (E.d 17 0)).trans rfl)) (fun E => ex_move rfl (E.v oe11)) ?_
    refine QSeq.pureG rfl (.slice aopz ((packB mZ).length) cappz) (fun E => ((wanted_of rfl rfl (E.sz 67 (by decide)) (E.d 17 1)).trans rfl)) (fun E => ex_move rfl (E.v oe15)) ?_
    refine QSeq.go fun act E => ?_
    refine qc_callF (args := #[.slice aopx ((packB mX).length) cappx, .slice aopz ((packB mZ).length) cappz]) rfl ((wanted_of rfl rfl (E.sz 67 (by decide)) (E.d 17 2)).trans rfl) rfl Try.func31 (args2 (E.d 18 1) (E.d 19 0)) (callsB HXZ.out (Same_B ((((Hx6.out.mod Cx9.out (fun _ _ h => h)).mod Cx12.out (fun _ _ h => h)).mod Cx13.out (fun _ _ h => h)).mod Cx16.out (fun _ _ h => h)).rd ((Hx11.out.mod Cx13.out (fun _ _ h => h)).mod Cx16.out (fun _ _ h => h)).rd)) ?_
    rintro e u7_20 ⟨rfl, hm⟩
    refine ⟨_, rfl, ?_⟩
    have zu7_20 := hm.size
    have HMu7_20 := hid hm
    have Cx17 := hid (Cx16.out.goE hm)
    clear hm Cx16
    clear act E
    refine QSeq.pureG rfl (.bool true) (fun E => ((wanted_of rfl rfl (E.sz 67 (by decide)) (E.d 17 3)).trans rfl)) (fun E => ex_not rfl (E.d 20 0)) ?_
    refine QSeq.pureG rfl (.bool true) (fun E => ((wanted_of rfl rfl (E.sz 64 (by decide)) (E.d 14 7)).trans rfl)) (fun E => ex_pick rfl (E.d 17 4) rfl (E.d 21 0)) ?_
    refine QSeq.pure rfl (.bool true) (fun E => ex_pick rfl (E.d 14 8) (E.d 22 0) rfl) ?_
    refine QSeq.pure rfl _ (fun E => ex_move rfl (E.d 23 0)) ?_
    refine QSeq.go fun act E => ?_
    refine qc_callF (args := #[]) rfl ((wanted_of rfl rfl (E.sz 74 (by decide)) (E.d 24 0)).trans rfl) rfl Try.func32 args0 (wakes06 _) ?_
    rintro e u7_25 ⟨rfl, hm⟩
    refine ⟨_, rfl, ?_⟩
    have zu7_25 := hm.size
    have HMu7_25 := hid hm
    have Cx18 := hid (Cx17.out.goE hm)
    clear hm Cx17
    clear act E
    refine QSeq.pure rfl (.bool true) (fun E => ex_pick rfl (E.d 24 1) (E.d 25 0) rfl) ?_
    refine QSeq.pure rfl _ (fun E => ex_assign rfl (E.d 26 0)) ?_
    clear HMu7_20 HMu7_25
    refine QSeq.nil (t' := [_, _, _, _, _, _, _, _, _, _, _, _, _, _, _, _, _, _, _, _, _, _, _, _, _, _, _, _]) rfl ?_
    obtain rfl := HA0.out
    clear HA0 oe11 oe12 oe13 oe14 oe15 oe16 oe17 oe18
    simp only [pz, Act.put, List.setIfInBounds_toArray, List.set_cons_zero, List.set_cons_succ]
    go_wp2
    go_ret
    exact ⟨rfl, ((((((HM0.out.trans Cx3.out (fun _ _ h => h.elim)).trans Cx7.out (fun _ _ h => h.elim)).trans Cx9.out (fun _ _ h => h.elim)).trans Cx12.out (fun _ _ h => h.elim)).trans Cx13.out (fun _ _ h => h.elim)).trans Cx18.out (fun _ _ h => h.elim))⟩
end Go.Proofs.Ytpnikilkcifncaa

/- Pairs, commitments as arguments. -/
namespace Go.Proofs.Ytpnikilkcifncaa
open Go Go.RowKit Go.Gv Go.ChangeShapes Go.WideShapes Go.ChangeAt Go.Deep

section
variable {H : Type} {enc : TypeId × Value → H} {W : World}
theorem trod_pair {t : TypeId} {fs : Array Field} {fuel : Nat} {cs : List Value} {x : DataW H × List MemPlace} (ht : Try.prog.underlying t = some (.struct fs)) (hs : fs.size = 2) (h0 : (fs[0]?).map (fun f => (f.offset, f.type)) = some (0, 3)) (h1 : (fs[1]?).map (fun f => (f.offset, f.type)) = some (1, 3)) (hc : Try.prog.cellsOf t = 2)
    (h : DataW.trod enc Try.prog W 0 (fun _ => true) true fuel t cs = some x) : ∃ a b : Int, cs = [.int .i64 a, .int .i64 b] ∧ I64 a ∧ I64 b := by
  obtain ⟨xs, n, _, -, hl, hn, hf⟩ := DataW.trod_struct ht h
  rw [hc] at hl
  have hxs : xs.length = 2 := hn.trans hs
  obtain ⟨q0, e0, hq0⟩ : ∃ f, fs[0]? = some f ∧ (f.offset, f.type) = (0, 3) := by
    cases hh : fs[0]? with
    | none => rw [hh] at h0; cases h0
    | some f => rw [hh] at h0; exact ⟨f, rfl, Option.some.inj h0⟩
  obtain ⟨q1, e1, hq1⟩ : ∃ f, fs[1]? = some f ∧ (f.offset, f.type) = (1, 3) := by
    cases hh : fs[1]? with
    | none => rw [hh] at h1; cases h1
    | some f => rw [hh] at h1; exact ⟨f, rfl, Option.some.inj h1⟩
  have f0 := hf 0 _ e0
  have f1 := hf 1 _ e1
  rw [show q0.offset = 0 from congrArg Prod.fst hq0, show q0.type = 3 from congrArg Prod.snd hq0] at f0
  rw [show q1.offset = 1 from congrArg Prod.fst hq1, show q1.type = 3 from congrArg Prod.snd hq1] at f1
  rw [List.getElem?_eq_getElem (by omega), show Try.prog.cellsOf 3 = 1 from by kernel_rfl] at f0 f1
  match cs, hl with
  | [c0, c1], _ =>
    simp only [List.drop_zero, List.drop_succ_cons, List.take_succ_cons, List.take_zero] at f0 f1
    obtain ⟨p0, e0, _, w0⟩ := DataW.trod_int Try.underlying3 f0
    obtain ⟨p1, e1, _, w1⟩ := DataW.trod_int Try.underlying3 f1
    simp at e0 e1
    subst e0 e1
    exact ⟨p0, p1, rfl, bounds_i64 w0, bounds_i64 w1⟩
theorem cm_cells {fuel : Nat} {cs : List Value} {x : DataW H × List MemPlace} (h : DataW.trod enc Try.prog W 0 (fun _ => true) true fuel 36 cs = some x) : ∃ c : Cm, cs = c.cells ∧ c.OK := by
  obtain ⟨xs, n, _, -, hl, hn, hf⟩ := DataW.trod_struct Try.underlying36 h
  rw [show Try.prog.cellsOf 36 = 37 from by kernel_rfl] at hl
  have hxs : xs.length = 4 := hn
  have f0 : DataW.trod enc Try.prog W 0 (fun _ => true) true n 30 ((cs.drop 0).take (Try.prog.cellsOf 30)) = xs[0]? := hf 0 _ rfl
  have f1 : DataW.trod enc Try.prog W 0 (fun _ => true) true n 32 ((cs.drop 2).take (Try.prog.cellsOf 32)) = xs[1]? := hf 1 _ rfl
  have f2 : DataW.trod enc Try.prog W 0 (fun _ => true) true n 3 ((cs.drop 34).take (Try.prog.cellsOf 3)) = xs[2]? := hf 2 _ rfl
  have f3 : DataW.trod enc Try.prog W 0 (fun _ => true) true n 34 ((cs.drop 35).take (Try.prog.cellsOf 34)) = xs[3]? := hf 3 _ rfl
  rw [List.getElem?_eq_getElem (by omega)] at f0 f1 f2 f3
  obtain ⟨a, b, e0, h1, h2⟩ := trod_pair Try.underlying30 rfl rfl rfl (by kernel_rfl) f0
  obtain ⟨hs, e1, hb, hl32⟩ := trod_arr Try.underlying32 Try.underlying5 (by kernel_rfl) (by kernel_rfl) f1
  obtain ⟨sa, sb, e3, h3, h4⟩ := trod_pair Try.underlying34 rfl rfl rfl (by kernel_rfl) f3
  rw [show Try.prog.cellsOf 30 = 2 from by kernel_rfl] at e0
  rw [show Try.prog.cellsOf 32 = 32 from by kernel_rfl] at e1
  rw [show Try.prog.cellsOf 3 = 1 from by kernel_rfl] at f2
  rw [show Try.prog.cellsOf 34 = 2 from by kernel_rfl] at e3
  obtain ⟨q, e2, _, w2⟩ := DataW.trod_int Try.underlying3 f2
  refine ⟨⟨a, b, hs, q, sa, sb⟩, ?_, ⟨h1, h2, bounds_i64 w2, h3, h4⟩, hl32, hb⟩
  have d1 : cs = cs.take 2 ++ cs.drop 2 := (List.take_append_drop 2 cs).symm
  have d2 : cs.drop 2 = (cs.drop 2).take 32 ++ cs.drop 34 := by conv => lhs; rw [← List.take_append_drop 32 (cs.drop 2)]; rw [List.drop_drop]
  have d3 : cs.drop 34 = (cs.drop 34).take 1 ++ cs.drop 35 := by conv => lhs; rw [← List.take_append_drop 1 (cs.drop 34)]; rw [List.drop_drop]
  have d4 : cs.drop 35 = (cs.drop 35).take 2 := (List.take_of_length_le (by rw [List.length_drop]; omega)).symm
  rw [List.drop_zero] at e0
  rw [d1, d2, d3, d4, e0, e1, e2, e3]
  rfl
end
end Go.Proofs.Ytpnikilkcifncaa

/- Things as arguments: whatever a reading gives of them. -/
namespace Go.Proofs.Ytpnikilkcifncaa
open Go Go.RowKit Go.Gv Go.ChangeShapes Go.WideShapes Go.ChangeAt Go.Deep

def segs (cs : List Value) : Nat → List Nat → List (List Value)
  | _, [] => []
  | off, n :: ns => (cs.drop off).take n :: segs cs (off + n) ns
theorem segs_all (cs : List Value) : ∀ (ns : List Nat) (off : Nat), cs.length = off + ns.sum → cs.drop off = (segs cs off ns).flatten
  | [], off, h => by simp at h; simp [segs, List.drop_of_length_le (show cs.length ≤ off by omega)]
  | n :: ns, off, h => by
    have ih := segs_all cs ns (off + n) (by simp at h; omega)
    simp only [segs, List.flatten_cons]
    rw [← ih, ← List.drop_drop, List.take_append_drop]
theorem seg_one {cs : List Value} {off : Nat} (h : off < cs.length) : ∃ v, (cs.drop off).take 1 = [v] := ⟨cs[off], by rw [List.drop_eq_getElem_cons h]; rfl⟩
/-- whatever reads as a T reads as one of A -/
def Reads {α : Type} (A : Rep α) (T : TypeId) : Prop := ∀ (H : Type) (enc : TypeId × Value → H) (W : World) (fuel : Nat) (cs : List Value) (x : DataW H × List MemPlace), DataW.trod enc Try.prog W 0 (fun _ => true) true fuel T cs = some x → ∃ a, A.rd (fun k => k < W.heap.size) W cs a
theorem all_list {α : Type} {P : List Value → α → Prop} : ∀ (css : List (List Value)), (∀ cs ∈ css, ∃ a, P cs a) → ∃ l : List α, l.length = css.length ∧ ∀ (i : Nat) cs a, css[i]? = some cs → l[i]? = some a → P cs a
  | [], _ => ⟨[], rfl, fun i cs a h => by simp at h⟩
  | c :: r, h => by
    obtain ⟨a, ha⟩ := h c (by simp)
    obtain ⟨l, h1, h2⟩ := all_list r fun cs hcs => h cs (by simp [hcs])
    refine ⟨a :: l, by simp [h1], fun i cs b hi hb => ?_⟩
    cases i with
    | zero => simp at hi hb; subst hi hb; exact ha
    | succ i => simp at hi hb; exact h2 i cs b hi hb
theorem trod_slice {α : Type} {A : Rep α} {t e : TypeId} {H : Type} {enc : TypeId × Value → H} {W : World} {fuel : Nat} {v : Value} {x : DataW H × List MemPlace} (hr : Reads A e) (ht : Try.prog.underlying t = some (.slice e)) (hce : Try.prog.cellsOf e = A.sz)
    (h : DataW.trod enc Try.prog W 0 (fun _ => true) true fuel t [v] = some x) : ∃ l : List α, RdS A (fun k => k < W.heap.size) W v l := by
  haveI : Inhabited {cs : List Value // cs.length = A.sz} := ⟨⟨List.replicate A.sz undef, by simp⟩⟩
  have hsh : ∃ ao n cap, v = .slice ao n cap ∧ n ≤ cap ∧ cap ≤ maxLen ∧ (ao = none → cap = 0) := by
    rcases open_slice ht h with ⟨hcs, _⟩ | ⟨a, len, cap, m, n, D, Pl, hcs, _, hl, hm, hmm, _, hel⟩
    · simp at hcs; subst hcs; exact ⟨none, 0, 0, rfl, Nat.le_refl _, Nat.zero_le _, fun _ => rfl⟩
    · simp at hcs; subst hcs; simp only [if_true] at hmm; subst hmm; exact ⟨some a, len, _, rfl, hl, hm, fun h => by cases h⟩
  obtain ⟨raws, h1, h2⟩ := trod_list (fun a : {cs : List Value // cs.length = A.sz} => a.1) (fun a => ∃ y, A.rd (fun k => k < W.heap.size) W a.1 y) ht hce A.pos (fun a => a.2)
    (fun fuel cs x hx => by obtain ⟨a, ha⟩ := hr H enc W fuel cs x hx; exact ⟨⟨cs, A.len ha⟩, rfl, a, ha⟩) h
  obtain ⟨l, hl, hP⟩ := all_list (P := fun cs a => A.rd (fun k => k < W.heap.size) W cs a) (raws.map (·.1)) (fun cs hcs => by obtain ⟨a, ha, rfl⟩ := List.mem_map.1 hcs; exact h2 a ha)
  have hl' : l.length = raws.length := by simpa using hl
  refine ⟨l, raws.map (·.1), by simp [hl'], hP, ?_, ?_⟩
  · have hcl : ∀ cs ∈ raws.map (·.1), cs.length = A.sz := fun cs hcs => by obtain ⟨a, _, rfl⟩ := List.mem_map.1 hcs; exact a.2
    have hfl := flat_len hcl
    rcases h1 with ⟨rfl, ao, cap, rfl⟩ | ⟨g, o, cap, hg, rfl, h0, hc, hm, hcell⟩
    · obtain ⟨ao', n', cap', e', g1, g2, g3⟩ := hsh
      cases e'
      obtain rfl : l = [] := List.eq_nil_of_length_eq_zero (by simpa using hl')
      exact Rd.zero _ _ _ _ g2 g3
    · rw [hl']
      refine Rd.mk hc hm (by rw [hfl]; simp) fun j u hu => ?_
      have hj := (List.getElem?_eq_some_iff.1 hu).1
      rw [hfl] at hj
      simp only [List.length_map] at hj
      have hq : j / A.sz < raws.length := Nat.div_lt_of_lt_mul (by rw [Nat.mul_comm]; exact hj)
      have hmod := Nat.mod_lt j A.pos
      have hdm := Nat.div_add_mod j A.sz
      have hgt := flat_get hcl (j / A.sz) raws[j / A.sz].1 (by simp [List.getElem?_eq_getElem hq]) (j % A.sz) (raws[j / A.sz].1[j % A.sz]'(by rw [raws[j / A.sz].2]; exact hmod)) (List.getElem?_eq_getElem _)
      rw [show j / A.sz * A.sz + j % A.sz = j by rw [Nat.mul_comm]; exact hdm] at hgt
      rw [hgt] at hu
      have := hcell (j / A.sz) hq (j % A.sz) u (by rw [List.getElem?_eq_getElem (by rw [raws[j / A.sz].2]; exact hmod)]; exact hu)
      rw [show o + j / A.sz * A.sz + j % A.sz = o + j by rw [Nat.add_assoc, Nat.mul_comm, hdm]] at this
      exact this
  · intro h0 g hg
    rcases h1 with ⟨rfl, ao, cap, rfl⟩ | ⟨g', o, cap, hg', rfl, _⟩
    · simp at hl'; rw [hl'] at h0; simp at h0
    · simp [Value.ownBlock] at hg; subst hg; exact hg'
theorem reads_arg {α : Type} {A : Rep α} {T : TypeId} (hr : Reads A T) {fs : Array Field} (hu : Try.prog.underlying T = some (.struct fs)) {H : Type} {enc : TypeId × Value → H} {W : World} {base : Nat} {v : Value} {d : DataW H} {p : List MemPlace} (hv' : Value.okWide Try.prog W .any base T v)
    (h : DataW.Trod enc Try.prog W 0 (fun _ => true) true T v d p) : ∃ cs a, v = .agg cs.toArray ∧ A.rd (fun k => k < W.heap.size) W cs a := by
  obtain ⟨fuel, hf⟩ := h
  simp only [Value.okWide, hu] at hv'
  obtain ⟨cs, rfl, -, -⟩ := hv'
  obtain ⟨a, ha⟩ := hr _ _ _ _ _ _ hf
  exact ⟨_, a, (by congr 1), ha⟩
theorem reads_cm : Reads CmR 36 := fun H enc W fuel cs x h => by obtain ⟨c, e, hok⟩ := cm_cells h; exact ⟨c, e, hok⟩
theorem reads_st : Reads StR 47 := by
  intro H enc W fuel cs x h
  obtain ⟨xs, n, _, -, hl, hn, hf⟩ := DataW.trod_struct Try.underlying47 h
  rw [show Try.prog.cellsOf 47 = 38 from by kernel_rfl] at hl
  have hxs : xs.length = 5 := hn
  have f0 : DataW.trod enc Try.prog W 0 (fun _ => true) true n 3 ((cs.drop 0).take (Try.prog.cellsOf 3)) = xs[0]? := hf 0 _ rfl
  rw [List.getElem?_eq_getElem (by omega), show Try.prog.cellsOf 3 = 1 from by kernel_rfl] at f0
  have f1 : DataW.trod enc Try.prog W 0 (fun _ => true) true n 30 ((cs.drop 1).take (Try.prog.cellsOf 30)) = xs[1]? := hf 1 _ rfl
  rw [List.getElem?_eq_getElem (by omega), show Try.prog.cellsOf 30 = 2 from by kernel_rfl] at f1
  have f2 : DataW.trod enc Try.prog W 0 (fun _ => true) true n 32 ((cs.drop 3).take (Try.prog.cellsOf 32)) = xs[2]? := hf 2 _ rfl
  rw [List.getElem?_eq_getElem (by omega), show Try.prog.cellsOf 32 = 32 from by kernel_rfl] at f2
  have f3 : DataW.trod enc Try.prog W 0 (fun _ => true) true n 45 ((cs.drop 35).take (Try.prog.cellsOf 45)) = xs[3]? := hf 3 _ rfl
  rw [List.getElem?_eq_getElem (by omega), show Try.prog.cellsOf 45 = 1 from by kernel_rfl] at f3
  have f4 : DataW.trod enc Try.prog W 0 (fun _ => true) true n 34 ((cs.drop 36).take (Try.prog.cellsOf 34)) = xs[4]? := hf 4 _ rfl
  rw [List.getElem?_eq_getElem (by omega), show Try.prog.cellsOf 34 = 2 from by kernel_rfl] at f4
  obtain ⟨rp, e0, _, w0⟩ := DataW.trod_int Try.underlying3 f0
  obtain ⟨cl, sq, e1, w1, w1'⟩ := trod_pair Try.underlying30 rfl rfl rfl (by kernel_rfl) f1
  obtain ⟨hh, e2, w2, w2'⟩ := trod_arr Try.underlying32 Try.underlying5 (by kernel_rfl) (by kernel_rfl) f2
  obtain ⟨tm', e3, _, w3⟩ := DataW.trod_int Try.underlying45 f3
  obtain ⟨tm, rfl, w3'⟩ := u64_nat w3
  obtain ⟨sb, mr, e4, w4, w4'⟩ := trod_pair Try.underlying34 rfl rfl rfl (by kernel_rfl) f4
  have hcs := segs_all cs [1, 2, 32, 1, 2] 0 (by simpa using hl)
  simp only [List.drop_zero, segs, List.flatten_cons, List.flatten_nil, List.append_nil, Nat.zero_add, Nat.reduceAdd, e0, e1, e2, e3, e4] at hcs
  (try rw [List.drop_zero] at e0)
  (try simp only [e0] at hcs)
  exact ⟨⟨rp, cl, sq, hh, tm, sb, mr⟩, by rw [hcs]; rfl, ⟨bounds_i64 w0, w1, w1', ⟨w2', w2⟩, w3', w4, w4'⟩⟩
theorem reads_ak : Reads StR 86 := by
  intro H enc W fuel cs x h
  obtain ⟨xs, n, _, -, hl, hn, hf⟩ := DataW.trod_struct Try.underlying86 h
  rw [show Try.prog.cellsOf 86 = 38 from by kernel_rfl] at hl
  have hxs : xs.length = 5 := hn
  have f0 : DataW.trod enc Try.prog W 0 (fun _ => true) true n 3 ((cs.drop 0).take (Try.prog.cellsOf 3)) = xs[0]? := hf 0 _ rfl
  rw [List.getElem?_eq_getElem (by omega), show Try.prog.cellsOf 3 = 1 from by kernel_rfl] at f0
  have f1 : DataW.trod enc Try.prog W 0 (fun _ => true) true n 30 ((cs.drop 1).take (Try.prog.cellsOf 30)) = xs[1]? := hf 1 _ rfl
  rw [List.getElem?_eq_getElem (by omega), show Try.prog.cellsOf 30 = 2 from by kernel_rfl] at f1
  have f2 : DataW.trod enc Try.prog W 0 (fun _ => true) true n 32 ((cs.drop 3).take (Try.prog.cellsOf 32)) = xs[2]? := hf 2 _ rfl
  rw [List.getElem?_eq_getElem (by omega), show Try.prog.cellsOf 32 = 32 from by kernel_rfl] at f2
  have f3 : DataW.trod enc Try.prog W 0 (fun _ => true) true n 45 ((cs.drop 35).take (Try.prog.cellsOf 45)) = xs[3]? := hf 3 _ rfl
  rw [List.getElem?_eq_getElem (by omega), show Try.prog.cellsOf 45 = 1 from by kernel_rfl] at f3
  have f4 : DataW.trod enc Try.prog W 0 (fun _ => true) true n 34 ((cs.drop 36).take (Try.prog.cellsOf 34)) = xs[4]? := hf 4 _ rfl
  rw [List.getElem?_eq_getElem (by omega), show Try.prog.cellsOf 34 = 2 from by kernel_rfl] at f4
  obtain ⟨rp, e0, _, w0⟩ := DataW.trod_int Try.underlying3 f0
  obtain ⟨cl, sq, e1, w1, w1'⟩ := trod_pair Try.underlying30 rfl rfl rfl (by kernel_rfl) f1
  obtain ⟨hh, e2, w2, w2'⟩ := trod_arr Try.underlying32 Try.underlying5 (by kernel_rfl) (by kernel_rfl) f2
  obtain ⟨tm', e3, _, w3⟩ := DataW.trod_int Try.underlying45 f3
  obtain ⟨tm, rfl, w3'⟩ := u64_nat w3
  obtain ⟨sb, mr, e4, w4, w4'⟩ := trod_pair Try.underlying34 rfl rfl rfl (by kernel_rfl) f4
  have hcs := segs_all cs [1, 2, 32, 1, 2] 0 (by simpa using hl)
  simp only [List.drop_zero, segs, List.flatten_cons, List.flatten_nil, List.append_nil, Nat.zero_add, Nat.reduceAdd, e0, e1, e2, e3, e4] at hcs
  (try rw [List.drop_zero] at e0)
  (try simp only [e0] at hcs)
  exact ⟨⟨rp, cl, sq, hh, tm, sb, mr⟩, by rw [hcs]; rfl, ⟨bounds_i64 w0, w1, w1', ⟨w2', w2⟩, w3', w4, w4'⟩⟩
theorem reads_vt : Reads VtR 98 := by
  intro H enc W fuel cs x h
  obtain ⟨xs, n, _, -, hl, hn, hf⟩ := DataW.trod_struct Try.underlying98 h
  rw [show Try.prog.cellsOf 98 = 38 from by kernel_rfl] at hl
  have hxs : xs.length = 6 := hn
  have f0 : DataW.trod enc Try.prog W 0 (fun _ => true) true n 3 ((cs.drop 0).take (Try.prog.cellsOf 3)) = xs[0]? := hf 0 _ rfl
  rw [List.getElem?_eq_getElem (by omega), show Try.prog.cellsOf 3 = 1 from by kernel_rfl] at f0
  have f1 : DataW.trod enc Try.prog W 0 (fun _ => true) true n 3 ((cs.drop 1).take (Try.prog.cellsOf 3)) = xs[1]? := hf 1 _ rfl
  rw [List.getElem?_eq_getElem (by omega), show Try.prog.cellsOf 3 = 1 from by kernel_rfl] at f1
  have f2 : DataW.trod enc Try.prog W 0 (fun _ => true) true n 3 ((cs.drop 2).take (Try.prog.cellsOf 3)) = xs[2]? := hf 2 _ rfl
  rw [List.getElem?_eq_getElem (by omega), show Try.prog.cellsOf 3 = 1 from by kernel_rfl] at f2
  have f3 : DataW.trod enc Try.prog W 0 (fun _ => true) true n 3 ((cs.drop 3).take (Try.prog.cellsOf 3)) = xs[3]? := hf 3 _ rfl
  rw [List.getElem?_eq_getElem (by omega), show Try.prog.cellsOf 3 = 1 from by kernel_rfl] at f3
  have f4 : DataW.trod enc Try.prog W 0 (fun _ => true) true n 32 ((cs.drop 4).take (Try.prog.cellsOf 32)) = xs[4]? := hf 4 _ rfl
  rw [List.getElem?_eq_getElem (by omega), show Try.prog.cellsOf 32 = 32 from by kernel_rfl] at f4
  have f5 : DataW.trod enc Try.prog W 0 (fun _ => true) true n 34 ((cs.drop 36).take (Try.prog.cellsOf 34)) = xs[5]? := hf 5 _ rfl
  rw [List.getElem?_eq_getElem (by omega), show Try.prog.cellsOf 34 = 2 from by kernel_rfl] at f5
  obtain ⟨kd, e0, _, w0⟩ := DataW.trod_int Try.underlying3 f0
  obtain ⟨ep, e1, _, w1⟩ := DataW.trod_int Try.underlying3 f1
  obtain ⟨rn, e2, _, w2⟩ := DataW.trod_int Try.underlying3 f2
  obtain ⟨rp, e3, _, w3⟩ := DataW.trod_int Try.underlying3 f3
  obtain ⟨hh, e4, w4, w4'⟩ := trod_arr Try.underlying32 Try.underlying5 (by kernel_rfl) (by kernel_rfl) f4
  obtain ⟨sb, mr, e5, w5, w5'⟩ := trod_pair Try.underlying34 rfl rfl rfl (by kernel_rfl) f5
  have hcs := segs_all cs [1, 1, 1, 1, 32, 2] 0 (by simpa using hl)
  simp only [List.drop_zero, segs, List.flatten_cons, List.flatten_nil, List.append_nil, Nat.zero_add, Nat.reduceAdd, e0, e1, e2, e3, e4, e5] at hcs
  (try rw [List.drop_zero] at e0)
  (try simp only [e0] at hcs)
  exact ⟨⟨kd, ep, rn, rp, hh, sb, mr⟩, by rw [hcs]; rfl, ⟨bounds_i64 w0, bounds_i64 w1, bounds_i64 w2, bounds_i64 w3, ⟨w4', w4⟩, w5, w5'⟩⟩
theorem reads_dn : Reads DnR 104 := by
  intro H enc W fuel cs x h
  obtain ⟨xs, n, _, -, hl, hn, hf⟩ := DataW.trod_struct Try.underlying104 h
  rw [show Try.prog.cellsOf 104 = 4 from by kernel_rfl] at hl
  have hxs : xs.length = 3 := hn
  have f0 : DataW.trod enc Try.prog W 0 (fun _ => true) true n 3 ((cs.drop 0).take (Try.prog.cellsOf 3)) = xs[0]? := hf 0 _ rfl
  rw [List.getElem?_eq_getElem (by omega), show Try.prog.cellsOf 3 = 1 from by kernel_rfl] at f0
  have f1 : DataW.trod enc Try.prog W 0 (fun _ => true) true n 3 ((cs.drop 1).take (Try.prog.cellsOf 3)) = xs[1]? := hf 1 _ rfl
  rw [List.getElem?_eq_getElem (by omega), show Try.prog.cellsOf 3 = 1 from by kernel_rfl] at f1
  have f2 : DataW.trod enc Try.prog W 0 (fun _ => true) true n 34 ((cs.drop 2).take (Try.prog.cellsOf 34)) = xs[2]? := hf 2 _ rfl
  rw [List.getElem?_eq_getElem (by omega), show Try.prog.cellsOf 34 = 2 from by kernel_rfl] at f2
  obtain ⟨rp, e0, _, w0⟩ := DataW.trod_int Try.underlying3 f0
  obtain ⟨ix, e1, _, w1⟩ := DataW.trod_int Try.underlying3 f1
  obtain ⟨sb, mr, e2, w2, w2'⟩ := trod_pair Try.underlying34 rfl rfl rfl (by kernel_rfl) f2
  have hcs := segs_all cs [1, 1, 2] 0 (by simpa using hl)
  simp only [List.drop_zero, segs, List.flatten_cons, List.flatten_nil, List.append_nil, Nat.zero_add, Nat.reduceAdd, e0, e1, e2] at hcs
  (try rw [List.drop_zero] at e0)
  (try simp only [e0] at hcs)
  exact ⟨⟨rp, ix, sb, mr⟩, by rw [hcs]; rfl, ⟨bounds_i64 w0, bounds_i64 w1, w2, w2'⟩⟩
theorem reads_ce : Reads CeR 84 := by
  intro H enc W fuel cs x h
  obtain ⟨xs, n, _, -, hl, hn, hf⟩ := DataW.trod_struct Try.underlying84 h
  rw [show Try.prog.cellsOf 84 = 38 from by kernel_rfl] at hl
  have hxs : xs.length = 2 := hn
  have f0 : DataW.trod enc Try.prog W 0 (fun _ => true) true n 36 ((cs.drop 0).take (Try.prog.cellsOf 36)) = xs[0]? := hf 0 _ rfl
  rw [List.getElem?_eq_getElem (by omega), show Try.prog.cellsOf 36 = 37 from by kernel_rfl] at f0
  have f1 : DataW.trod enc Try.prog W 0 (fun _ => true) true n 82 ((cs.drop 37).take (Try.prog.cellsOf 82)) = xs[1]? := hf 1 _ rfl
  rw [List.getElem?_eq_getElem (by omega), show Try.prog.cellsOf 82 = 1 from by kernel_rfl] at f1
  obtain ⟨c, e0, w0⟩ := reads_cm _ _ _ _ _ _ f0
  obtain ⟨v, e1⟩ := seg_one (cs := cs) (off := 37) (by omega)
  rw [e1] at f1
  obtain ⟨l, w1⟩ := trod_slice reads_st Try.underlying82 (by kernel_rfl) f1
  have hcs := segs_all cs [37, 1] 0 (by simpa using hl)
  simp only [List.drop_zero, segs, List.flatten_cons, List.flatten_nil, List.append_nil, Nat.zero_add, Nat.reduceAdd, e0, e1] at hcs
  (try rw [List.drop_zero] at e0)
  (try simp only [e0] at hcs)
  exact ⟨⟨c, l⟩, v, hcs, w0, w1⟩
theorem reads_pm : Reads PmR 89 := by
  intro H enc W fuel cs x h
  obtain ⟨xs, n, _, -, hl, hn, hf⟩ := DataW.trod_struct Try.underlying89 h
  rw [show Try.prog.cellsOf 89 = 6 from by kernel_rfl] at hl
  have hxs : xs.length = 5 := hn
  have f0 : DataW.trod enc Try.prog W 0 (fun _ => true) true n 3 ((cs.drop 0).take (Try.prog.cellsOf 3)) = xs[0]? := hf 0 _ rfl
  rw [List.getElem?_eq_getElem (by omega), show Try.prog.cellsOf 3 = 1 from by kernel_rfl] at f0
  have f1 : DataW.trod enc Try.prog W 0 (fun _ => true) true n 3 ((cs.drop 1).take (Try.prog.cellsOf 3)) = xs[1]? := hf 1 _ rfl
  rw [List.getElem?_eq_getElem (by omega), show Try.prog.cellsOf 3 = 1 from by kernel_rfl] at f1
  have f2 : DataW.trod enc Try.prog W 0 (fun _ => true) true n 45 ((cs.drop 2).take (Try.prog.cellsOf 45)) = xs[2]? := hf 2 _ rfl
  rw [List.getElem?_eq_getElem (by omega), show Try.prog.cellsOf 45 = 1 from by kernel_rfl] at f2
  have f3 : DataW.trod enc Try.prog W 0 (fun _ => true) true n 87 ((cs.drop 3).take (Try.prog.cellsOf 87)) = xs[3]? := hf 3 _ rfl
  rw [List.getElem?_eq_getElem (by omega), show Try.prog.cellsOf 87 = 1 from by kernel_rfl] at f3
  have f4 : DataW.trod enc Try.prog W 0 (fun _ => true) true n 34 ((cs.drop 4).take (Try.prog.cellsOf 34)) = xs[4]? := hf 4 _ rfl
  rw [List.getElem?_eq_getElem (by omega), show Try.prog.cellsOf 34 = 2 from by kernel_rfl] at f4
  obtain ⟨rp, e0, _, w0⟩ := DataW.trod_int Try.underlying3 f0
  obtain ⟨ep, e1, _, w1⟩ := DataW.trod_int Try.underlying3 f1
  obtain ⟨fl', e2, _, w2⟩ := DataW.trod_int Try.underlying45 f2
  obtain ⟨fl, rfl, w2'⟩ := u64_nat w2
  obtain ⟨v, e3⟩ := seg_one (cs := cs) (off := 3) (by omega)
  rw [e3] at f3
  obtain ⟨l, w3⟩ := trod_slice reads_ce Try.underlying87 (by kernel_rfl) f3
  obtain ⟨sb, mr, e4, w4, w4'⟩ := trod_pair Try.underlying34 rfl rfl rfl (by kernel_rfl) f4
  have hcs := segs_all cs [1, 1, 1, 1, 2] 0 (by simpa using hl)
  simp only [List.drop_zero, segs, List.flatten_cons, List.flatten_nil, List.append_nil, Nat.zero_add, Nat.reduceAdd, e0, e1, e2, e3, e4] at hcs
  (try rw [List.drop_zero] at e0)
  (try simp only [e0] at hcs)
  exact ⟨⟨rp, ep, fl, l, sb, mr⟩, v, hcs, ⟨bounds_i64 w0, bounds_i64 w1, w2', w4, w4'⟩, w3⟩
theorem reads_op : Reads OpR 102 := by
  intro H enc W fuel cs x h
  obtain ⟨xs, n, _, -, hl, hn, hf⟩ := DataW.trod_struct Try.underlying102 h
  rw [show Try.prog.cellsOf 102 = 34 from by kernel_rfl] at hl
  have hxs : xs.length = 3 := hn
  have f0 : DataW.trod enc Try.prog W 0 (fun _ => true) true n 3 ((cs.drop 0).take (Try.prog.cellsOf 3)) = xs[0]? := hf 0 _ rfl
  rw [List.getElem?_eq_getElem (by omega), show Try.prog.cellsOf 3 = 1 from by kernel_rfl] at f0
  have f1 : DataW.trod enc Try.prog W 0 (fun _ => true) true n 38 ((cs.drop 1).take (Try.prog.cellsOf 38)) = xs[1]? := hf 1 _ rfl
  rw [List.getElem?_eq_getElem (by omega), show Try.prog.cellsOf 38 = 1 from by kernel_rfl] at f1
  have f2 : DataW.trod enc Try.prog W 0 (fun _ => true) true n 32 ((cs.drop 2).take (Try.prog.cellsOf 32)) = xs[2]? := hf 2 _ rfl
  rw [List.getElem?_eq_getElem (by omega), show Try.prog.cellsOf 32 = 32 from by kernel_rfl] at f2
  obtain ⟨ix, e0, _, w0⟩ := DataW.trod_int Try.underlying3 f0
  obtain ⟨v, e1⟩ := seg_one (cs := cs) (off := 1) (by omega)
  rw [e1] at f1
  obtain ⟨pl, w1⟩ := trod_bytes f1
  obtain ⟨hh, e2, w2, w2'⟩ := trod_arr Try.underlying32 Try.underlying5 (by kernel_rfl) (by kernel_rfl) f2
  have hcs := segs_all cs [1, 1, 32] 0 (by simpa using hl)
  simp only [List.drop_zero, segs, List.flatten_cons, List.flatten_nil, List.append_nil, Nat.zero_add, Nat.reduceAdd, e0, e1, e2] at hcs
  (try rw [List.drop_zero] at e0)
  (try simp only [e0] at hcs)
  exact ⟨⟨ix, pl, hh⟩, v, hcs, ⟨bounds_i64 w0, w2', w2⟩, w1⟩
theorem reads_tb : Reads TbR 214 := by
  intro H enc W fuel cs x h
  obtain ⟨xs, n, _, -, hl, hn, hf⟩ := DataW.trod_struct Try.underlying214 h
  rw [show Try.prog.cellsOf 214 = 2 from by kernel_rfl] at hl
  have hxs : xs.length = 2 := hn
  have f0 : DataW.trod enc Try.prog W 0 (fun _ => true) true n 3 ((cs.drop 0).take (Try.prog.cellsOf 3)) = xs[0]? := hf 0 _ rfl
  rw [List.getElem?_eq_getElem (by omega), show Try.prog.cellsOf 3 = 1 from by kernel_rfl] at f0
  have f1 : DataW.trod enc Try.prog W 0 (fun _ => true) true n 212 ((cs.drop 1).take (Try.prog.cellsOf 212)) = xs[1]? := hf 1 _ rfl
  rw [List.getElem?_eq_getElem (by omega), show Try.prog.cellsOf 212 = 1 from by kernel_rfl] at f1
  obtain ⟨ix, e0, _, w0⟩ := DataW.trod_int Try.underlying3 f0
  obtain ⟨v, e1⟩ := seg_one (cs := cs) (off := 1) (by omega)
  rw [e1] at f1
  obtain ⟨l, w1⟩ := trod_slice reads_dn Try.underlying212 (by kernel_rfl) f1
  have hcs := segs_all cs [1, 1] 0 (by simpa using hl)
  simp only [List.drop_zero, segs, List.flatten_cons, List.flatten_nil, List.append_nil, Nat.zero_add, Nat.reduceAdd, e0, e1] at hcs
  (try rw [List.drop_zero] at e0)
  (try simp only [e0] at hcs)
  exact ⟨⟨ix, l⟩, v, hcs, bounds_i64 w0, w1⟩
theorem reads_ba : Reads BaR 94 := by
  intro H enc W fuel cs x h
  obtain ⟨xs, n, _, -, hl, hn, hf⟩ := DataW.trod_struct Try.underlying94 h
  rw [show Try.prog.cellsOf 94 = 5 from by kernel_rfl] at hl
  have hxs : xs.length = 5 := hn
  have f0 : DataW.trod enc Try.prog W 0 (fun _ => true) true n 3 ((cs.drop 0).take (Try.prog.cellsOf 3)) = xs[0]? := hf 0 _ rfl
  rw [List.getElem?_eq_getElem (by omega), show Try.prog.cellsOf 3 = 1 from by kernel_rfl] at f0
  have f1 : DataW.trod enc Try.prog W 0 (fun _ => true) true n 45 ((cs.drop 1).take (Try.prog.cellsOf 45)) = xs[1]? := hf 1 _ rfl
  rw [List.getElem?_eq_getElem (by omega), show Try.prog.cellsOf 45 = 1 from by kernel_rfl] at f1
  have f2 : DataW.trod enc Try.prog W 0 (fun _ => true) true n 90 ((cs.drop 2).take (Try.prog.cellsOf 90)) = xs[2]? := hf 2 _ rfl
  rw [List.getElem?_eq_getElem (by omega), show Try.prog.cellsOf 90 = 1 from by kernel_rfl] at f2
  have f3 : DataW.trod enc Try.prog W 0 (fun _ => true) true n 91 ((cs.drop 3).take (Try.prog.cellsOf 91)) = xs[3]? := hf 3 _ rfl
  rw [List.getElem?_eq_getElem (by omega), show Try.prog.cellsOf 91 = 1 from by kernel_rfl] at f3
  have f4 : DataW.trod enc Try.prog W 0 (fun _ => true) true n 92 ((cs.drop 4).take (Try.prog.cellsOf 92)) = xs[4]? := hf 4 _ rfl
  rw [List.getElem?_eq_getElem (by omega), show Try.prog.cellsOf 92 = 1 from by kernel_rfl] at f4
  obtain ⟨ep, e0, _, w0⟩ := DataW.trod_int Try.underlying3 f0
  obtain ⟨tm', e1, _, w1⟩ := DataW.trod_int Try.underlying45 f1
  obtain ⟨tm, rfl, w1'⟩ := u64_nat w1
  obtain ⟨vp, e2⟩ := seg_one (cs := cs) (off := 2) (by omega)
  rw [e2] at f2
  obtain ⟨ps, w2⟩ := trod_slice reads_pm Try.underlying90 (by kernel_rfl) f2
  obtain ⟨vo, e3⟩ := seg_one (cs := cs) (off := 3) (by omega)
  rw [e3] at f3
  obtain ⟨os, w3⟩ := trod_slice reads_op Try.underlying91 (by kernel_rfl) f3
  obtain ⟨vt, e4⟩ := seg_one (cs := cs) (off := 4) (by omega)
  rw [e4] at f4
  obtain ⟨ts, w4⟩ := trod_slice reads_tb Try.underlying92 (by kernel_rfl) f4
  have hcs := segs_all cs [1, 1, 1, 1, 1] 0 (by simpa using hl)
  simp only [List.drop_zero, segs, List.flatten_cons, List.flatten_nil, List.append_nil, Nat.zero_add, Nat.reduceAdd, e0, e1, e2, e3, e4] at hcs
  (try rw [List.drop_zero] at e0)
  (try simp only [e0] at hcs)
  exact ⟨⟨ep, tm, ps, os, ts⟩, vp, vo, vt, hcs, ⟨bounds_i64 w0, w1'⟩, w2, w3, w4⟩
end Go.Proofs.Ytpnikilkcifncaa

/- Proposals as arguments. -/
namespace Go.Proofs.Ytpnikilkcifncaa
open Go Go.RowKit Go.Gv Go.ChangeShapes Go.WideShapes Go.ChangeAt Go.Deep

theorem reads_pr : Reads PrR 96 := by
  intro H enc W fuel cs x h
  obtain ⟨xs, n, _, -, hl, hn, hf⟩ := DataW.trod_struct Try.underlying96 h
  rw [show Try.prog.cellsOf 96 = 11 from by kernel_rfl] at hl
  have hxs : xs.length = 6 := hn
  have f0 : DataW.trod enc Try.prog W 0 (fun _ => true) true n 3 ((cs.drop 0).take (Try.prog.cellsOf 3)) = xs[0]? := hf 0 _ rfl
  rw [List.getElem?_eq_getElem (by omega), show Try.prog.cellsOf 3 = 1 from by kernel_rfl] at f0
  have f1 : DataW.trod enc Try.prog W 0 (fun _ => true) true n 3 ((cs.drop 1).take (Try.prog.cellsOf 3)) = xs[1]? := hf 1 _ rfl
  rw [List.getElem?_eq_getElem (by omega), show Try.prog.cellsOf 3 = 1 from by kernel_rfl] at f1
  have f2 : DataW.trod enc Try.prog W 0 (fun _ => true) true n 3 ((cs.drop 2).take (Try.prog.cellsOf 3)) = xs[2]? := hf 2 _ rfl
  rw [List.getElem?_eq_getElem (by omega), show Try.prog.cellsOf 3 = 1 from by kernel_rfl] at f2
  have f3 : DataW.trod enc Try.prog W 0 (fun _ => true) true n 3 ((cs.drop 3).take (Try.prog.cellsOf 3)) = xs[3]? := hf 3 _ rfl
  rw [List.getElem?_eq_getElem (by omega), show Try.prog.cellsOf 3 = 1 from by kernel_rfl] at f3
  have f4 : DataW.trod enc Try.prog W 0 (fun _ => true) true n 94 ((cs.drop 4).take (Try.prog.cellsOf 94)) = xs[4]? := hf 4 _ rfl
  rw [List.getElem?_eq_getElem (by omega), show Try.prog.cellsOf 94 = 5 from by kernel_rfl] at f4
  have f5 : DataW.trod enc Try.prog W 0 (fun _ => true) true n 34 ((cs.drop 9).take (Try.prog.cellsOf 34)) = xs[5]? := hf 5 _ rfl
  rw [List.getElem?_eq_getElem (by omega), show Try.prog.cellsOf 34 = 2 from by kernel_rfl] at f5
  obtain ⟨ep, e0, _, w0⟩ := DataW.trod_int Try.underlying3 f0
  obtain ⟨rn, e1, _, w1⟩ := DataW.trod_int Try.underlying3 f1
  obtain ⟨vl, e2, _, w2⟩ := DataW.trod_int Try.underlying3 f2
  obtain ⟨rp, e3, _, w3⟩ := DataW.trod_int Try.underlying3 f3
  obtain ⟨ba, w4⟩ := reads_ba _ _ _ _ _ _ f4
  obtain ⟨vp, vo, vt, e4, w4, w4'⟩ := w4
  obtain ⟨sb, mr, e5, w5, w5'⟩ := trod_pair Try.underlying34 rfl rfl rfl (by kernel_rfl) f5
  have hcs := segs_all cs [1, 1, 1, 1, 5, 2] 0 (by simpa using hl)
  simp only [List.drop_zero, segs, List.flatten_cons, List.flatten_nil, List.append_nil, Nat.zero_add, Nat.reduceAdd, e0, e1, e2, e3, e4, e5] at hcs
  (try rw [List.drop_zero] at e0)
  (try simp only [e0] at hcs)
  exact ⟨⟨ep, rn, vl, rp, ba, sb, mr⟩, vp, vo, vt, hcs, ⟨bounds_i64 w0, bounds_i64 w1, bounds_i64 w2, bounds_i64 w3, w4, w5, w5'⟩, w4'⟩
end Go.Proofs.Ytpnikilkcifncaa

/- Messages as arguments. -/
namespace Go.Proofs.Ytpnikilkcifncaa
open Go Go.RowKit Go.Gv Go.ChangeShapes Go.WideShapes Go.ChangeAt Go.Deep

theorem reads_dc : Reads DcR 107 := by
  intro H enc W fuel cs x h
  obtain ⟨xs, n, _, -, hl, hn, hf⟩ := DataW.trod_struct Try.underlying107 h
  rw [show Try.prog.cellsOf 107 = 8 from by kernel_rfl] at hl
  have hxs : xs.length = 4 := hn
  have f0 : DataW.trod enc Try.prog W 0 (fun _ => true) true n 3 ((cs.drop 0).take (Try.prog.cellsOf 3)) = xs[0]? := hf 0 _ rfl
  rw [List.getElem?_eq_getElem (by omega), show Try.prog.cellsOf 3 = 1 from by kernel_rfl] at f0
  have f1 : DataW.trod enc Try.prog W 0 (fun _ => true) true n 3 ((cs.drop 1).take (Try.prog.cellsOf 3)) = xs[1]? := hf 1 _ rfl
  rw [List.getElem?_eq_getElem (by omega), show Try.prog.cellsOf 3 = 1 from by kernel_rfl] at f1
  have f2 : DataW.trod enc Try.prog W 0 (fun _ => true) true n 94 ((cs.drop 2).take (Try.prog.cellsOf 94)) = xs[2]? := hf 2 _ rfl
  rw [List.getElem?_eq_getElem (by omega), show Try.prog.cellsOf 94 = 5 from by kernel_rfl] at f2
  have f3 : DataW.trod enc Try.prog W 0 (fun _ => true) true n 105 ((cs.drop 7).take (Try.prog.cellsOf 105)) = xs[3]? := hf 3 _ rfl
  rw [List.getElem?_eq_getElem (by omega), show Try.prog.cellsOf 105 = 1 from by kernel_rfl] at f3
  obtain ⟨ep, e0, _, w0⟩ := DataW.trod_int Try.underlying3 f0
  obtain ⟨rn, e1, _, w1⟩ := DataW.trod_int Try.underlying3 f1
  obtain ⟨ba, w2⟩ := reads_ba _ _ _ _ _ _ f2
  obtain ⟨vp, vo, vt, e2, w2, w2'⟩ := w2
  obtain ⟨vl, e3⟩ := seg_one (cs := cs) (off := 7) (by omega)
  rw [e3] at f3
  obtain ⟨l, w3⟩ := trod_slice reads_vt Try.underlying105 (by kernel_rfl) f3
  have hcs := segs_all cs [1, 1, 5, 1] 0 (by simpa using hl)
  simp only [List.drop_zero, segs, List.flatten_cons, List.flatten_nil, List.append_nil, Nat.zero_add, Nat.reduceAdd, e0, e1, e2, e3] at hcs
  (try rw [List.drop_zero] at e0)
  (try simp only [e0] at hcs)
  exact ⟨⟨ep, rn, ba, l⟩, vp, vo, vt, vl, hcs, ⟨bounds_i64 w0, bounds_i64 w1, w2⟩, w2'.1, w2'.2.1, w2'.2.2, w3⟩
theorem reads_en : Reads EnR 100 := by
  intro H enc W fuel cs x h
  obtain ⟨xs, n, _, -, hl, hn, hf⟩ := DataW.trod_struct Try.underlying100 h
  rw [show Try.prog.cellsOf 100 = 35 from by kernel_rfl] at hl
  have hxs : xs.length = 3 := hn
  have f0 : DataW.trod enc Try.prog W 0 (fun _ => true) true n 30 ((cs.drop 0).take (Try.prog.cellsOf 30)) = xs[0]? := hf 0 _ rfl
  rw [List.getElem?_eq_getElem (by omega), show Try.prog.cellsOf 30 = 2 from by kernel_rfl] at f0
  have f1 : DataW.trod enc Try.prog W 0 (fun _ => true) true n 32 ((cs.drop 2).take (Try.prog.cellsOf 32)) = xs[1]? := hf 1 _ rfl
  rw [List.getElem?_eq_getElem (by omega), show Try.prog.cellsOf 32 = 32 from by kernel_rfl] at f1
  have f2 : DataW.trod enc Try.prog W 0 (fun _ => true) true n 45 ((cs.drop 34).take (Try.prog.cellsOf 45)) = xs[2]? := hf 2 _ rfl
  rw [List.getElem?_eq_getElem (by omega), show Try.prog.cellsOf 45 = 1 from by kernel_rfl] at f2
  obtain ⟨cl, sq, e0, w0, w0'⟩ := trod_pair Try.underlying30 rfl rfl rfl (by kernel_rfl) f0
  obtain ⟨hh, e1, w1, w1'⟩ := trod_arr Try.underlying32 Try.underlying5 (by kernel_rfl) (by kernel_rfl) f1
  obtain ⟨tm', e2, _, w2⟩ := DataW.trod_int Try.underlying45 f2
  obtain ⟨tm, rfl, w2'⟩ := u64_nat w2
  have hcs := segs_all cs [2, 32, 1] 0 (by simpa using hl)
  simp only [List.drop_zero, segs, List.flatten_cons, List.flatten_nil, List.append_nil, Nat.zero_add, Nat.reduceAdd, e0, e1, e2] at hcs
  (try rw [List.drop_zero] at e0)
  (try simp only [e0] at hcs)
  exact ⟨⟨cl, sq, hh, tm⟩, (by first | exact hcs | (rw [hcs]; rfl)), ⟨w0, w0', ⟨w1', w1⟩, w2'⟩⟩
theorem trod_str1 {H : Type} {enc : TypeId × Value → H} {W : World} {n : Nat} {cs : List Value} {x : DataW H × List MemPlace} (h : DataW.trod enc Try.prog W 0 (fun _ => true) true n 9 cs = some x) : ∃ s : ByteArray, cs = [.string s] := by
  obtain ⟨s, hc, _, _⟩ := DataW.trod_string Try.underlying9 h
  exact ⟨s, hc⟩
theorem reads_mg : Reads MgR 109 := by
  intro H enc W fuel cs x h
  obtain ⟨xs, n, _, -, hl, hn, hf⟩ := DataW.trod_struct Try.underlying109 h
  rw [show Try.prog.cellsOf 109 = 295 from by kernel_rfl] at hl
  have hxs : xs.length = 19 := hn
  have f0 : DataW.trod enc Try.prog W 0 (fun _ => true) true n 3 ((cs.drop 0).take (Try.prog.cellsOf 3)) = xs[0]? := hf 0 _ rfl
  rw [List.getElem?_eq_getElem (by omega), show Try.prog.cellsOf 3 = 1 from by kernel_rfl] at f0
  have f1 : DataW.trod enc Try.prog W 0 (fun _ => true) true n 3 ((cs.drop 1).take (Try.prog.cellsOf 3)) = xs[1]? := hf 1 _ rfl
  rw [List.getElem?_eq_getElem (by omega), show Try.prog.cellsOf 3 = 1 from by kernel_rfl] at f1
  have f2 : DataW.trod enc Try.prog W 0 (fun _ => true) true n 3 ((cs.drop 2).take (Try.prog.cellsOf 3)) = xs[2]? := hf 2 _ rfl
  rw [List.getElem?_eq_getElem (by omega), show Try.prog.cellsOf 3 = 1 from by kernel_rfl] at f2
  have f3 : DataW.trod enc Try.prog W 0 (fun _ => true) true n 36 ((cs.drop 3).take (Try.prog.cellsOf 36)) = xs[3]? := hf 3 _ rfl
  rw [List.getElem?_eq_getElem (by omega), show Try.prog.cellsOf 36 = 37 from by kernel_rfl] at f3
  have f4 : DataW.trod enc Try.prog W 0 (fun _ => true) true n 47 ((cs.drop 40).take (Try.prog.cellsOf 47)) = xs[4]? := hf 4 _ rfl
  rw [List.getElem?_eq_getElem (by omega), show Try.prog.cellsOf 47 = 38 from by kernel_rfl] at f4
  have f5 : DataW.trod enc Try.prog W 0 (fun _ => true) true n 84 ((cs.drop 78).take (Try.prog.cellsOf 84)) = xs[5]? := hf 5 _ rfl
  rw [List.getElem?_eq_getElem (by omega), show Try.prog.cellsOf 84 = 38 from by kernel_rfl] at f5
  have f6 : DataW.trod enc Try.prog W 0 (fun _ => true) true n 86 ((cs.drop 116).take (Try.prog.cellsOf 86)) = xs[6]? := hf 6 _ rfl
  rw [List.getElem?_eq_getElem (by omega), show Try.prog.cellsOf 86 = 38 from by kernel_rfl] at f6
  have f7 : DataW.trod enc Try.prog W 0 (fun _ => true) true n 3 ((cs.drop 154).take (Try.prog.cellsOf 3)) = xs[7]? := hf 7 _ rfl
  rw [List.getElem?_eq_getElem (by omega), show Try.prog.cellsOf 3 = 1 from by kernel_rfl] at f7
  have f8 : DataW.trod enc Try.prog W 0 (fun _ => true) true n 3 ((cs.drop 155).take (Try.prog.cellsOf 3)) = xs[8]? := hf 8 _ rfl
  rw [List.getElem?_eq_getElem (by omega), show Try.prog.cellsOf 3 = 1 from by kernel_rfl] at f8
  have f9 : DataW.trod enc Try.prog W 0 (fun _ => true) true n 45 ((cs.drop 156).take (Try.prog.cellsOf 45)) = xs[9]? := hf 9 _ rfl
  rw [List.getElem?_eq_getElem (by omega), show Try.prog.cellsOf 45 = 1 from by kernel_rfl] at f9
  have f10 : DataW.trod enc Try.prog W 0 (fun _ => true) true n 89 ((cs.drop 157).take (Try.prog.cellsOf 89)) = xs[10]? := hf 10 _ rfl
  rw [List.getElem?_eq_getElem (by omega), show Try.prog.cellsOf 89 = 6 from by kernel_rfl] at f10
  have f11 : DataW.trod enc Try.prog W 0 (fun _ => true) true n 96 ((cs.drop 163).take (Try.prog.cellsOf 96)) = xs[11]? := hf 11 _ rfl
  rw [List.getElem?_eq_getElem (by omega), show Try.prog.cellsOf 96 = 11 from by kernel_rfl] at f11
  have f12 : DataW.trod enc Try.prog W 0 (fun _ => true) true n 98 ((cs.drop 174).take (Try.prog.cellsOf 98)) = xs[12]? := hf 12 _ rfl
  rw [List.getElem?_eq_getElem (by omega), show Try.prog.cellsOf 98 = 38 from by kernel_rfl] at f12
  have f13 : DataW.trod enc Try.prog W 0 (fun _ => true) true n 3 ((cs.drop 212).take (Try.prog.cellsOf 3)) = xs[13]? := hf 13 _ rfl
  rw [List.getElem?_eq_getElem (by omega), show Try.prog.cellsOf 3 = 1 from by kernel_rfl] at f13
  have f14 : DataW.trod enc Try.prog W 0 (fun _ => true) true n 100 ((cs.drop 213).take (Try.prog.cellsOf 100)) = xs[14]? := hf 14 _ rfl
  rw [List.getElem?_eq_getElem (by omega), show Try.prog.cellsOf 100 = 35 from by kernel_rfl] at f14
  have f15 : DataW.trod enc Try.prog W 0 (fun _ => true) true n 102 ((cs.drop 248).take (Try.prog.cellsOf 102)) = xs[15]? := hf 15 _ rfl
  rw [List.getElem?_eq_getElem (by omega), show Try.prog.cellsOf 102 = 34 from by kernel_rfl] at f15
  have f16 : DataW.trod enc Try.prog W 0 (fun _ => true) true n 104 ((cs.drop 282).take (Try.prog.cellsOf 104)) = xs[16]? := hf 16 _ rfl
  rw [List.getElem?_eq_getElem (by omega), show Try.prog.cellsOf 104 = 4 from by kernel_rfl] at f16
  have f17 : DataW.trod enc Try.prog W 0 (fun _ => true) true n 9 ((cs.drop 286).take (Try.prog.cellsOf 9)) = xs[17]? := hf 17 _ rfl
  rw [List.getElem?_eq_getElem (by omega), show Try.prog.cellsOf 9 = 1 from by kernel_rfl] at f17
  have f18 : DataW.trod enc Try.prog W 0 (fun _ => true) true n 107 ((cs.drop 287).take (Try.prog.cellsOf 107)) = xs[18]? := hf 18 _ rfl
  rw [List.getElem?_eq_getElem (by omega), show Try.prog.cellsOf 107 = 8 from by kernel_rfl] at f18
  obtain ⟨kd, e0, _, w0⟩ := DataW.trod_int Try.underlying3 f0
  obtain ⟨fr, e1, _, w1⟩ := DataW.trod_int Try.underlying3 f1
  obtain ⟨to, e2, _, w2⟩ := DataW.trod_int Try.underlying3 f2
  obtain ⟨cm, e3, w3⟩ := reads_cm _ _ _ _ _ _ f3
  obtain ⟨st, e4, w4⟩ := reads_st _ _ _ _ _ _ f4
  obtain ⟨ce, w5⟩ := reads_ce _ _ _ _ _ _ f5
  obtain ⟨ak, e6, w6⟩ := reads_ak _ _ _ _ _ _ f6
  obtain ⟨ep, e7, _, w7⟩ := DataW.trod_int Try.underlying3 f7
  obtain ⟨rn, e8, _, w8⟩ := DataW.trod_int Try.underlying3 f8
  obtain ⟨tm', e9, _, w9⟩ := DataW.trod_int Try.underlying45 f9
  obtain ⟨tm, rfl, w9'⟩ := u64_nat w9
  obtain ⟨pm, w10⟩ := reads_pm _ _ _ _ _ _ f10
  obtain ⟨pr, w11⟩ := reads_pr _ _ _ _ _ _ f11
  obtain ⟨vt, e12, w12⟩ := reads_vt _ _ _ _ _ _ f12
  obtain ⟨ix, e13, _, w13⟩ := DataW.trod_int Try.underlying3 f13
  obtain ⟨en, e14, w14⟩ := reads_en _ _ _ _ _ _ f14
  obtain ⟨op, w15⟩ := reads_op _ _ _ _ _ _ f15
  obtain ⟨dn, e16, w16⟩ := reads_dn _ _ _ _ _ _ f16
  obtain ⟨rp, e17⟩ := trod_str1 f17
  obtain ⟨dc, w18⟩ := reads_dc _ _ _ _ _ _ f18
  have hcs := segs_all cs [1, 1, 1, 37, 38, 38, 38, 1, 1, 1, 6, 11, 38, 1, 35, 34, 4, 1, 8] 0 (by simpa using hl)
  simp only [List.drop_zero, segs, Nat.zero_add, Nat.reduceAdd, e1, e2, e3, e4, e6, e7, e8, e9, e12, e13, e14, e16, e17] at hcs
  (try rw [List.drop_zero] at e0)
  (try simp only [e0] at hcs)
  exact ⟨⟨kd, fr, to, cm, st, ce, ak, ep, rn, tm, pm, pr, vt, ix, en, op, dn, rp, dc⟩, (cs.drop 78).take 38, (cs.drop 157).take 6, (cs.drop 163).take 11, (cs.drop 248).take 34, (cs.drop 287).take 8, hcs, ⟨bounds_i64 w0, bounds_i64 w1, bounds_i64 w2, w3, w4, w6, bounds_i64 w7, bounds_i64 w8, w9', w12, bounds_i64 w13, w14, w16⟩, w5, w10, w11, w15, w18⟩
end Go.Proofs.Ytpnikilkcifncaa
