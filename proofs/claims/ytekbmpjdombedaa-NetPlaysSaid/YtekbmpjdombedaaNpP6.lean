/- Texts that are built one behind the other: XKm, XNw0, XNt8, XCut3, XSq. No condition. -/
import Derived.Test.YtekbmpjdombedaaNpP5
set_option maxRecDepth 100000
set_option linter.unusedVariables false
open List renaming setIfInBounds_toArray → sIB, set_cons_zero → sCZ, set_cons_succ → sCS
/- gavelkeep: comparisons of votes, proposals, messages. -/
namespace Go.Proofs.Ytekbmpjdombedaa
open Go Go.RowKit Go.Gv


theorem run_eql_strE {t : TypeId} {a b : ByteArray} (w : World) : (binOp .eql t (.string a) (.string b)).run Try.prog w = .ok (.bool (eqb a b)) w := by
 rw [binOp_string_eql, Sem.run_pure]
 congr 2
 by_cases h : a = b
 ·rw [h, eqb_rfl]; exact beq_self_eq_true _
 ·rw [eqb_ne h, beq_eq_false_iff_ne]
  intro e
  exact h (ByteArray.ext (Array.toList_inj.1 (by simpa [ByteArray.toList_eq] using e)))
theorem guard_strE {op : BinOp} {t : TypeId} {x y : Operand} {s : ByteArray} {v : Value} (w : World) : (eqGuard op t x y (.string s) v).run Try.prog w = .ok () w := by cases op <;> simp [eqGuard]
theorem pr_eqb (x y : Pr) : (((((x.ep == y.ep) && (x.rn == y.rn)) && (x.vl == y.vl)) && (x.rp == y.rp)) && eqb (x.sb, x.mr) (y.sb, y.mr) && eqb x.ba y.ba) = eqb x y := by
 rw [Bool.eq_iff_iff]
 simp only [Bool.and_eq_true, eqb_iff, beq_I, Prod.mk.injEq]
 cases x; cases y
 simp only [Pr.mk.injEq]
 constructor
 ·rintro ⟨⟨⟨⟨⟨h1, h2⟩, h3⟩, h4⟩, h5, h6⟩, h7⟩; exact ⟨h1, h2, h3, h4, h7, h5, h6⟩
 ·rintro ⟨h1, h2, h3, h4, h7, h5, h6⟩; exact ⟨⟨⟨⟨⟨h1, h2⟩, h3⟩, h4⟩, h5, h6⟩, h7⟩
theorem mg_eqb (x y : Mg) : ((((((((((((((((((((((x.kd == y.kd) && (x.fr == y.fr)) && (x.to == y.to)) && eqb x.cm y.cm) && eqb x.st y.st) && eqb x.ce y.ce) && eqb x.ak y.ak) && (x.ep == y.ep)) && (x.rn == y.rn)) && (((x.tm : Nat) : Int) == ((y.tm : Nat) : Int))) && eqb x.pm y.pm) && eqb x.pr y.pr) && eqb x.vt y.vt) && (x.ix == y.ix)) && eqb x.en y.en) && eqb x.op y.op) && eqb x.dn y.dn) && eqb x.rp y.rp) && (x.dc.ep == y.dc.ep)) && (x.dc.rn == y.dc.rn)) && eqb x.dc.ba y.dc.ba) && eqb x.dc.l y.dc.l) = eqb x y := by
 rw [Bool.eq_iff_iff]
 simp only [Bool.and_eq_true, eqb_iff, beq_I, Int.ofNat_inj]
 obtain ⟨a0, a1, a2, a3, a4, a5, a6, a7, a8, a9, a10, a11, a12, a13, a14, a15, a16, a17, ⟨d0, d1, d2, d3⟩⟩ := x
 obtain ⟨b0, b1, b2, b3, b4, b5, b6, b7, b8, b9, b10, b11, b12, b13, b14, b15, b16, b17, ⟨e0, e1, e2, e3⟩⟩ := y
 simp only [Mg.mk.injEq, Dc.mk.injEq]
 constructor
 ·rintro ⟨⟨⟨⟨⟨⟨⟨⟨⟨⟨⟨⟨⟨⟨⟨⟨⟨⟨⟨⟨⟨h0, h1⟩, h2⟩, h3⟩, h4⟩, h5⟩, h6⟩, h7⟩, h8⟩, h9⟩, h10⟩, h11⟩, h12⟩, h13⟩, h14⟩, h15⟩, h16⟩, h17⟩, h18⟩, h19⟩, h20⟩, h21⟩; exact ⟨h0, h1, h2, h3, h4, h5, h6, h7, h8, h9, h10, h11, h12, h13, h14, h15, h16, h17, h18, h19, h20, h21⟩
 ·rintro ⟨h0, h1, h2, h3, h4, h5, h6, h7, h8, h9, h10, h11, h12, h13, h14, h15, h16, h17, h18, h19, h20, h21⟩; exact ⟨⟨⟨⟨⟨⟨⟨⟨⟨⟨⟨⟨⟨⟨⟨⟨⟨⟨⟨⟨⟨h0, h1⟩, h2⟩, h3⟩, h4⟩, h5⟩, h6⟩, h7⟩, h8⟩, h9⟩, h10⟩, h11⟩, h12⟩, h13⟩, h14⟩, h15⟩, h16⟩, h17⟩, h18⟩, h19⟩, h20⟩, h21⟩
set_option maxHeartbeats 4000000 in
theorem EqL_Vt : EqsL VtR 28 := by
 intro R R2 v v2 l m w hs ht hB hB2
 obtain ⟨ao, cap, rfl⟩ := hs.shape
 obtain ⟨bo, bcap, rfl⟩ := ht.shape
 have hlm : l.length ≤ maxLen := hs.bd
 rw [maxLen_val] at hlm
 have HS := Lib.hid hs
 have HT := Lib.hid ht
 have HBR := Lib.hid hB
 have HBT := Lib.hid hB2
 clear hs ht hB hB2
 go_enter Try.func28, Try.ntmps28
 go_upto_region 1 with (fail)
 have HM0 := hid (Mod.refl (fun _ => False) w)
 by_cases hl : l.length = m.length
 rotate_left
 ·skip
  go_upto_region 1 with (fail)
  refine wp_region_U 26 [6, 7, 8, 9, 10] [0, 1, 2, 3, 4] (fun a0 HA0 => ?_)
  have oe0 := ev HA0 0 rfl
  have oe1 := ev HA0 1 rfl
  refine QSeq.pure rfl _ (fun E => ex_move rfl (E.v oe0)) ?_
  refine QSeq.pure rfl (.int .i64 l.length) (fun E => ex_lenS rfl (E.d 0 0) Try.underlying63) ?_
  refine QSeq.pure rfl _ (fun E => ex_move rfl (E.v oe1)) ?_
  refine QSeq.pure rfl (.int .i64 m.length) (fun E => ex_lenS rfl (E.d 2 0) Try.underlying63) ?_
  refine QSeq.pure rfl (.bool true) (fun E => ex_binE rfl (E.d 1 2) (E.d 3 0) (guard_ints _ _ _ _ _ _) (run_neq_i _ _ _ Try.underlying3) (congrArg Value.bool (ne_tt (by omega)))) ?_
  refine QSeq.nil (t' := [_, _, _, _, _]) rfl ?_
  obtain rfl := HA0.out
  clear HA0 oe0 oe1
  simp only [pz, Act.put, sIB, sCZ, sCS]
  go_upto_region 2 with (fail)
  refine wp_region_U 26 [4] [0] (fun a0 HA0 => ?_)
  refine QSeq.pure rfl (.bool false) (fun E => ex_assign rfl rfl) ?_
  refine QSeq.nil (t' := [_]) rfl ?_
  obtain rfl := HA0.out
  clear HA0
  simp only [pz, Act.put, sIB, sCZ, sCS]
  go_wp2
  go_ret
  exact ⟨ret_bool (eqb_ne fun e => hl (by rw [e])).symm, HM0.out⟩
 ·skip
  go_upto_region 1 with (fail)
  refine wp_region_U 26 [6, 7, 8, 9, 10] [0, 1, 2, 3, 4] (fun a0 HA0 => ?_)
  have oe0 := ev HA0 0 rfl
  have oe1 := ev HA0 1 rfl
  refine QSeq.pure rfl _ (fun E => ex_move rfl (E.v oe0)) ?_
  refine QSeq.pure rfl (.int .i64 l.length) (fun E => ex_lenS rfl (E.d 0 0) Try.underlying63) ?_
  refine QSeq.pure rfl _ (fun E => ex_move rfl (E.v oe1)) ?_
  refine QSeq.pure rfl (.int .i64 m.length) (fun E => ex_lenS rfl (E.d 2 0) Try.underlying63) ?_
  refine QSeq.pure rfl (.bool false) (fun E => ex_binE rfl (E.d 1 2) (E.d 3 0) (guard_ints _ _ _ _ _ _) (run_neq_i _ _ _ Try.underlying3) (congrArg Value.bool (ne_ff (by omega)))) ?_
  refine QSeq.nil (t' := [_, _, _, _, _]) rfl ?_
  obtain rfl := HA0.out
  clear HA0 oe0 oe1
  simp only [pz, Act.put, sIB, sCZ, sCS]
  go_upto_region 3 with (fail)
  refine wp_region_U 26 [5] [0] (fun a0 HA0 => ?_)
  refine QSeq.pure rfl (.int .i64 0) (fun E => ex_assign rfl rfl) ?_
  refine QSeq.nil (t' := [_]) rfl ?_
  obtain rfl := HA0.out
  clear HA0
  simp only [pz, Act.put, sIB, sCZ, sCS]
  have HLE := Lib.hid hl
  clear hl
  go_wp2
  go_loopw [5] (fun ti wr => ∃ k : Nat, ti = .int .i64 (k : Int) ∧ k ≤ l.length ∧ l.take k = m.take k ∧ w.heap.size ≤ wr.heap.size ∧ RdS VtR R wr (.slice ao l.length cap) l ∧ RdS VtR R2 wr (.slice bo m.length bcap) m ∧ Mod (fun _ => False) w wr) (fun ti _ => l.length - (intOf ti).toNat)
  case atStart => exact ⟨0, rfl, Nat.zero_le _, rfl, Nat.le_refl _, HS.out, HT.out, HM0.out⟩
  case round =>
   obtain ⟨k, rfl, hk, htk, hz, hs, ht, hm⟩ := hrel
   obtain ⟨wl, rfl⟩ : ∃ x, x = wr := ⟨_, rfl⟩
   have HS2 := Lib.hid hs
   have HT2 := Lib.hid ht
   have HML := Lib.hid hm
   have HTK := Lib.hid htk
   clear hs ht hm htk HS HT HM0
   by_cases hlt : k < l.length
   ·have hlt2 : k < m.length := by have := HLE.out; omega
    go_upto_region 4 with (fail)
    refine wp_region_U 26 [11, 12, 13, 14] [0, 1, 2, 3] (fun a0 HA0 => ?_)
    have oe0 := ev HA0 0 rfl
    have oe5 := ev HA0 5 rfl
    refine QSeq.pure rfl _ (fun E => ex_move rfl (E.v oe5)) ?_
    refine QSeq.pure rfl _ (fun E => ex_move rfl (E.v oe0)) ?_
    refine QSeq.pure rfl (.int .i64 l.length) (fun E => ex_lenS rfl (E.d 1 0) Try.underlying63) ?_
    refine QSeq.pure rfl (.bool true) (fun E => ex_binE rfl (E.d 0 2) (E.d 2 0) (guard_ints _ _ _ _ _ _) (run_lss_i _ _ _ Try.underlying3) (congrArg Value.bool (decide_eq_true (by omega)))) ?_
    refine QSeq.nil (t' := [_, _, _, _]) rfl ?_
    obtain rfl := HA0.out
    clear HA0 oe0 oe5
    simp only [pz, Act.put, sIB, sCZ, sCS]
    have hat := HS2.out.at hlt
    obtain ⟨g1, o1, c1, eao, hrg, hrd, hcs⟩ := hat
    subst eao
    obtain ⟨x, hx⟩ : ∃ z, z = l[k] := ⟨_, rfl⟩
    rw [← hx] at hrd
    have HX1 := Lib.hid hx
    have hcl : c1.length = 38 := VtR.len hrd
    have HCL1 := Lib.hid hcl
    have HAT1 := hid (show CellsAt R wl g1 (o1 + k * 38) c1 from ⟨hrg, hcs⟩)
    have HRD1 := Lib.hid hrd
    clear hcl hcs hrd hrg hx
    have hat := HT2.out.at hlt2
    obtain ⟨g2, o2, c2, eao, hrg, hrd, hcs⟩ := hat
    subst eao
    obtain ⟨y, hy⟩ : ∃ z, z = m[k] := ⟨_, rfl⟩
    rw [← hy] at hrd
    have HX2 := Lib.hid hy
    have hcl : c2.length = 38 := VtR.len hrd
    have HCL2 := Lib.hid hcl
    have HAT2 := hid (show CellsAt R2 wl g2 (o2 + k * 38) c2 from ⟨hrg, hcs⟩)
    have HRD2 := Lib.hid hrd
    clear hcl hcs hrd hrg hy
    obtain ⟨b, hb⟩ : ∃ b, b = eqb x y := ⟨_, rfl⟩
    have HB := Lib.hid hb
    clear hb
    obtain ⟨rfl, hok1⟩ := HRD1.out
    obtain ⟨rfl, hok2⟩ := HRD2.out
    have HO1 := Lib.hid hok1
    have HO2 := Lib.hid hok2
    clear hok1 hok2
    clear HRD1
    clear HRD2
    go_upto_region 6 with (fail)
    generalize ha0 : Act.mk _ _ = a0
    have oe0 : a0.eval (.tmp 0) = .slice (some ⟨g1, o1, none⟩) l.length cap := by rw [← ha0]; rfl
    have oe1 : a0.eval (.tmp 1) = .slice (some ⟨g2, o2, none⟩) m.length bcap := by rw [← ha0]; rfl
    have oe5 : a0.eval (.tmp 5) = .int .i64 ((k : Nat) : Int) := by rw [← ha0]; rfl
    have hsz0 : a0.tmps.size = 26 := by rw [← ha0]; rfl
    have HA0 := hid ha0
    clear ha0
    refine wp_region_Q0 26 hsz0 [17, 18, 19, 20, 21, 22, 23, 24, 25] [qi (.slice (some ⟨g1, o1, none⟩) l.length cap), qi (.int .i64 ((k : Nat) : Int)), qi (.pointer (some ⟨g1, o1 + k * 38, none⟩)), qi (.agg x.cells.toArray), qi (.slice (some ⟨g2, o2, none⟩) m.length bcap), qi (.int .i64 ((k : Nat) : Int)), qi (.pointer (some ⟨g2, o2 + k * 38, none⟩)), qi (.agg y.cells.toArray), qi (.bool (!b))] ⟨qi_stable, qi_stable, qi_stable, qi_stable, qi_stable, qi_stable, qi_stable, qi_stable, qi_stable, trivial⟩ [] ⟨?_, ?_, ?_, ?_, ?_, ?_, ?_, ?_, ?_, trivial⟩ ?_
    ·exact stq (fun E => ex_move rfl (E.v oe0))
    ·exact stq (fun E => ex_move rfl (E.v oe5))
    ·exact stq (fun E => ex_idxS (i := k) (s := 38) rfl Try.underlying63 (by kernel_rfl) (E.d 0) (E.d 1) (by first | exact hlt | exact hlt2))
    ·exact stq (fun E => ex_loadA rfl Try.underlying55 rfl (off := o1 + k * 38) (cs := x.cells) (by rw [HCL1.out]; kernel_rfl) (E.d 2) (fun j u hu => ((HAT1.out.mod E.m.old (by intro k h1 h2; have hb := HBR.out k h1; omega))).2 j u hu))
    ·exact stq (fun E => ex_move rfl (E.v oe1))
    ·exact stq (fun E => ex_move rfl (E.v oe5))
    ·exact stq (fun E => ex_idxS (i := k) (s := 38) rfl Try.underlying63 (by kernel_rfl) (E.d 4) (E.d 5) (by first | exact hlt | exact hlt2))
    ·exact stq (fun E => ex_loadA rfl Try.underlying55 rfl (off := o2 + k * 38) (cs := y.cells) (by rw [HCL2.out]; kernel_rfl) (E.d 6) (fun j u hu => ((HAT2.out.mod E.m.old (by intro k h1 h2; have hb := HBT.out k h1; omega))).2 j u hu))
    ·exact stq (fun E => ex_binE rfl (E.d 3) (E.d 7) (agg_guardE _ _ _ _ _ _ (by kernel_rfl) _) (EqW.runN eqW_vote (ki_vt HO1.out) (ki_vt HO2.out) (vt_iff HO1.out HO2.out) _) (congrArg (fun z => Value.bool (!z)) HB.out.symm))
    intro u6_0 hr
    have zu6_0 := hr.size
    have Cx1 := hid (hr.new (S := (fun _ => False)))
    clear hr
    refine QChain.nil fun vs hl hzz hrows hne => ?_
    obtain ⟨Z, hYZ, hZb, hV⟩ := hzz
    have f0 := fvi hV hl 0
    have f1 := fvi hV hl 1
    have f4 := fvi hV hl 4
    have f5 := fvi hV hl 5
    have f8 := fvi hV hl 8
    rw [show vs = [gw vs 0, gw vs 1, gw vs 2, gw vs 3, gw vs 4, gw vs 5, gw vs 6, gw vs 7, gw vs 8] from (gw_eta hl).trans rfl]
    have ha0 := HA0.out
    subst ha0
    clear HA0 hV hYZ hZb hsz0 hrows hne oe0 oe1 oe5
    simp only [putAll, Act.put, sIB, sCZ, sCS, f0, f1, f4, f5, f8]
    clear hl f0 f1 f4 f5 f8
    cases b with
    | false =>
     go_upto_region 7 with (fail)
     refine wp_region_U 26 [4] [0] (fun a0 HA0 => ?_)
     refine QSeq.pure rfl (.bool false) (fun E => ex_assign rfl rfl) ?_
     refine QSeq.nil (t' := [_]) rfl ?_
     obtain rfl := HA0.out
     clear HA0
     simp only [pz, Act.put, sIB, sCZ, sCS]
     go_wp2
     go_ret
     exact ⟨ret_bool (take_ne hlt hlt2 (fun e => by have h := HB.out; rw [HX1.out, HX2.out, e, eqb_rfl] at h; cases h)).symm, (HML.out.trans Cx1.out (fun _ _ h => h.elim))⟩
    | true =>
     go_upto_region 5 with (fail)
     refine wp_region_U 26 [15, 16, 5] [0, 1, 2] (fun a0 HA0 => ?_)
     have oe5 := ev HA0 5 rfl
     refine QSeq.pure rfl _ (fun E => ex_move rfl (E.y 2 oe5)) ?_
     refine QSeq.pure rfl (.int .i64 (((k : Nat) : Int) + 1)) (fun E => ex_binE rfl (E.d 0 0) rfl (guard_ints _ _ _ _ _ _) (run_add_i _ _ Try.underlying3) (congrArg (Value.int .i64) (IntWalk.i64_in _ (by omega)))) ?_
     refine QSeq.pure rfl _ (fun E => ex_assign rfl (E.d 1 0)) ?_
     refine QSeq.nil (t' := [_, _, _]) rfl ?_
     obtain rfl := HA0.out
     clear HA0 oe5
     simp only [pz, Act.put, sIB, sCZ, sCS]
     go_wp2
     go_roundw
     case rel => exact ⟨k + 1, by go_num, by omega, take_succ2 hlt hlt2 HTK.out (by have h := eqb_iff.1 HB.out.symm; rw [HX1.out, HX2.out] at h; exact h), by omega, (HS2.out.mod Cx1.out (fun _ _ h => h)), (HT2.out.mod Cx1.out (fun _ _ h => h)), (HML.out.trans Cx1.out (fun _ _ h => h.elim))⟩
     case measure => simp [intOf] <;> omega
   ·skip
    go_upto_region 4 with (fail)
    refine wp_region_U 26 [11, 12, 13, 14] [0, 1, 2, 3] (fun a0 HA0 => ?_)
    have oe0 := ev HA0 0 rfl
    have oe5 := ev HA0 5 rfl
    refine QSeq.pure rfl _ (fun E => ex_move rfl (E.v oe5)) ?_
    refine QSeq.pure rfl _ (fun E => ex_move rfl (E.v oe0)) ?_
    refine QSeq.pure rfl (.int .i64 l.length) (fun E => ex_lenS rfl (E.d 1 0) Try.underlying63) ?_
    refine QSeq.pure rfl (.bool false) (fun E => ex_binE rfl (E.d 0 2) (E.d 2 0) (guard_ints _ _ _ _ _ _) (run_lss_i _ _ _ Try.underlying3) (congrArg Value.bool (decide_eq_false (by omega)))) ?_
    refine QSeq.nil (t' := [_, _, _, _]) rfl ?_
    obtain rfl := HA0.out
    clear HA0 oe0 oe5
    simp only [pz, Act.put, sIB, sCZ, sCS]
    go_upto_region 8 with (fail)
    refine wp_region_U 26 [4] [0] (fun a0 HA0 => ?_)
    refine QSeq.pure rfl (.bool true) (fun E => ex_assign rfl rfl) ?_
    refine QSeq.nil (t' := [_]) rfl ?_
    obtain rfl := HA0.out
    clear HA0
    simp only [pz, Act.put, sIB, sCZ, sCS]
    go_wp2
    go_ret
    exact ⟨ret_bool (take_all (by omega) (by have := HLE.out; omega) HTK.out).symm, HML.out⟩
set_option maxHeartbeats 4000000 in
theorem Eq_Pr : Eqs PrR 25 := by
 intro R R2 cs ds x y w hx hy hB hB2
 obtain ⟨vx_ba.ps, vx_ba.os, vx_ba.ts, rfl, hokx, hx_ba.ps, hx_ba.os, hx_ba.ts⟩ := hx
 obtain ⟨ax_ba.ps, kx_ba.ps, rfl⟩ := hx_ba.ps.shape
 have Hx_ba.ps := Lib.hid hx_ba.ps
 clear hx_ba.ps
 obtain ⟨ax_ba.os, kx_ba.os, rfl⟩ := hx_ba.os.shape
 have Hx_ba.os := Lib.hid hx_ba.os
 clear hx_ba.os
 obtain ⟨ax_ba.ts, kx_ba.ts, rfl⟩ := hx_ba.ts.shape
 have Hx_ba.ts := Lib.hid hx_ba.ts
 clear hx_ba.ts
 have HOKx := Lib.hid hokx
 clear hokx
 obtain ⟨vy_ba.ps, vy_ba.os, vy_ba.ts, rfl, hoky, hy_ba.ps, hy_ba.os, hy_ba.ts⟩ := hy
 obtain ⟨ay_ba.ps, ky_ba.ps, rfl⟩ := hy_ba.ps.shape
 have Hy_ba.ps := Lib.hid hy_ba.ps
 clear hy_ba.ps
 obtain ⟨ay_ba.os, ky_ba.os, rfl⟩ := hy_ba.os.shape
 have Hy_ba.os := Lib.hid hy_ba.os
 clear hy_ba.os
 obtain ⟨ay_ba.ts, ky_ba.ts, rfl⟩ := hy_ba.ts.shape
 have Hy_ba.ts := Lib.hid hy_ba.ts
 clear hy_ba.ts
 have HOKy := Lib.hid hoky
 clear hoky
 have HBR := Lib.hid hB
 have HBT := Lib.hid hB2
 clear hB hB2
 go_enter Try.func25, Try.ntmps25
 go_upto_region 1 with (fail)
 obtain ⟨w1, hw1⟩ : ∃ zz, zz = ((w.alloc (.cells (x.cells (.slice ax_ba.ps x.ba.ps.length kx_ba.ps) (.slice ax_ba.os x.ba.os.length kx_ba.os) (.slice ax_ba.ts x.ba.ts.length kx_ba.ts) : List Value).toArray 53)).alloc (.cells (y.cells (.slice ay_ba.ps y.ba.ps.length ky_ba.ps) (.slice ay_ba.os y.ba.os.length ky_ba.os) (.slice ay_ba.ts y.ba.ts.length ky_ba.ts) : List Value).toArray 53)) := ⟨_, rfl⟩
 change Code.wp _ _ _ _ ((w.alloc (.cells (x.cells (.slice ax_ba.ps x.ba.ps.length kx_ba.ps) (.slice ax_ba.os x.ba.os.length kx_ba.os) (.slice ax_ba.ts x.ba.ts.length kx_ba.ts) : List Value).toArray 53)).alloc (.cells (y.cells (.slice ay_ba.ps y.ba.ps.length ky_ba.ps) (.slice ay_ba.os y.ba.os.length ky_ba.os) (.slice ay_ba.ts y.ba.ts.length ky_ba.ts) : List Value).toArray 53))
 rw [← hw1]
 have HB2 := hid (show Cs w1 (w.heap.size) (x.cells (.slice ax_ba.ps x.ba.ps.length kx_ba.ps) (.slice ax_ba.os x.ba.os.length kx_ba.os) (.slice ax_ba.ts x.ba.ts.length kx_ba.ts) : List Value).toArray 53 by rw [hw1]; exact (Cs.new _ _ _).alloc _)
 have HB3 := hid (show Cs w1 (w.heap.size + 1) (y.cells (.slice ay_ba.ps y.ba.ps.length ky_ba.ps) (.slice ay_ba.os y.ba.os.length ky_ba.os) (.slice ay_ba.ts y.ba.ts.length ky_ba.ts) : List Value).toArray 53 by rw [hw1]; exact Cs_newN _ _ _ (by simp))
 have hm : Mod (fun _ => False) w w1 := by rw [hw1]; exact ((Mod.refl _ _).alloc _).alloc _
 have HM0 := hid (show Mod (fun _ => False) w w1 from hm.mono (fun _ _ h => h.elim))
 have hs1 : w1.heap.size = w.heap.size + 2 := by rw [hw1]; simp
 have Hx1 := hid (Hx_ba.ps.out.mod hm (fun _ _ h => h))
 clear Hx_ba.ps
 have Hx2 := hid (Hx_ba.os.out.mod hm (fun _ _ h => h))
 clear Hx_ba.os
 have Hx3 := hid (Hx_ba.ts.out.mod hm (fun _ _ h => h))
 clear Hx_ba.ts
 have Hx4 := hid (Hy_ba.ps.out.mod hm (fun _ _ h => h))
 clear Hy_ba.ps
 have Hx5 := hid (Hy_ba.os.out.mod hm (fun _ _ h => h))
 clear Hy_ba.os
 have Hx6 := hid (Hy_ba.ts.out.mod hm (fun _ _ h => h))
 clear Hy_ba.ts
 clear hw1 hm
 go_upto_region 1 with (fail)
 refine wp_region_U 45 [5, 6, 7, 8, 9, 10, 11, 12, 13, 14, 15, 16, 17, 18, 19, 20, 21, 22, 23, 24, 25, 26, 27, 28, 29, 30, 31, 32, 33, 34, 35, 36, 37, 38, 39, 40, 41, 42, 43, 44, 4] [0, 1, 2, 3, 4, 5, 6, 7, 8, 9, 10, 11, 12, 13, 14, 15, 16, 17, 18, 19, 20, 21, 22, 23, 24, 25, 26, 27, 28, 29, 30, 31, 32, 33, 34, 35, 36, 37, 38, 39, 40] (fun a0 HA0 => ?_)
 have oe2 := ev HA0 2 rfl
 have oe3 := ev HA0 3 rfl
 refine QSeq.pure rfl (.pointer (some ⟨w.heap.size, 0, none⟩)) (fun E => ex_field rfl Try.underlying53 rfl (by kernel_rfl) (E.v oe2)) ?_
 refine QSeq.pure rfl _ (fun E => ex_load1 rfl Try.underlying3 rfl (E.d 0 0) (Cs.lit1 HB2.out rfl)) ?_
 refine QSeq.pure rfl (.pointer (some ⟨w.heap.size + 1, 0, none⟩)) (fun E => ex_field rfl Try.underlying53 rfl (by kernel_rfl) (E.v oe3)) ?_
 refine QSeq.pure rfl _ (fun E => ex_load1 rfl Try.underlying3 rfl (E.d 2 0) (Cs.lit1 HB3.out rfl)) ?_
 refine QSeq.pure rfl (.bool (x.ep == y.ep)) (fun E => ex_bin rfl (E.d 1 2) (E.d 3 0) (guard_ints _ _ _ _ _ _) (run_eql_i _ _ _ Try.underlying3)) ?_
 refine QSeq.pure rfl _ (fun E => ex_move rfl (E.d 4 0)) ?_
 refine QSeq.may (b := (x.ep == y.ep)) rfl (.pointer (some ⟨w.heap.size, 1, none⟩)) (fun E => ((wanted_of rfl rfl (E.sz 10 (by decide)) (E.d 5 0)).trans (beq_t _))) (fun E hb => ex_field rfl Try.underlying53 rfl (by kernel_rfl) (E.v oe2)) ?_
 intro v1_6 hw
 have hv1_6 := hid hw
 clear hw
 refine QSeq.may (b := (x.ep == y.ep)) rfl (.int .i64 x.rn) (fun E => ((wanted_of rfl rfl (E.sz 10 (by decide)) (E.d 5 1)).trans (beq_t _))) (fun E hb => ex_load1 rfl Try.underlying3 rfl ((E.q 6 0 hv1_6.out).1 hb) (Cs.lit1 HB2.out rfl)) ?_
 intro v1_7 hw
 have hv1_7 := hid hw
 clear hw
 refine QSeq.may (b := (x.ep == y.ep)) rfl (.pointer (some ⟨w.heap.size + 1, 1, none⟩)) (fun E => ((wanted_of rfl rfl (E.sz 10 (by decide)) (E.d 5 2)).trans (beq_t _))) (fun E hb => ex_field rfl Try.underlying53 rfl (by kernel_rfl) (E.v oe3)) ?_
 intro v1_8 hw
 have hv1_8 := hid hw
 clear hw
 refine QSeq.may (b := (x.ep == y.ep)) rfl (.int .i64 y.rn) (fun E => ((wanted_of rfl rfl (E.sz 10 (by decide)) (E.d 5 3)).trans (beq_t _))) (fun E hb => ex_load1 rfl Try.underlying3 rfl ((E.q 8 0 hv1_8.out).1 hb) (Cs.lit1 HB3.out rfl)) ?_
 intro v1_9 hw
 have hv1_9 := hid hw
 clear hw
 refine QSeq.may (b := (x.ep == y.ep)) rfl (.bool (x.rn == y.rn)) (fun E => ((wanted_of rfl rfl (E.sz 10 (by decide)) (E.d 5 4)).trans (beq_t _))) (fun E hb => ex_bin rfl ((E.q 7 2 hv1_7.out).1 hb) ((E.q 9 0 hv1_9.out).1 hb) (guard_ints _ _ _ _ _ _) (run_eql_i _ _ _ Try.underlying3)) ?_
 intro v1_10 hw
 have hv1_10 := hid hw
 clear hw
 refine QSeq.pure rfl (.bool ((x.ep == y.ep) && (x.rn == y.rn))) (fun E => ex_pickE rfl (E.d 5 5) rfl rfl (and_val fun hb => (E.q 10 0 hv1_10.out).1 hb)) ?_
 refine QSeq.pure rfl _ (fun E => ex_move rfl (E.d 11 0)) ?_
 refine QSeq.may (b := ((x.ep == y.ep) && (x.rn == y.rn))) rfl (.pointer (some ⟨w.heap.size, 2, none⟩)) (fun E => ((wanted_of rfl rfl (E.sz 17 (by decide)) (E.d 12 0)).trans (beq_t _))) (fun E hb => ex_field rfl Try.underlying53 rfl (by kernel_rfl) (E.v oe2)) ?_
 intro v1_13 hw
 have hv1_13 := hid hw
 clear hw
 refine QSeq.may (b := ((x.ep == y.ep) && (x.rn == y.rn))) rfl (.int .i64 x.vl) (fun E => ((wanted_of rfl rfl (E.sz 17 (by decide)) (E.d 12 1)).trans (beq_t _))) (fun E hb => ex_load1 rfl Try.underlying3 rfl ((E.q 13 0 hv1_13.out).1 hb) (Cs.lit1 HB2.out rfl)) ?_
 intro v1_14 hw
 have hv1_14 := hid hw
 clear hw
 refine QSeq.may (b := ((x.ep == y.ep) && (x.rn == y.rn))) rfl (.pointer (some ⟨w.heap.size + 1, 2, none⟩)) (fun E => ((wanted_of rfl rfl (E.sz 17 (by decide)) (E.d 12 2)).trans (beq_t _))) (fun E hb => ex_field rfl Try.underlying53 rfl (by kernel_rfl) (E.v oe3)) ?_
 intro v1_15 hw
 have hv1_15 := hid hw
 clear hw
 refine QSeq.may (b := ((x.ep == y.ep) && (x.rn == y.rn))) rfl (.int .i64 y.vl) (fun E => ((wanted_of rfl rfl (E.sz 17 (by decide)) (E.d 12 3)).trans (beq_t _))) (fun E hb => ex_load1 rfl Try.underlying3 rfl ((E.q 15 0 hv1_15.out).1 hb) (Cs.lit1 HB3.out rfl)) ?_
 intro v1_16 hw
 have hv1_16 := hid hw
 clear hw
 refine QSeq.may (b := ((x.ep == y.ep) && (x.rn == y.rn))) rfl (.bool (x.vl == y.vl)) (fun E => ((wanted_of rfl rfl (E.sz 17 (by decide)) (E.d 12 4)).trans (beq_t _))) (fun E hb => ex_bin rfl ((E.q 14 2 hv1_14.out).1 hb) ((E.q 16 0 hv1_16.out).1 hb) (guard_ints _ _ _ _ _ _) (run_eql_i _ _ _ Try.underlying3)) ?_
 intro v1_17 hw
 have hv1_17 := hid hw
 clear hw
 refine QSeq.pure rfl (.bool (((x.ep == y.ep) && (x.rn == y.rn)) && (x.vl == y.vl))) (fun E => ex_pickE rfl (E.d 12 5) rfl rfl (and_val fun hb => (E.q 17 0 hv1_17.out).1 hb)) ?_
 refine QSeq.pure rfl _ (fun E => ex_move rfl (E.d 18 0)) ?_
 refine QSeq.may (b := (((x.ep == y.ep) && (x.rn == y.rn)) && (x.vl == y.vl))) rfl (.pointer (some ⟨w.heap.size, 3, none⟩)) (fun E => ((wanted_of rfl rfl (E.sz 24 (by decide)) (E.d 19 0)).trans (beq_t _))) (fun E hb => ex_field rfl Try.underlying53 rfl (by kernel_rfl) (E.v oe2)) ?_
 intro v1_20 hw
 have hv1_20 := hid hw
 clear hw
 refine QSeq.may (b := (((x.ep == y.ep) && (x.rn == y.rn)) && (x.vl == y.vl))) rfl (.int .i64 x.rp) (fun E => ((wanted_of rfl rfl (E.sz 24 (by decide)) (E.d 19 1)).trans (beq_t _))) (fun E hb => ex_load1 rfl Try.underlying3 rfl ((E.q 20 0 hv1_20.out).1 hb) (Cs.lit1 HB2.out rfl)) ?_
 intro v1_21 hw
 have hv1_21 := hid hw
 clear hw
 refine QSeq.may (b := (((x.ep == y.ep) && (x.rn == y.rn)) && (x.vl == y.vl))) rfl (.pointer (some ⟨w.heap.size + 1, 3, none⟩)) (fun E => ((wanted_of rfl rfl (E.sz 24 (by decide)) (E.d 19 2)).trans (beq_t _))) (fun E hb => ex_field rfl Try.underlying53 rfl (by kernel_rfl) (E.v oe3)) ?_
 intro v1_22 hw
 have hv1_22 := hid hw
 clear hw
 refine QSeq.may (b := (((x.ep == y.ep) && (x.rn == y.rn)) && (x.vl == y.vl))) rfl (.int .i64 y.rp) (fun E => ((wanted_of rfl rfl (E.sz 24 (by decide)) (E.d 19 3)).trans (beq_t _))) (fun E hb => ex_load1 rfl Try.underlying3 rfl ((E.q 22 0 hv1_22.out).1 hb) (Cs.lit1 HB3.out rfl)) ?_
 intro v1_23 hw
 have hv1_23 := hid hw
 clear hw
 refine QSeq.may (b := (((x.ep == y.ep) && (x.rn == y.rn)) && (x.vl == y.vl))) rfl (.bool (x.rp == y.rp)) (fun E => ((wanted_of rfl rfl (E.sz 24 (by decide)) (E.d 19 4)).trans (beq_t _))) (fun E hb => ex_bin rfl ((E.q 21 2 hv1_21.out).1 hb) ((E.q 23 0 hv1_23.out).1 hb) (guard_ints _ _ _ _ _ _) (run_eql_i _ _ _ Try.underlying3)) ?_
 intro v1_24 hw
 have hv1_24 := hid hw
 clear hw
 refine QSeq.pure rfl (.bool ((((x.ep == y.ep) && (x.rn == y.rn)) && (x.vl == y.vl)) && (x.rp == y.rp))) (fun E => ex_pickE rfl (E.d 19 5) rfl rfl (and_val fun hb => (E.q 24 0 hv1_24.out).1 hb)) ?_
 refine QSeq.pure rfl _ (fun E => ex_move rfl (E.d 25 0)) ?_
 refine QSeq.may (b := ((((x.ep == y.ep) && (x.rn == y.rn)) && (x.vl == y.vl)) && (x.rp == y.rp))) rfl (.pointer (some ⟨w.heap.size, 9, none⟩)) (fun E => ((wanted_of rfl rfl (E.sz 31 (by decide)) (E.d 26 0)).trans (beq_t _))) (fun E hb => ex_field rfl Try.underlying53 rfl (by kernel_rfl) (E.v oe2)) ?_
 intro v1_27 hw
 have hv1_27 := hid hw
 clear hw
 refine QSeq.may (b := ((((x.ep == y.ep) && (x.rn == y.rn)) && (x.vl == y.vl)) && (x.rp == y.rp))) rfl (.agg #[.int .i64 x.sb, .int .i64 x.mr]) (fun E => ((wanted_of rfl rfl (E.sz 31 (by decide)) (E.d 26 1)).trans (beq_t _))) (fun E hb => ex_loadA rfl Try.underlying33 rfl (off := 9) (cs := [.int .i64 x.sb, .int .i64 x.mr]) (by kernel_rfl) ((E.q 27 0 hv1_27.out).1 hb) (Cs.litA HB2.out rfl)) ?_
 intro v1_28 hw
 have hv1_28 := hid hw
 clear hw
 refine QSeq.may (b := ((((x.ep == y.ep) && (x.rn == y.rn)) && (x.vl == y.vl)) && (x.rp == y.rp))) rfl (.pointer (some ⟨w.heap.size + 1, 9, none⟩)) (fun E => ((wanted_of rfl rfl (E.sz 31 (by decide)) (E.d 26 2)).trans (beq_t _))) (fun E hb => ex_field rfl Try.underlying53 rfl (by kernel_rfl) (E.v oe3)) ?_
 intro v1_29 hw
 have hv1_29 := hid hw
 clear hw
 refine QSeq.may (b := ((((x.ep == y.ep) && (x.rn == y.rn)) && (x.vl == y.vl)) && (x.rp == y.rp))) rfl (.agg #[.int .i64 y.sb, .int .i64 y.mr]) (fun E => ((wanted_of rfl rfl (E.sz 31 (by decide)) (E.d 26 3)).trans (beq_t _))) (fun E hb => ex_loadA rfl Try.underlying33 rfl (off := 9) (cs := [.int .i64 y.sb, .int .i64 y.mr]) (by kernel_rfl) ((E.q 29 0 hv1_29.out).1 hb) (Cs.litA HB3.out rfl)) ?_
 intro v1_30 hw
 have hv1_30 := hid hw
 clear hw
 refine QSeq.may (b := ((((x.ep == y.ep) && (x.rn == y.rn)) && (x.vl == y.vl)) && (x.rp == y.rp))) rfl (.bool (eqb (x.sb, x.mr) (y.sb, y.mr))) (fun E => ((wanted_of rfl rfl (E.sz 31 (by decide)) (E.d 26 4)).trans (beq_t _))) (fun E hb => ex_binE rfl ((E.q 28 2 hv1_28.out).1 hb) ((E.q 30 0 hv1_30.out).1 hb) (agg_guardE _ _ _ _ _ _ (by kernel_rfl) _) (EqW.run eqW_sig (ki_2 x.sb x.mr) (ki_2 y.sb y.mr) (two_iff x.sb x.mr y.sb y.mr) _) rfl) ?_
 intro v1_31 hw
 have hv1_31 := hid hw
 clear hw
 refine QSeq.pure rfl (.bool (((((x.ep == y.ep) && (x.rn == y.rn)) && (x.vl == y.vl)) && (x.rp == y.rp)) && (eqb (x.sb, x.mr) (y.sb, y.mr)))) (fun E => ex_pickE rfl (E.d 26 5) rfl rfl (and_val fun hb => (E.q 31 0 hv1_31.out).1 hb)) ?_
 refine QSeq.pure rfl _ (fun E => ex_move rfl (E.d 32 0)) ?_
 refine QSeq.may (b := (((((x.ep == y.ep) && (x.rn == y.rn)) && (x.vl == y.vl)) && (x.rp == y.rp)) && (eqb (x.sb, x.mr) (y.sb, y.mr)))) rfl (.pointer (some ⟨w.heap.size, 4, none⟩)) (fun E => ((wanted_of rfl rfl (E.sz 38 (by decide)) (E.d 33 0)).trans (beq_t _))) (fun E hb => ex_field rfl Try.underlying53 rfl (by kernel_rfl) (E.v oe2)) ?_
 intro v1_34 hw
 have hv1_34 := hid hw
 clear hw
 refine QSeq.may (b := (((((x.ep == y.ep) && (x.rn == y.rn)) && (x.vl == y.vl)) && (x.rp == y.rp)) && (eqb (x.sb, x.mr) (y.sb, y.mr)))) rfl (.agg #[.int .i64 x.ba.ep, .int .u64 (x.ba.tm : Nat), .slice ax_ba.ps x.ba.ps.length kx_ba.ps, .slice ax_ba.os x.ba.os.length kx_ba.os, .slice ax_ba.ts x.ba.ts.length kx_ba.ts]) (fun E => ((wanted_of rfl rfl (E.sz 38 (by decide)) (E.d 33 1)).trans (beq_t _))) (fun E hb => ex_loadA rfl Try.underlying51 rfl (off := 4) (cs := [.int .i64 x.ba.ep, .int .u64 (x.ba.tm : Nat), .slice ax_ba.ps x.ba.ps.length kx_ba.ps, .slice ax_ba.os x.ba.os.length kx_ba.os, .slice ax_ba.ts x.ba.ts.length kx_ba.ts]) (by kernel_rfl) ((E.q 34 0 hv1_34.out).1 hb) (Cs.litA HB2.out rfl)) ?_
 intro v1_35 hw
 have hv1_35 := hid hw
 clear hw
 refine QSeq.may (b := (((((x.ep == y.ep) && (x.rn == y.rn)) && (x.vl == y.vl)) && (x.rp == y.rp)) && (eqb (x.sb, x.mr) (y.sb, y.mr)))) rfl (.pointer (some ⟨w.heap.size + 1, 4, none⟩)) (fun E => ((wanted_of rfl rfl (E.sz 38 (by decide)) (E.d 33 2)).trans (beq_t _))) (fun E hb => ex_field rfl Try.underlying53 rfl (by kernel_rfl) (E.v oe3)) ?_
 intro v1_36 hw
 have hv1_36 := hid hw
 clear hw
 refine QSeq.may (b := (((((x.ep == y.ep) && (x.rn == y.rn)) && (x.vl == y.vl)) && (x.rp == y.rp)) && (eqb (x.sb, x.mr) (y.sb, y.mr)))) rfl (.agg #[.int .i64 y.ba.ep, .int .u64 (y.ba.tm : Nat), .slice ay_ba.ps y.ba.ps.length ky_ba.ps, .slice ay_ba.os y.ba.os.length ky_ba.os, .slice ay_ba.ts y.ba.ts.length ky_ba.ts]) (fun E => ((wanted_of rfl rfl (E.sz 38 (by decide)) (E.d 33 3)).trans (beq_t _))) (fun E hb => ex_loadA rfl Try.underlying51 rfl (off := 4) (cs := [.int .i64 y.ba.ep, .int .u64 (y.ba.tm : Nat), .slice ay_ba.ps y.ba.ps.length ky_ba.ps, .slice ay_ba.os y.ba.os.length ky_ba.os, .slice ay_ba.ts y.ba.ts.length ky_ba.ts]) (by kernel_rfl) ((E.q 36 0 hv1_36.out).1 hb) (Cs.litA HB3.out rfl)) ?_
 intro v1_37 hw
 have hv1_37 := hid hw
 clear hw
 refine QSeq.mayCall (b := (((((x.ep == y.ep) && (x.rn == y.rn)) && (x.vl == y.vl)) && (x.rp == y.rp)) && (eqb (x.sb, x.mr) (y.sb, y.mr)))) rfl (.bool (eqb x.ba y.ba)) (args := #[.agg #[.int .i64 x.ba.ep, .int .u64 (x.ba.tm : Nat), Value.slice ax_ba.ps x.ba.ps.length kx_ba.ps, Value.slice ax_ba.os x.ba.os.length kx_ba.os, Value.slice ax_ba.ts x.ba.ts.length kx_ba.ts], .agg #[.int .i64 y.ba.ep, .int .u64 (y.ba.tm : Nat), Value.slice ay_ba.ps y.ba.ps.length ky_ba.ps, Value.slice ay_ba.os y.ba.os.length ky_ba.os, Value.slice ay_ba.ts y.ba.ts.length ky_ba.ts]]) (fun E => ((wanted_of rfl rfl (E.sz 38 (by decide)) (E.d 33 4)).trans (beq_t _))) rfl Try.func27 (fun E hb => args2 ((E.q 35 2 hv1_35.out).1 hb) ((E.q 37 0 hv1_37.out).1 hb)) (fun hb => Eq_Ba R R2 _ _ x.ba y.ba _ ⟨_, _, _, rfl, HOKx.out.2.2.2.2.1, Hx1.out, Hx2.out, Hx3.out⟩ ⟨_, _, _, rfl, HOKy.out.2.2.2.2.1, Hx4.out, Hx5.out, Hx6.out⟩ (by intro k h1; have hb := HBR.out k h1; (try have := hm.size); omega) (by intro k h1; have hb := HBT.out k h1; (try have := hm.size); omega)) ?_
 intro v1_38 u1_38 hw hm
 have hv1_38 := hid hw
 clear hw
 have zu1_38 := hm.size
 have Cx7 := hid (show Mod (fun _ => False) w1 u1_38 from hm)
 clear hm
 refine QSeq.pure rfl (.bool ((((((x.ep == y.ep) && (x.rn == y.rn)) && (x.vl == y.vl)) && (x.rp == y.rp)) && (eqb (x.sb, x.mr) (y.sb, y.mr))) && (eqb x.ba y.ba))) (fun E => ex_pickE rfl (E.d 33 5) rfl rfl (and_val fun hb => (E.q 38 0 hv1_38.out).1 hb)) ?_
 refine QSeq.pure rfl _ (fun E => ex_assign rfl (E.d 39 0)) ?_
 clear hv1_6 hv1_7 hv1_8 hv1_9 hv1_10 hv1_13 hv1_14 hv1_15 hv1_16 hv1_17 hv1_20 hv1_21 hv1_22 hv1_23 hv1_24 hv1_27 hv1_28 hv1_29 hv1_30 hv1_31 hv1_34 hv1_35 hv1_36 hv1_37 hv1_38
 refine QSeq.nil (t' := [_, _, _, _, _, _, _, _, _, _, _, _, _, _, _, _, _, _, _, _, _, _, _, _, _, _, _, _, _, _, _, _, _, _, _, _, _, _, _, _, _]) rfl ?_
 obtain rfl := HA0.out
 clear HA0 oe2 oe3
 simp only [pz, Act.put, sIB, sCZ, sCS]
 go_wp2
 go_ret
 exact ⟨ret_bool (pr_eqb x y), (HM0.out.trans Cx7.out (fun _ _ h => h.elim))⟩
set_option maxHeartbeats 8000000 in
theorem Eq_Mg : Eqs MgR 15 := by
 intro R R2 cs ds x y w hx hy hB hB2
 obtain ⟨xc5, xc10, xc11, xc15, xc18, rfl, hokx, h5, h10, h11, h15, h18⟩ := hx
 have HLNx := hid (Mg.lns hokx h5 h10 h11 h15 h18)
 obtain ⟨xdp, xdo, xdt, xdl, rfl, hokdx, hd0, hd1, hd2, hd3⟩ := h18
 have HCx5 := hid (CeR.len h5)
 have Hx5 := Lib.hid h5
 have HCx10 := hid (PmR.len h10)
 have Hx10 := Lib.hid h10
 have HCx11 := hid (PrR.len h11)
 have Hx11 := Lib.hid h11
 have HCx15 := hid (OpR.len h15)
 have Hx15 := Lib.hid h15
 obtain ⟨axdp, kxdp, rfl⟩ := hd0.shape
 have HDx0 := Lib.hid hd0
 obtain ⟨axdo, kxdo, rfl⟩ := hd1.shape
 have HDx1 := Lib.hid hd1
 obtain ⟨axdt, kxdt, rfl⟩ := hd2.shape
 have HDx2 := Lib.hid hd2
 obtain ⟨axdl, kxdl, rfl⟩ := hd3.shape
 have HDx3 := Lib.hid hd3
 have HOKx := Lib.hid hokx
 have HODx := Lib.hid hokdx
 clear hokx hokdx h5 h10 h11 h15 hd0 hd1 hd2 hd3
 obtain ⟨yc5, yc10, yc11, yc15, yc18, rfl, hoky, h5, h10, h11, h15, h18⟩ := hy
 have HLNy := hid (Mg.lns hoky h5 h10 h11 h15 h18)
 obtain ⟨ydp, ydo, ydt, ydl, rfl, hokdy, hd0, hd1, hd2, hd3⟩ := h18
 have HCy5 := hid (CeR.len h5)
 have Hy5 := Lib.hid h5
 have HCy10 := hid (PmR.len h10)
 have Hy10 := Lib.hid h10
 have HCy11 := hid (PrR.len h11)
 have Hy11 := Lib.hid h11
 have HCy15 := hid (OpR.len h15)
 have Hy15 := Lib.hid h15
 obtain ⟨aydp, kydp, rfl⟩ := hd0.shape
 have HDy0 := Lib.hid hd0
 obtain ⟨aydo, kydo, rfl⟩ := hd1.shape
 have HDy1 := Lib.hid hd1
 obtain ⟨aydt, kydt, rfl⟩ := hd2.shape
 have HDy2 := Lib.hid hd2
 obtain ⟨aydl, kydl, rfl⟩ := hd3.shape
 have HDy3 := Lib.hid hd3
 have HOKy := Lib.hid hoky
 have HODy := Lib.hid hokdy
 clear hoky hokdy h5 h10 h11 h15 hd0 hd1 hd2 hd3
 have HBR := Lib.hid hB
 have HBT := Lib.hid hB2
 clear hB hB2
 go_enter Try.func15, Try.ntmps15
 go_upto_region 1 with (fail)
 obtain ⟨w1, hw1⟩ : ∃ zz, zz = ((w.alloc (.cells ((x.segs xc5 xc10 xc11 xc15 (x.dc.cells (.slice axdp x.dc.ba.ps.length kxdp) (.slice axdo x.dc.ba.os.length kxdo) (.slice axdt x.dc.ba.ts.length kxdt) (.slice axdl x.dc.l.length kxdl))).flatten : List Value).toArray 67)).alloc (.cells ((y.segs yc5 yc10 yc11 yc15 (y.dc.cells (.slice aydp y.dc.ba.ps.length kydp) (.slice aydo y.dc.ba.os.length kydo) (.slice aydt y.dc.ba.ts.length kydt) (.slice aydl y.dc.l.length kydl))).flatten : List Value).toArray 67)) := ⟨_, rfl⟩
 change Code.wp _ _ _ _ ((w.alloc (.cells ((x.segs xc5 xc10 xc11 xc15 (x.dc.cells (.slice axdp x.dc.ba.ps.length kxdp) (.slice axdo x.dc.ba.os.length kxdo) (.slice axdt x.dc.ba.ts.length kxdt) (.slice axdl x.dc.l.length kxdl))).flatten : List Value).toArray 67)).alloc (.cells ((y.segs yc5 yc10 yc11 yc15 (y.dc.cells (.slice aydp y.dc.ba.ps.length kydp) (.slice aydo y.dc.ba.os.length kydo) (.slice aydt y.dc.ba.ts.length kydt) (.slice aydl y.dc.l.length kydl))).flatten : List Value).toArray 67))
 rw [← hw1]
 have HB2 := hid (show Cs w1 (w.heap.size) ((x.segs xc5 xc10 xc11 xc15 (x.dc.cells (.slice axdp x.dc.ba.ps.length kxdp) (.slice axdo x.dc.ba.os.length kxdo) (.slice axdt x.dc.ba.ts.length kxdt) (.slice axdl x.dc.l.length kxdl))).flatten : List Value).toArray 67 by rw [hw1]; exact (Cs.new _ _ _).alloc _)
 have HB3 := hid (show Cs w1 (w.heap.size + 1) ((y.segs yc5 yc10 yc11 yc15 (y.dc.cells (.slice aydp y.dc.ba.ps.length kydp) (.slice aydo y.dc.ba.os.length kydo) (.slice aydt y.dc.ba.ts.length kydt) (.slice aydl y.dc.l.length kydl))).flatten : List Value).toArray 67 by rw [hw1]; exact Cs_newN _ _ _ (by simp))
 have hm : Mod (fun _ => False) w w1 := by rw [hw1]; exact ((Mod.refl _ _).alloc _).alloc _
 have HM0 := hid (show Mod (fun _ => False) w w1 from hm.mono (fun _ _ h => h.elim))
 have hs1 : w1.heap.size = w.heap.size + 2 := by rw [hw1]; simp
 have Hx1 := hid (Hx5.out.mod hm (fun _ _ h => h))
 clear Hx5
 have Hx2 := hid (Hx10.out.mod hm (fun _ _ h => h))
 clear Hx10
 have Hx3 := hid (Hx11.out.mod hm (fun _ _ h => h))
 clear Hx11
 have Hx4 := hid (Hx15.out.mod hm (fun _ _ h => h))
 clear Hx15
 have Hx5 := hid (HDx0.out.mod hm (fun _ _ h => h))
 clear HDx0
 have Hx6 := hid (HDx1.out.mod hm (fun _ _ h => h))
 clear HDx1
 have Hx7 := hid (HDx2.out.mod hm (fun _ _ h => h))
 clear HDx2
 have Hx8 := hid (HDx3.out.mod hm (fun _ _ h => h))
 clear HDx3
 have Hx9 := hid (Hy5.out.mod hm (fun _ _ h => h))
 clear Hy5
 have Hx10 := hid (Hy10.out.mod hm (fun _ _ h => h))
 clear Hy10
 have Hx11 := hid (Hy11.out.mod hm (fun _ _ h => h))
 clear Hy11
 have Hx12 := hid (Hy15.out.mod hm (fun _ _ h => h))
 clear Hy15
 have Hx13 := hid (HDy0.out.mod hm (fun _ _ h => h))
 clear HDy0
 have Hx14 := hid (HDy1.out.mod hm (fun _ _ h => h))
 clear HDy1
 have Hx15 := hid (HDy2.out.mod hm (fun _ _ h => h))
 clear HDy2
 have Hx16 := hid (HDy3.out.mod hm (fun _ _ h => h))
 clear HDy3
 clear hw1 hm
 go_upto_region 1 with (fail)
 refine wp_region_U 165 [5, 6, 7, 8, 9, 10, 11, 12, 13, 14, 15, 16, 17, 18, 19, 20, 21, 22, 23, 24, 25, 26, 27, 28, 29, 30, 31, 32, 33, 34, 35, 36, 37, 38, 39, 40, 41, 42, 43, 44, 45, 46, 47, 48, 49, 50, 51, 52, 53, 54, 55, 56, 57, 58, 59, 60, 61, 62, 63, 64, 65, 66, 67, 68, 69, 70, 71, 72, 73, 74, 75, 76, 77, 78, 79, 80, 81, 82, 83, 84, 85, 86, 87, 88, 89, 90, 91, 92, 93, 94, 95, 96, 97, 98, 99, 100, 101, 102, 103, 104, 105, 106, 107, 108, 109, 110, 111, 112, 113, 114, 115, 116, 117, 118, 119, 120, 121, 122, 123, 124, 125, 126, 127, 128, 129, 130, 131, 132, 133, 134, 135, 136, 137, 138, 139, 140, 141, 142, 143, 144, 145, 146, 147, 148, 149, 150, 151, 152, 153, 154, 155, 156, 157, 158, 159, 160, 161, 162, 163, 164, 4] [0, 1, 2, 3, 4, 5, 6, 7, 8, 9, 10, 11, 12, 13, 14, 15, 16, 17, 18, 19, 20, 21, 22, 23, 24, 25, 26, 27, 28, 29, 30, 31, 32, 33, 34, 35, 36, 37, 38, 39, 40, 41, 42, 43, 44, 45, 46, 47, 48, 49, 50, 51, 52, 53, 54, 55, 56, 57, 58, 59, 60, 61, 62, 63, 64, 65, 66, 67, 68, 69, 70, 71, 72, 73, 74, 75, 76, 77, 78, 79, 80, 81, 82, 83, 84, 85, 86, 87, 88, 89, 90, 91, 92, 93, 94, 95, 96, 97, 98, 99, 100, 101, 102, 103, 104, 105, 106, 107, 108, 109, 110, 111, 112, 113, 114, 115, 116, 117, 118, 119, 120, 121, 122, 123, 124, 125, 126, 127, 128, 129, 130, 131, 132, 133, 134, 135, 136, 137, 138, 139, 140, 141, 142, 143, 144, 145, 146, 147, 148, 149, 150, 151, 152, 153, 154, 155, 156, 157, 158, 159, 160] (fun a0 HA0 => ?_)
 have oe2 := ev HA0 2 rfl
 have oe3 := ev HA0 3 rfl
 refine QSeq.pure rfl (.pointer (some ⟨w.heap.size, 0, none⟩)) (fun E => ex_field rfl Try.underlying67 rfl (by kernel_rfl) (E.v oe2)) ?_
 refine QSeq.pure rfl (.int .i64 x.kd) (fun E => ex_load1 rfl Try.underlying3 rfl (E.d 0 0) (Cs.seg1 HB2.out HLNx.out 0 rfl (o := 0) (k := 0) rfl rfl rfl)) ?_
 refine QSeq.pure rfl (.pointer (some ⟨w.heap.size + 1, 0, none⟩)) (fun E => ex_field rfl Try.underlying67 rfl (by kernel_rfl) (E.v oe3)) ?_
 refine QSeq.pure rfl (.int .i64 y.kd) (fun E => ex_load1 rfl Try.underlying3 rfl (E.d 2 0) (Cs.seg1 HB3.out HLNy.out 0 rfl (o := 0) (k := 0) rfl rfl rfl)) ?_
 refine QSeq.pure rfl (.bool (x.kd == y.kd)) (fun E => ex_bin rfl (E.d 1 2) (E.d 3 0) (guard_ints _ _ _ _ _ _) (run_eql_i _ _ _ Try.underlying3)) ?_
 refine QSeq.pure rfl _ (fun E => ex_move rfl (E.d 4 0)) ?_
 refine QSeq.may (b := (x.kd == y.kd)) rfl (.pointer (some ⟨w.heap.size, 1, none⟩)) (fun E => ((wanted_of rfl rfl (E.sz 10 (by decide)) (E.d 5 0)).trans (beq_t _))) (fun E hb => ex_field rfl Try.underlying67 rfl (by kernel_rfl) (E.v oe2)) ?_
 intro v1_6 hw
 have hv1_6 := hid hw
 clear hw
 refine QSeq.may (b := (x.kd == y.kd)) rfl (.int .i64 x.fr) (fun E => ((wanted_of rfl rfl (E.sz 10 (by decide)) (E.d 5 1)).trans (beq_t _))) (fun E hb => ex_load1 rfl Try.underlying3 rfl ((E.q 6 0 hv1_6.out).1 hb) (Cs.seg1 HB2.out HLNx.out 1 rfl (o := 1) (k := 0) rfl rfl rfl)) ?_
 intro v1_7 hw
 have hv1_7 := hid hw
 clear hw
 refine QSeq.may (b := (x.kd == y.kd)) rfl (.pointer (some ⟨w.heap.size + 1, 1, none⟩)) (fun E => ((wanted_of rfl rfl (E.sz 10 (by decide)) (E.d 5 2)).trans (beq_t _))) (fun E hb => ex_field rfl Try.underlying67 rfl (by kernel_rfl) (E.v oe3)) ?_
 intro v1_8 hw
 have hv1_8 := hid hw
 clear hw
 refine QSeq.may (b := (x.kd == y.kd)) rfl (.int .i64 y.fr) (fun E => ((wanted_of rfl rfl (E.sz 10 (by decide)) (E.d 5 3)).trans (beq_t _))) (fun E hb => ex_load1 rfl Try.underlying3 rfl ((E.q 8 0 hv1_8.out).1 hb) (Cs.seg1 HB3.out HLNy.out 1 rfl (o := 1) (k := 0) rfl rfl rfl)) ?_
 intro v1_9 hw
 have hv1_9 := hid hw
 clear hw
 refine QSeq.may (b := (x.kd == y.kd)) rfl (.bool (x.fr == y.fr)) (fun E => ((wanted_of rfl rfl (E.sz 10 (by decide)) (E.d 5 4)).trans (beq_t _))) (fun E hb => ex_bin rfl ((E.q 7 2 hv1_7.out).1 hb) ((E.q 9 0 hv1_9.out).1 hb) (guard_ints _ _ _ _ _ _) (run_eql_i _ _ _ Try.underlying3)) ?_
 intro v1_10 hw
 have hv1_10 := hid hw
 clear hw
 obtain ⟨pb11, hb11⟩ : ∃ b : Bool, b = ((x.kd == y.kd) && (x.fr == y.fr)) := ⟨_, rfl⟩
 have HB11 := hid hb11
 clear hb11
 refine QSeq.pure rfl (.bool pb11) (fun E => ex_pickE rfl (E.d 5 5) rfl rfl ((and_val fun hb => (E.q 10 0 hv1_10.out).1 hb).trans (congrArg Value.bool HB11.out.symm))) ?_
 refine QSeq.pure rfl _ (fun E => ex_move rfl (E.d 11 0)) ?_
 refine QSeq.may (b := pb11) rfl (.pointer (some ⟨w.heap.size, 2, none⟩)) (fun E => ((wanted_of rfl rfl (E.sz 17 (by decide)) (E.d 12 0)).trans (beq_t _))) (fun E hb => ex_field rfl Try.underlying67 rfl (by kernel_rfl) (E.v oe2)) ?_
 intro v1_13 hw
 have hv1_13 := hid hw
 clear hw
 refine QSeq.may (b := pb11) rfl (.int .i64 x.to) (fun E => ((wanted_of rfl rfl (E.sz 17 (by decide)) (E.d 12 1)).trans (beq_t _))) (fun E hb => ex_load1 rfl Try.underlying3 rfl ((E.q 13 0 hv1_13.out).1 hb) (Cs.seg1 HB2.out HLNx.out 2 rfl (o := 2) (k := 0) rfl rfl rfl)) ?_
 intro v1_14 hw
 have hv1_14 := hid hw
 clear hw
 refine QSeq.may (b := pb11) rfl (.pointer (some ⟨w.heap.size + 1, 2, none⟩)) (fun E => ((wanted_of rfl rfl (E.sz 17 (by decide)) (E.d 12 2)).trans (beq_t _))) (fun E hb => ex_field rfl Try.underlying67 rfl (by kernel_rfl) (E.v oe3)) ?_
 intro v1_15 hw
 have hv1_15 := hid hw
 clear hw
 refine QSeq.may (b := pb11) rfl (.int .i64 y.to) (fun E => ((wanted_of rfl rfl (E.sz 17 (by decide)) (E.d 12 3)).trans (beq_t _))) (fun E hb => ex_load1 rfl Try.underlying3 rfl ((E.q 15 0 hv1_15.out).1 hb) (Cs.seg1 HB3.out HLNy.out 2 rfl (o := 2) (k := 0) rfl rfl rfl)) ?_
 intro v1_16 hw
 have hv1_16 := hid hw
 clear hw
 refine QSeq.may (b := pb11) rfl (.bool (x.to == y.to)) (fun E => ((wanted_of rfl rfl (E.sz 17 (by decide)) (E.d 12 4)).trans (beq_t _))) (fun E hb => ex_bin rfl ((E.q 14 2 hv1_14.out).1 hb) ((E.q 16 0 hv1_16.out).1 hb) (guard_ints _ _ _ _ _ _) (run_eql_i _ _ _ Try.underlying3)) ?_
 intro v1_17 hw
 have hv1_17 := hid hw
 clear hw
 obtain ⟨pb18, hb18⟩ : ∃ b : Bool, b = (pb11 && (x.to == y.to)) := ⟨_, rfl⟩
 have HB18 := hid hb18
 clear hb18
 refine QSeq.pure rfl (.bool pb18) (fun E => ex_pickE rfl (E.d 12 5) rfl rfl ((and_val fun hb => (E.q 17 0 hv1_17.out).1 hb).trans (congrArg Value.bool HB18.out.symm))) ?_
 refine QSeq.pure rfl _ (fun E => ex_move rfl (E.d 18 0)) ?_
 refine QSeq.may (b := pb18) rfl (.pointer (some ⟨w.heap.size, 3, none⟩)) (fun E => ((wanted_of rfl rfl (E.sz 24 (by decide)) (E.d 19 0)).trans (beq_t _))) (fun E hb => ex_field rfl Try.underlying67 rfl (by kernel_rfl) (E.v oe2)) ?_
 intro v1_20 hw
 have hv1_20 := hid hw
 clear hw
 refine QSeq.may (b := pb18) rfl (.agg (x.cm.cells).toArray) (fun E => ((wanted_of rfl rfl (E.sz 24 (by decide)) (E.d 19 1)).trans (beq_t _))) (fun E hb => ex_loadA rfl Try.underlying35 rfl (off := 3) (cs := (x.cm.cells)) (by rw [Cm.len HOKx.out.cm.2.1]; exact size_commit) ((E.q 20 0 hv1_20.out).1 hb) (Cs.seg HB2.out HLNx.out 3 rfl rfl)) ?_
 intro v1_21 hw
 have hv1_21 := hid hw
 clear hw
 refine QSeq.may (b := pb18) rfl (.pointer (some ⟨w.heap.size + 1, 3, none⟩)) (fun E => ((wanted_of rfl rfl (E.sz 24 (by decide)) (E.d 19 2)).trans (beq_t _))) (fun E hb => ex_field rfl Try.underlying67 rfl (by kernel_rfl) (E.v oe3)) ?_
 intro v1_22 hw
 have hv1_22 := hid hw
 clear hw
 refine QSeq.may (b := pb18) rfl (.agg (y.cm.cells).toArray) (fun E => ((wanted_of rfl rfl (E.sz 24 (by decide)) (E.d 19 3)).trans (beq_t _))) (fun E hb => ex_loadA rfl Try.underlying35 rfl (off := 3) (cs := (y.cm.cells)) (by rw [Cm.len HOKy.out.cm.2.1]; exact size_commit) ((E.q 22 0 hv1_22.out).1 hb) (Cs.seg HB3.out HLNy.out 3 rfl rfl)) ?_
 intro v1_23 hw
 have hv1_23 := hid hw
 clear hw
 refine QSeq.may (b := pb18) rfl (.bool (eqb x.cm y.cm)) (fun E => ((wanted_of rfl rfl (E.sz 24 (by decide)) (E.d 19 4)).trans (beq_t _))) (fun E hb => ex_binE rfl ((E.q 21 2 hv1_21.out).1 hb) ((E.q 23 0 hv1_23.out).1 hb) (agg_guardE _ _ _ _ _ _ (by kernel_rfl) _) (EqW.run eqW_commit (ki_cm HOKx.out.cm.2.1) (ki_cm HOKy.out.cm.2.1) (cm_iff HOKx.out.cm HOKy.out.cm) _) rfl) ?_
 intro v1_24 hw
 have hv1_24 := hid hw
 clear hw
 obtain ⟨pb25, hb25⟩ : ∃ b : Bool, b = (pb18 && (eqb x.cm y.cm)) := ⟨_, rfl⟩
 have HB25 := hid hb25
 clear hb25
 refine QSeq.pure rfl (.bool pb25) (fun E => ex_pickE rfl (E.d 19 5) rfl rfl ((and_val fun hb => (E.q 24 0 hv1_24.out).1 hb).trans (congrArg Value.bool HB25.out.symm))) ?_
 refine QSeq.pure rfl _ (fun E => ex_move rfl (E.d 25 0)) ?_
 refine QSeq.may (b := pb25) rfl (.pointer (some ⟨w.heap.size, 40, none⟩)) (fun E => ((wanted_of rfl rfl (E.sz 31 (by decide)) (E.d 26 0)).trans (beq_t _))) (fun E hb => ex_field rfl Try.underlying67 rfl (by kernel_rfl) (E.v oe2)) ?_
 intro v1_27 hw
 have hv1_27 := hid hw
 clear hw
 refine QSeq.may (b := pb25) rfl (.agg (x.st.cells).toArray) (fun E => ((wanted_of rfl rfl (E.sz 31 (by decide)) (E.d 26 1)).trans (beq_t _))) (fun E hb => ex_loadA rfl Try.underlying38 rfl (off := 40) (cs := (x.st.cells)) (by rw [St.len HOKx.out.st]; kernel_rfl) ((E.q 27 0 hv1_27.out).1 hb) (Cs.seg HB2.out HLNx.out 4 rfl rfl)) ?_
 intro v1_28 hw
 have hv1_28 := hid hw
 clear hw
 refine QSeq.may (b := pb25) rfl (.pointer (some ⟨w.heap.size + 1, 40, none⟩)) (fun E => ((wanted_of rfl rfl (E.sz 31 (by decide)) (E.d 26 2)).trans (beq_t _))) (fun E hb => ex_field rfl Try.underlying67 rfl (by kernel_rfl) (E.v oe3)) ?_
 intro v1_29 hw
 have hv1_29 := hid hw
 clear hw
 refine QSeq.may (b := pb25) rfl (.agg (y.st.cells).toArray) (fun E => ((wanted_of rfl rfl (E.sz 31 (by decide)) (E.d 26 3)).trans (beq_t _))) (fun E hb => ex_loadA rfl Try.underlying38 rfl (off := 40) (cs := (y.st.cells)) (by rw [St.len HOKy.out.st]; kernel_rfl) ((E.q 29 0 hv1_29.out).1 hb) (Cs.seg HB3.out HLNy.out 4 rfl rfl)) ?_
 intro v1_30 hw
 have hv1_30 := hid hw
 clear hw
 refine QSeq.may (b := pb25) rfl (.bool (eqb x.st y.st)) (fun E => ((wanted_of rfl rfl (E.sz 31 (by decide)) (E.d 26 4)).trans (beq_t _))) (fun E hb => ex_binE rfl ((E.q 28 2 hv1_28.out).1 hb) ((E.q 30 0 hv1_30.out).1 hb) (agg_guardE _ _ _ _ _ _ (by kernel_rfl) _) (EqW.run eqW_stamp (ki_st HOKx.out.st) (ki_st HOKy.out.st) (st_iff HOKx.out.st HOKy.out.st) _) rfl) ?_
 intro v1_31 hw
 have hv1_31 := hid hw
 clear hw
 obtain ⟨pb32, hb32⟩ : ∃ b : Bool, b = (pb25 && (eqb x.st y.st)) := ⟨_, rfl⟩
 have HB32 := hid hb32
 clear hb32
 refine QSeq.pure rfl (.bool pb32) (fun E => ex_pickE rfl (E.d 26 5) rfl rfl ((and_val fun hb => (E.q 31 0 hv1_31.out).1 hb).trans (congrArg Value.bool HB32.out.symm))) ?_
 refine QSeq.pure rfl _ (fun E => ex_move rfl (E.d 32 0)) ?_
 refine QSeq.may (b := pb32) rfl (.pointer (some ⟨w.heap.size, 78, none⟩)) (fun E => ((wanted_of rfl rfl (E.sz 38 (by decide)) (E.d 33 0)).trans (beq_t _))) (fun E hb => ex_field rfl Try.underlying67 rfl (by kernel_rfl) (E.v oe2)) ?_
 intro v1_34 hw
 have hv1_34 := hid hw
 clear hw
 refine QSeq.may (b := pb32) rfl (.agg (xc5).toArray) (fun E => ((wanted_of rfl rfl (E.sz 38 (by decide)) (E.d 33 1)).trans (beq_t _))) (fun E hb => ex_loadA rfl Try.underlying41 rfl (off := 78) (cs := (xc5)) (by rw [HCx5.out]; kernel_rfl) ((E.q 34 0 hv1_34.out).1 hb) (Cs.seg HB2.out HLNx.out 5 rfl rfl)) ?_
 intro v1_35 hw
 have hv1_35 := hid hw
 clear hw
 refine QSeq.may (b := pb32) rfl (.pointer (some ⟨w.heap.size + 1, 78, none⟩)) (fun E => ((wanted_of rfl rfl (E.sz 38 (by decide)) (E.d 33 2)).trans (beq_t _))) (fun E hb => ex_field rfl Try.underlying67 rfl (by kernel_rfl) (E.v oe3)) ?_
 intro v1_36 hw
 have hv1_36 := hid hw
 clear hw
 refine QSeq.may (b := pb32) rfl (.agg (yc5).toArray) (fun E => ((wanted_of rfl rfl (E.sz 38 (by decide)) (E.d 33 3)).trans (beq_t _))) (fun E hb => ex_loadA rfl Try.underlying41 rfl (off := 78) (cs := (yc5)) (by rw [HCy5.out]; kernel_rfl) ((E.q 36 0 hv1_36.out).1 hb) (Cs.seg HB3.out HLNy.out 5 rfl rfl)) ?_
 intro v1_37 hw
 have hv1_37 := hid hw
 clear hw
 refine QSeq.mayCall (b := pb32) rfl (.bool (eqb x.ce y.ce)) (args := #[.agg (xc5).toArray, .agg (yc5).toArray]) (fun E => ((wanted_of rfl rfl (E.sz 38 (by decide)) (E.d 33 4)).trans (beq_t _))) rfl Try.func23 (fun E hb => args2 ((E.q 35 2 hv1_35.out).1 hb) ((E.q 37 0 hv1_37.out).1 hb)) (fun hb => Eq_Ce _ _ _ _ x.ce y.ce _ Hx1.out Hx9.out (by intro k h1; have hb := HBR.out k h1; (try have := hm.size); omega) (by intro k h1; have hb := HBT.out k h1; (try have := hm.size); omega)) ?_
 intro v1_38 u1_38 hw hm
 have hv1_38 := hid hw
 clear hw
 have zu1_38 := hm.size
 have Cx17 := hid (show Mod (fun _ => False) w1 u1_38 from hm)
 clear hm
 obtain ⟨pb39, hb39⟩ : ∃ b : Bool, b = (pb32 && (eqb x.ce y.ce)) := ⟨_, rfl⟩
 have HB39 := hid hb39
 clear hb39
 refine QSeq.pure rfl (.bool pb39) (fun E => ex_pickE rfl (E.d 33 5) rfl rfl ((and_val fun hb => (E.q 38 0 hv1_38.out).1 hb).trans (congrArg Value.bool HB39.out.symm))) ?_
 refine QSeq.pure rfl _ (fun E => ex_move rfl (E.d 39 0)) ?_
 refine QSeq.may (b := pb39) rfl (.pointer (some ⟨w.heap.size, 116, none⟩)) (fun E => ((wanted_of rfl rfl (E.sz 45 (by decide)) (E.d 40 0)).trans (beq_t _))) (fun E hb => ex_field rfl Try.underlying67 rfl (by kernel_rfl) (E.v oe2)) ?_
 intro v1_41 hw
 have hv1_41 := hid hw
 clear hw
 refine QSeq.may (b := pb39) rfl (.agg (x.ak.cells).toArray) (fun E => ((wanted_of rfl rfl (E.sz 45 (by decide)) (E.d 40 1)).trans (beq_t _))) (fun E hb => ex_loadA rfl Try.underlying43 rfl (off := 116) (cs := (x.ak.cells)) (by rw [St.len HOKx.out.ak]; kernel_rfl) ((E.q 41 0 hv1_41.out).1 hb) (Cs.seg (HB2.out.mod Cx17.out (fun h => h)) HLNx.out 6 rfl rfl)) ?_
 intro v1_42 hw
 have hv1_42 := hid hw
 clear hw
 refine QSeq.may (b := pb39) rfl (.pointer (some ⟨w.heap.size + 1, 116, none⟩)) (fun E => ((wanted_of rfl rfl (E.sz 45 (by decide)) (E.d 40 2)).trans (beq_t _))) (fun E hb => ex_field rfl Try.underlying67 rfl (by kernel_rfl) (E.v oe3)) ?_
 intro v1_43 hw
 have hv1_43 := hid hw
 clear hw
 refine QSeq.may (b := pb39) rfl (.agg (y.ak.cells).toArray) (fun E => ((wanted_of rfl rfl (E.sz 45 (by decide)) (E.d 40 3)).trans (beq_t _))) (fun E hb => ex_loadA rfl Try.underlying43 rfl (off := 116) (cs := (y.ak.cells)) (by rw [St.len HOKy.out.ak]; kernel_rfl) ((E.q 43 0 hv1_43.out).1 hb) (Cs.seg (HB3.out.mod Cx17.out (fun h => h)) HLNy.out 6 rfl rfl)) ?_
 intro v1_44 hw
 have hv1_44 := hid hw
 clear hw
 refine QSeq.may (b := pb39) rfl (.bool (eqb x.ak y.ak)) (fun E => ((wanted_of rfl rfl (E.sz 45 (by decide)) (E.d 40 4)).trans (beq_t _))) (fun E hb => ex_binE rfl ((E.q 42 2 hv1_42.out).1 hb) ((E.q 44 0 hv1_44.out).1 hb) (agg_guardE _ _ _ _ _ _ (by kernel_rfl) _) (EqW.run eqW_ack (ki_st HOKx.out.ak) (ki_st HOKy.out.ak) (st_iff HOKx.out.ak HOKy.out.ak) _) rfl) ?_
 intro v1_45 hw
 have hv1_45 := hid hw
 clear hw
 obtain ⟨pb46, hb46⟩ : ∃ b : Bool, b = (pb39 && (eqb x.ak y.ak)) := ⟨_, rfl⟩
 have HB46 := hid hb46
 clear hb46
 refine QSeq.pure rfl (.bool pb46) (fun E => ex_pickE rfl (E.d 40 5) rfl rfl ((and_val fun hb => (E.q 45 0 hv1_45.out).1 hb).trans (congrArg Value.bool HB46.out.symm))) ?_
 refine QSeq.pure rfl _ (fun E => ex_move rfl (E.d 46 0)) ?_
 refine QSeq.may (b := pb46) rfl (.pointer (some ⟨w.heap.size, 154, none⟩)) (fun E => ((wanted_of rfl rfl (E.sz 52 (by decide)) (E.d 47 0)).trans (beq_t _))) (fun E hb => ex_field rfl Try.underlying67 rfl (by kernel_rfl) (E.v oe2)) ?_
 intro v1_48 hw
 have hv1_48 := hid hw
 clear hw
 refine QSeq.may (b := pb46) rfl (.int .i64 x.ep) (fun E => ((wanted_of rfl rfl (E.sz 52 (by decide)) (E.d 47 1)).trans (beq_t _))) (fun E hb => ex_load1 rfl Try.underlying3 rfl ((E.q 48 0 hv1_48.out).1 hb) (Cs.seg1 (HB2.out.mod Cx17.out (fun h => h)) HLNx.out 7 rfl (o := 154) (k := 0) rfl rfl rfl)) ?_
 intro v1_49 hw
 have hv1_49 := hid hw
 clear hw
 refine QSeq.may (b := pb46) rfl (.pointer (some ⟨w.heap.size + 1, 154, none⟩)) (fun E => ((wanted_of rfl rfl (E.sz 52 (by decide)) (E.d 47 2)).trans (beq_t _))) (fun E hb => ex_field rfl Try.underlying67 rfl (by kernel_rfl) (E.v oe3)) ?_
 intro v1_50 hw
 have hv1_50 := hid hw
 clear hw
 refine QSeq.may (b := pb46) rfl (.int .i64 y.ep) (fun E => ((wanted_of rfl rfl (E.sz 52 (by decide)) (E.d 47 3)).trans (beq_t _))) (fun E hb => ex_load1 rfl Try.underlying3 rfl ((E.q 50 0 hv1_50.out).1 hb) (Cs.seg1 (HB3.out.mod Cx17.out (fun h => h)) HLNy.out 7 rfl (o := 154) (k := 0) rfl rfl rfl)) ?_
 intro v1_51 hw
 have hv1_51 := hid hw
 clear hw
 refine QSeq.may (b := pb46) rfl (.bool (x.ep == y.ep)) (fun E => ((wanted_of rfl rfl (E.sz 52 (by decide)) (E.d 47 4)).trans (beq_t _))) (fun E hb => ex_bin rfl ((E.q 49 2 hv1_49.out).1 hb) ((E.q 51 0 hv1_51.out).1 hb) (guard_ints _ _ _ _ _ _) (run_eql_i _ _ _ Try.underlying3)) ?_
 intro v1_52 hw
 have hv1_52 := hid hw
 clear hw
 obtain ⟨pb53, hb53⟩ : ∃ b : Bool, b = (pb46 && (x.ep == y.ep)) := ⟨_, rfl⟩
 have HB53 := hid hb53
 clear hb53
 refine QSeq.pure rfl (.bool pb53) (fun E => ex_pickE rfl (E.d 47 5) rfl rfl ((and_val fun hb => (E.q 52 0 hv1_52.out).1 hb).trans (congrArg Value.bool HB53.out.symm))) ?_
 refine QSeq.pure rfl _ (fun E => ex_move rfl (E.d 53 0)) ?_
 refine QSeq.may (b := pb53) rfl (.pointer (some ⟨w.heap.size, 155, none⟩)) (fun E => ((wanted_of rfl rfl (E.sz 59 (by decide)) (E.d 54 0)).trans (beq_t _))) (fun E hb => ex_field rfl Try.underlying67 rfl (by kernel_rfl) (E.v oe2)) ?_
 intro v1_55 hw
 have hv1_55 := hid hw
 clear hw
 refine QSeq.may (b := pb53) rfl (.int .i64 x.rn) (fun E => ((wanted_of rfl rfl (E.sz 59 (by decide)) (E.d 54 1)).trans (beq_t _))) (fun E hb => ex_load1 rfl Try.underlying3 rfl ((E.q 55 0 hv1_55.out).1 hb) (Cs.seg1 (HB2.out.mod Cx17.out (fun h => h)) HLNx.out 8 rfl (o := 155) (k := 0) rfl rfl rfl)) ?_
 intro v1_56 hw
 have hv1_56 := hid hw
 clear hw
 refine QSeq.may (b := pb53) rfl (.pointer (some ⟨w.heap.size + 1, 155, none⟩)) (fun E => ((wanted_of rfl rfl (E.sz 59 (by decide)) (E.d 54 2)).trans (beq_t _))) (fun E hb => ex_field rfl Try.underlying67 rfl (by kernel_rfl) (E.v oe3)) ?_
 intro v1_57 hw
 have hv1_57 := hid hw
 clear hw
 refine QSeq.may (b := pb53) rfl (.int .i64 y.rn) (fun E => ((wanted_of rfl rfl (E.sz 59 (by decide)) (E.d 54 3)).trans (beq_t _))) (fun E hb => ex_load1 rfl Try.underlying3 rfl ((E.q 57 0 hv1_57.out).1 hb) (Cs.seg1 (HB3.out.mod Cx17.out (fun h => h)) HLNy.out 8 rfl (o := 155) (k := 0) rfl rfl rfl)) ?_
 intro v1_58 hw
 have hv1_58 := hid hw
 clear hw
 refine QSeq.may (b := pb53) rfl (.bool (x.rn == y.rn)) (fun E => ((wanted_of rfl rfl (E.sz 59 (by decide)) (E.d 54 4)).trans (beq_t _))) (fun E hb => ex_bin rfl ((E.q 56 2 hv1_56.out).1 hb) ((E.q 58 0 hv1_58.out).1 hb) (guard_ints _ _ _ _ _ _) (run_eql_i _ _ _ Try.underlying3)) ?_
 intro v1_59 hw
 have hv1_59 := hid hw
 clear hw
 obtain ⟨pb60, hb60⟩ : ∃ b : Bool, b = (pb53 && (x.rn == y.rn)) := ⟨_, rfl⟩
 have HB60 := hid hb60
 clear hb60
 refine QSeq.pure rfl (.bool pb60) (fun E => ex_pickE rfl (E.d 54 5) rfl rfl ((and_val fun hb => (E.q 59 0 hv1_59.out).1 hb).trans (congrArg Value.bool HB60.out.symm))) ?_
 refine QSeq.pure rfl _ (fun E => ex_move rfl (E.d 60 0)) ?_
 refine QSeq.may (b := pb60) rfl (.pointer (some ⟨w.heap.size, 156, none⟩)) (fun E => ((wanted_of rfl rfl (E.sz 66 (by decide)) (E.d 61 0)).trans (beq_t _))) (fun E hb => ex_field rfl Try.underlying67 rfl (by kernel_rfl) (E.v oe2)) ?_
 intro v1_62 hw
 have hv1_62 := hid hw
 clear hw
 refine QSeq.may (b := pb60) rfl (.int .u64 (x.tm : Nat)) (fun E => ((wanted_of rfl rfl (E.sz 66 (by decide)) (E.d 61 1)).trans (beq_t _))) (fun E hb => ex_load1 rfl Try.underlying36 rfl ((E.q 62 0 hv1_62.out).1 hb) (Cs.seg1 (HB2.out.mod Cx17.out (fun h => h)) HLNx.out 9 rfl (o := 156) (k := 0) rfl rfl rfl)) ?_
 intro v1_63 hw
 have hv1_63 := hid hw
 clear hw
 refine QSeq.may (b := pb60) rfl (.pointer (some ⟨w.heap.size + 1, 156, none⟩)) (fun E => ((wanted_of rfl rfl (E.sz 66 (by decide)) (E.d 61 2)).trans (beq_t _))) (fun E hb => ex_field rfl Try.underlying67 rfl (by kernel_rfl) (E.v oe3)) ?_
 intro v1_64 hw
 have hv1_64 := hid hw
 clear hw
 refine QSeq.may (b := pb60) rfl (.int .u64 (y.tm : Nat)) (fun E => ((wanted_of rfl rfl (E.sz 66 (by decide)) (E.d 61 3)).trans (beq_t _))) (fun E hb => ex_load1 rfl Try.underlying36 rfl ((E.q 64 0 hv1_64.out).1 hb) (Cs.seg1 (HB3.out.mod Cx17.out (fun h => h)) HLNy.out 9 rfl (o := 156) (k := 0) rfl rfl rfl)) ?_
 intro v1_65 hw
 have hv1_65 := hid hw
 clear hw
 refine QSeq.may (b := pb60) rfl (.bool (((x.tm : Nat) : Int) == ((y.tm : Nat) : Int))) (fun E => ((wanted_of rfl rfl (E.sz 66 (by decide)) (E.d 61 4)).trans (beq_t _))) (fun E hb => ex_bin rfl ((E.q 63 2 hv1_63.out).1 hb) ((E.q 65 0 hv1_65.out).1 hb) (guard_ints _ _ _ _ _ _) (run_eql_i _ _ _ Try.underlying36)) ?_
 intro v1_66 hw
 have hv1_66 := hid hw
 clear hw
 obtain ⟨pb67, hb67⟩ : ∃ b : Bool, b = (pb60 && (((x.tm : Nat) : Int) == ((y.tm : Nat) : Int))) := ⟨_, rfl⟩
 have HB67 := hid hb67
 clear hb67
 refine QSeq.pure rfl (.bool pb67) (fun E => ex_pickE rfl (E.d 61 5) rfl rfl ((and_val fun hb => (E.q 66 0 hv1_66.out).1 hb).trans (congrArg Value.bool HB67.out.symm))) ?_
 refine QSeq.pure rfl _ (fun E => ex_move rfl (E.d 67 0)) ?_
 refine QSeq.may (b := pb67) rfl (.pointer (some ⟨w.heap.size, 157, none⟩)) (fun E => ((wanted_of rfl rfl (E.sz 73 (by decide)) (E.d 68 0)).trans (beq_t _))) (fun E hb => ex_field rfl Try.underlying67 rfl (by kernel_rfl) (E.v oe2)) ?_
 intro v1_69 hw
 have hv1_69 := hid hw
 clear hw
 refine QSeq.may (b := pb67) rfl (.agg (xc10).toArray) (fun E => ((wanted_of rfl rfl (E.sz 73 (by decide)) (E.d 68 1)).trans (beq_t _))) (fun E hb => ex_loadA rfl Try.underlying46 rfl (off := 157) (cs := (xc10)) (by rw [HCx10.out]; kernel_rfl) ((E.q 69 0 hv1_69.out).1 hb) (Cs.seg (HB2.out.mod Cx17.out (fun h => h)) HLNx.out 10 rfl rfl)) ?_
 intro v1_70 hw
 have hv1_70 := hid hw
 clear hw
 refine QSeq.may (b := pb67) rfl (.pointer (some ⟨w.heap.size + 1, 157, none⟩)) (fun E => ((wanted_of rfl rfl (E.sz 73 (by decide)) (E.d 68 2)).trans (beq_t _))) (fun E hb => ex_field rfl Try.underlying67 rfl (by kernel_rfl) (E.v oe3)) ?_
 intro v1_71 hw
 have hv1_71 := hid hw
 clear hw
 refine QSeq.may (b := pb67) rfl (.agg (yc10).toArray) (fun E => ((wanted_of rfl rfl (E.sz 73 (by decide)) (E.d 68 3)).trans (beq_t _))) (fun E hb => ex_loadA rfl Try.underlying46 rfl (off := 157) (cs := (yc10)) (by rw [HCy10.out]; kernel_rfl) ((E.q 71 0 hv1_71.out).1 hb) (Cs.seg (HB3.out.mod Cx17.out (fun h => h)) HLNy.out 10 rfl rfl)) ?_
 intro v1_72 hw
 have hv1_72 := hid hw
 clear hw
 refine QSeq.mayCall (b := pb67) rfl (.bool (eqb x.pm y.pm)) (args := #[.agg (xc10).toArray, .agg (yc10).toArray]) (fun E => ((wanted_of rfl rfl (E.sz 73 (by decide)) (E.d 68 4)).trans (beq_t _))) rfl Try.func24 (fun E hb => args2 ((E.q 70 2 hv1_70.out).1 hb) ((E.q 72 0 hv1_72.out).1 hb)) (fun hb => Eq_Pm _ _ _ _ x.pm y.pm _ (Hx2.out.mod Cx17.out (fun _ _ h => h)) (Hx10.out.mod Cx17.out (fun _ _ h => h)) (by intro k h1; have hb := HBR.out k h1; (try have := hm.size); omega) (by intro k h1; have hb := HBT.out k h1; (try have := hm.size); omega)) ?_
 intro v1_73 u1_73 hw hm
 have hv1_73 := hid hw
 clear hw
 have zu1_73 := hm.size
 have HMu1_73 := hid hm
 have Cx18 := hid (Cx17.out.goE hm)
 clear hm Cx17
 obtain ⟨pb74, hb74⟩ : ∃ b : Bool, b = (pb67 && (eqb x.pm y.pm)) := ⟨_, rfl⟩
 have HB74 := hid hb74
 clear hb74
 refine QSeq.pure rfl (.bool pb74) (fun E => ex_pickE rfl (E.d 68 5) rfl rfl ((and_val fun hb => (E.q 73 0 hv1_73.out).1 hb).trans (congrArg Value.bool HB74.out.symm))) ?_
 refine QSeq.pure rfl _ (fun E => ex_move rfl (E.d 74 0)) ?_
 refine QSeq.may (b := pb74) rfl (.pointer (some ⟨w.heap.size, 163, none⟩)) (fun E => ((wanted_of rfl rfl (E.sz 80 (by decide)) (E.d 75 0)).trans (beq_t _))) (fun E hb => ex_field rfl Try.underlying67 rfl (by kernel_rfl) (E.v oe2)) ?_
 intro v1_76 hw
 have hv1_76 := hid hw
 clear hw
 refine QSeq.may (b := pb74) rfl (.agg (xc11).toArray) (fun E => ((wanted_of rfl rfl (E.sz 80 (by decide)) (E.d 75 1)).trans (beq_t _))) (fun E hb => ex_loadA rfl Try.underlying53 rfl (off := 163) (cs := (xc11)) (by rw [HCx11.out]; kernel_rfl) ((E.q 76 0 hv1_76.out).1 hb) (Cs.seg (HB2.out.mod Cx18.out (fun h => h)) HLNx.out 11 rfl rfl)) ?_
 intro v1_77 hw
 have hv1_77 := hid hw
 clear hw
 refine QSeq.may (b := pb74) rfl (.pointer (some ⟨w.heap.size + 1, 163, none⟩)) (fun E => ((wanted_of rfl rfl (E.sz 80 (by decide)) (E.d 75 2)).trans (beq_t _))) (fun E hb => ex_field rfl Try.underlying67 rfl (by kernel_rfl) (E.v oe3)) ?_
 intro v1_78 hw
 have hv1_78 := hid hw
 clear hw
 refine QSeq.may (b := pb74) rfl (.agg (yc11).toArray) (fun E => ((wanted_of rfl rfl (E.sz 80 (by decide)) (E.d 75 3)).trans (beq_t _))) (fun E hb => ex_loadA rfl Try.underlying53 rfl (off := 163) (cs := (yc11)) (by rw [HCy11.out]; kernel_rfl) ((E.q 78 0 hv1_78.out).1 hb) (Cs.seg (HB3.out.mod Cx18.out (fun h => h)) HLNy.out 11 rfl rfl)) ?_
 intro v1_79 hw
 have hv1_79 := hid hw
 clear hw
 refine QSeq.mayCall (b := pb74) rfl (.bool (eqb x.pr y.pr)) (args := #[.agg (xc11).toArray, .agg (yc11).toArray]) (fun E => ((wanted_of rfl rfl (E.sz 80 (by decide)) (E.d 75 4)).trans (beq_t _))) rfl Try.func25 (fun E hb => args2 ((E.q 77 2 hv1_77.out).1 hb) ((E.q 79 0 hv1_79.out).1 hb)) (fun hb => Eq_Pr _ _ _ _ x.pr y.pr _ (Hx3.out.mod Cx18.out (fun _ _ h => h)) (Hx11.out.mod Cx18.out (fun _ _ h => h)) (by intro k h1; have hb := HBR.out k h1; (try have := hm.size); omega) (by intro k h1; have hb := HBT.out k h1; (try have := hm.size); omega)) ?_
 intro v1_80 u1_80 hw hm
 have hv1_80 := hid hw
 clear hw
 have zu1_80 := hm.size
 have HMu1_80 := hid hm
 have Cx19 := hid (Cx18.out.goE hm)
 clear hm Cx18
 obtain ⟨pb81, hb81⟩ : ∃ b : Bool, b = (pb74 && (eqb x.pr y.pr)) := ⟨_, rfl⟩
 have HB81 := hid hb81
 clear hb81
 refine QSeq.pure rfl (.bool pb81) (fun E => ex_pickE rfl (E.d 75 5) rfl rfl ((and_val fun hb => (E.q 80 0 hv1_80.out).1 hb).trans (congrArg Value.bool HB81.out.symm))) ?_
 refine QSeq.pure rfl _ (fun E => ex_move rfl (E.d 81 0)) ?_
 refine QSeq.may (b := pb81) rfl (.pointer (some ⟨w.heap.size, 174, none⟩)) (fun E => ((wanted_of rfl rfl (E.sz 87 (by decide)) (E.d 82 0)).trans (beq_t _))) (fun E hb => ex_field rfl Try.underlying67 rfl (by kernel_rfl) (E.v oe2)) ?_
 intro v1_83 hw
 have hv1_83 := hid hw
 clear hw
 refine QSeq.may (b := pb81) rfl (.agg (x.vt.cells).toArray) (fun E => ((wanted_of rfl rfl (E.sz 87 (by decide)) (E.d 82 1)).trans (beq_t _))) (fun E hb => ex_loadA rfl Try.underlying55 rfl (off := 174) (cs := (x.vt.cells)) (by rw [Vt.len HOKx.out.vt]; kernel_rfl) ((E.q 83 0 hv1_83.out).1 hb) (Cs.seg (HB2.out.mod Cx19.out (fun h => h)) HLNx.out 12 rfl rfl)) ?_
 intro v1_84 hw
 have hv1_84 := hid hw
 clear hw
 refine QSeq.may (b := pb81) rfl (.pointer (some ⟨w.heap.size + 1, 174, none⟩)) (fun E => ((wanted_of rfl rfl (E.sz 87 (by decide)) (E.d 82 2)).trans (beq_t _))) (fun E hb => ex_field rfl Try.underlying67 rfl (by kernel_rfl) (E.v oe3)) ?_
 intro v1_85 hw
 have hv1_85 := hid hw
 clear hw
 refine QSeq.may (b := pb81) rfl (.agg (y.vt.cells).toArray) (fun E => ((wanted_of rfl rfl (E.sz 87 (by decide)) (E.d 82 3)).trans (beq_t _))) (fun E hb => ex_loadA rfl Try.underlying55 rfl (off := 174) (cs := (y.vt.cells)) (by rw [Vt.len HOKy.out.vt]; kernel_rfl) ((E.q 85 0 hv1_85.out).1 hb) (Cs.seg (HB3.out.mod Cx19.out (fun h => h)) HLNy.out 12 rfl rfl)) ?_
 intro v1_86 hw
 have hv1_86 := hid hw
 clear hw
 refine QSeq.may (b := pb81) rfl (.bool (eqb x.vt y.vt)) (fun E => ((wanted_of rfl rfl (E.sz 87 (by decide)) (E.d 82 4)).trans (beq_t _))) (fun E hb => ex_binE rfl ((E.q 84 2 hv1_84.out).1 hb) ((E.q 86 0 hv1_86.out).1 hb) (agg_guardE _ _ _ _ _ _ (by kernel_rfl) _) (EqW.run eqW_vote (ki_vt HOKx.out.vt) (ki_vt HOKy.out.vt) (vt_iff HOKx.out.vt HOKy.out.vt) _) rfl) ?_
 intro v1_87 hw
 have hv1_87 := hid hw
 clear hw
 obtain ⟨pb88, hb88⟩ : ∃ b : Bool, b = (pb81 && (eqb x.vt y.vt)) := ⟨_, rfl⟩
 have HB88 := hid hb88
 clear hb88
 refine QSeq.pure rfl (.bool pb88) (fun E => ex_pickE rfl (E.d 82 5) rfl rfl ((and_val fun hb => (E.q 87 0 hv1_87.out).1 hb).trans (congrArg Value.bool HB88.out.symm))) ?_
 refine QSeq.pure rfl _ (fun E => ex_move rfl (E.d 88 0)) ?_
 refine QSeq.may (b := pb88) rfl (.pointer (some ⟨w.heap.size, 212, none⟩)) (fun E => ((wanted_of rfl rfl (E.sz 94 (by decide)) (E.d 89 0)).trans (beq_t _))) (fun E hb => ex_field rfl Try.underlying67 rfl (by kernel_rfl) (E.v oe2)) ?_
 intro v1_90 hw
 have hv1_90 := hid hw
 clear hw
 refine QSeq.may (b := pb88) rfl (.int .i64 x.ix) (fun E => ((wanted_of rfl rfl (E.sz 94 (by decide)) (E.d 89 1)).trans (beq_t _))) (fun E hb => ex_load1 rfl Try.underlying3 rfl ((E.q 90 0 hv1_90.out).1 hb) (Cs.seg1 (HB2.out.mod Cx19.out (fun h => h)) HLNx.out 13 rfl (o := 212) (k := 0) rfl rfl rfl)) ?_
 intro v1_91 hw
 have hv1_91 := hid hw
 clear hw
 refine QSeq.may (b := pb88) rfl (.pointer (some ⟨w.heap.size + 1, 212, none⟩)) (fun E => ((wanted_of rfl rfl (E.sz 94 (by decide)) (E.d 89 2)).trans (beq_t _))) (fun E hb => ex_field rfl Try.underlying67 rfl (by kernel_rfl) (E.v oe3)) ?_
 intro v1_92 hw
 have hv1_92 := hid hw
 clear hw
 refine QSeq.may (b := pb88) rfl (.int .i64 y.ix) (fun E => ((wanted_of rfl rfl (E.sz 94 (by decide)) (E.d 89 3)).trans (beq_t _))) (fun E hb => ex_load1 rfl Try.underlying3 rfl ((E.q 92 0 hv1_92.out).1 hb) (Cs.seg1 (HB3.out.mod Cx19.out (fun h => h)) HLNy.out 13 rfl (o := 212) (k := 0) rfl rfl rfl)) ?_
 intro v1_93 hw
 have hv1_93 := hid hw
 clear hw
 refine QSeq.may (b := pb88) rfl (.bool (x.ix == y.ix)) (fun E => ((wanted_of rfl rfl (E.sz 94 (by decide)) (E.d 89 4)).trans (beq_t _))) (fun E hb => ex_bin rfl ((E.q 91 2 hv1_91.out).1 hb) ((E.q 93 0 hv1_93.out).1 hb) (guard_ints _ _ _ _ _ _) (run_eql_i _ _ _ Try.underlying3)) ?_
 intro v1_94 hw
 have hv1_94 := hid hw
 clear hw
 obtain ⟨pb95, hb95⟩ : ∃ b : Bool, b = (pb88 && (x.ix == y.ix)) := ⟨_, rfl⟩
 have HB95 := hid hb95
 clear hb95
 refine QSeq.pure rfl (.bool pb95) (fun E => ex_pickE rfl (E.d 89 5) rfl rfl ((and_val fun hb => (E.q 94 0 hv1_94.out).1 hb).trans (congrArg Value.bool HB95.out.symm))) ?_
 refine QSeq.pure rfl _ (fun E => ex_move rfl (E.d 95 0)) ?_
 refine QSeq.may (b := pb95) rfl (.pointer (some ⟨w.heap.size, 213, none⟩)) (fun E => ((wanted_of rfl rfl (E.sz 101 (by decide)) (E.d 96 0)).trans (beq_t _))) (fun E hb => ex_field rfl Try.underlying67 rfl (by kernel_rfl) (E.v oe2)) ?_
 intro v1_97 hw
 have hv1_97 := hid hw
 clear hw
 refine QSeq.may (b := pb95) rfl (.agg (x.en.cells).toArray) (fun E => ((wanted_of rfl rfl (E.sz 101 (by decide)) (E.d 96 1)).trans (beq_t _))) (fun E hb => ex_loadA rfl Try.underlying57 rfl (off := 213) (cs := (x.en.cells)) (by rw [En.len HOKx.out.en]; kernel_rfl) ((E.q 97 0 hv1_97.out).1 hb) (Cs.seg (HB2.out.mod Cx19.out (fun h => h)) HLNx.out 14 rfl rfl)) ?_
 intro v1_98 hw
 have hv1_98 := hid hw
 clear hw
 refine QSeq.may (b := pb95) rfl (.pointer (some ⟨w.heap.size + 1, 213, none⟩)) (fun E => ((wanted_of rfl rfl (E.sz 101 (by decide)) (E.d 96 2)).trans (beq_t _))) (fun E hb => ex_field rfl Try.underlying67 rfl (by kernel_rfl) (E.v oe3)) ?_
 intro v1_99 hw
 have hv1_99 := hid hw
 clear hw
 refine QSeq.may (b := pb95) rfl (.agg (y.en.cells).toArray) (fun E => ((wanted_of rfl rfl (E.sz 101 (by decide)) (E.d 96 3)).trans (beq_t _))) (fun E hb => ex_loadA rfl Try.underlying57 rfl (off := 213) (cs := (y.en.cells)) (by rw [En.len HOKy.out.en]; kernel_rfl) ((E.q 99 0 hv1_99.out).1 hb) (Cs.seg (HB3.out.mod Cx19.out (fun h => h)) HLNy.out 14 rfl rfl)) ?_
 intro v1_100 hw
 have hv1_100 := hid hw
 clear hw
 refine QSeq.may (b := pb95) rfl (.bool (eqb x.en y.en)) (fun E => ((wanted_of rfl rfl (E.sz 101 (by decide)) (E.d 96 4)).trans (beq_t _))) (fun E hb => ex_binE rfl ((E.q 98 2 hv1_98.out).1 hb) ((E.q 100 0 hv1_100.out).1 hb) (agg_guardE _ _ _ _ _ _ (by kernel_rfl) _) (EqW.run eqW_entry (ki_en HOKx.out.en) (ki_en HOKy.out.en) (en_iff HOKx.out.en HOKy.out.en) _) rfl) ?_
 intro v1_101 hw
 have hv1_101 := hid hw
 clear hw
 obtain ⟨pb102, hb102⟩ : ∃ b : Bool, b = (pb95 && (eqb x.en y.en)) := ⟨_, rfl⟩
 have HB102 := hid hb102
 clear hb102
 refine QSeq.pure rfl (.bool pb102) (fun E => ex_pickE rfl (E.d 96 5) rfl rfl ((and_val fun hb => (E.q 101 0 hv1_101.out).1 hb).trans (congrArg Value.bool HB102.out.symm))) ?_
 refine QSeq.pure rfl _ (fun E => ex_move rfl (E.d 102 0)) ?_
 refine QSeq.may (b := pb102) rfl (.pointer (some ⟨w.heap.size, 248, none⟩)) (fun E => ((wanted_of rfl rfl (E.sz 108 (by decide)) (E.d 103 0)).trans (beq_t _))) (fun E hb => ex_field rfl Try.underlying67 rfl (by kernel_rfl) (E.v oe2)) ?_
 intro v1_104 hw
 have hv1_104 := hid hw
 clear hw
 refine QSeq.may (b := pb102) rfl (.agg (xc15).toArray) (fun E => ((wanted_of rfl rfl (E.sz 108 (by decide)) (E.d 103 1)).trans (beq_t _))) (fun E hb => ex_loadA rfl Try.underlying60 rfl (off := 248) (cs := (xc15)) (by rw [HCx15.out]; kernel_rfl) ((E.q 104 0 hv1_104.out).1 hb) (Cs.seg (HB2.out.mod Cx19.out (fun h => h)) HLNx.out 15 rfl rfl)) ?_
 intro v1_105 hw
 have hv1_105 := hid hw
 clear hw
 refine QSeq.may (b := pb102) rfl (.pointer (some ⟨w.heap.size + 1, 248, none⟩)) (fun E => ((wanted_of rfl rfl (E.sz 108 (by decide)) (E.d 103 2)).trans (beq_t _))) (fun E hb => ex_field rfl Try.underlying67 rfl (by kernel_rfl) (E.v oe3)) ?_
 intro v1_106 hw
 have hv1_106 := hid hw
 clear hw
 refine QSeq.may (b := pb102) rfl (.agg (yc15).toArray) (fun E => ((wanted_of rfl rfl (E.sz 108 (by decide)) (E.d 103 3)).trans (beq_t _))) (fun E hb => ex_loadA rfl Try.underlying60 rfl (off := 248) (cs := (yc15)) (by rw [HCy15.out]; kernel_rfl) ((E.q 106 0 hv1_106.out).1 hb) (Cs.seg (HB3.out.mod Cx19.out (fun h => h)) HLNy.out 15 rfl rfl)) ?_
 intro v1_107 hw
 have hv1_107 := hid hw
 clear hw
 refine QSeq.mayCall (b := pb102) rfl (.bool (eqb x.op y.op)) (args := #[.agg (xc15).toArray, .agg (yc15).toArray]) (fun E => ((wanted_of rfl rfl (E.sz 108 (by decide)) (E.d 103 4)).trans (beq_t _))) rfl Try.func26 (fun E hb => args2 ((E.q 105 2 hv1_105.out).1 hb) ((E.q 107 0 hv1_107.out).1 hb)) (fun hb => Eq_Op _ _ _ _ x.op y.op _ (Hx4.out.mod Cx19.out (fun _ _ h => h)) (Hx12.out.mod Cx19.out (fun _ _ h => h)) (by intro k h1; have hb := HBR.out k h1; (try have := hm.size); omega) (by intro k h1; have hb := HBT.out k h1; (try have := hm.size); omega)) ?_
 intro v1_108 u1_108 hw hm
 have hv1_108 := hid hw
 clear hw
 have zu1_108 := hm.size
 have HMu1_108 := hid hm
 have Cx20 := hid (Cx19.out.goE hm)
 clear hm Cx19
 obtain ⟨pb109, hb109⟩ : ∃ b : Bool, b = (pb102 && (eqb x.op y.op)) := ⟨_, rfl⟩
 have HB109 := hid hb109
 clear hb109
 refine QSeq.pure rfl (.bool pb109) (fun E => ex_pickE rfl (E.d 103 5) rfl rfl ((and_val fun hb => (E.q 108 0 hv1_108.out).1 hb).trans (congrArg Value.bool HB109.out.symm))) ?_
 refine QSeq.pure rfl _ (fun E => ex_move rfl (E.d 109 0)) ?_
 refine QSeq.may (b := pb109) rfl (.pointer (some ⟨w.heap.size, 282, none⟩)) (fun E => ((wanted_of rfl rfl (E.sz 115 (by decide)) (E.d 110 0)).trans (beq_t _))) (fun E hb => ex_field rfl Try.underlying67 rfl (by kernel_rfl) (E.v oe2)) ?_
 intro v1_111 hw
 have hv1_111 := hid hw
 clear hw
 refine QSeq.may (b := pb109) rfl (.agg (x.dn.cells).toArray) (fun E => ((wanted_of rfl rfl (E.sz 115 (by decide)) (E.d 110 1)).trans (beq_t _))) (fun E hb => ex_loadA rfl Try.underlying62 rfl (off := 282) (cs := (x.dn.cells)) (by kernel_rfl) ((E.q 111 0 hv1_111.out).1 hb) (Cs.seg (HB2.out.mod Cx20.out (fun h => h)) HLNx.out 16 rfl rfl)) ?_
 intro v1_112 hw
 have hv1_112 := hid hw
 clear hw
 refine QSeq.may (b := pb109) rfl (.pointer (some ⟨w.heap.size + 1, 282, none⟩)) (fun E => ((wanted_of rfl rfl (E.sz 115 (by decide)) (E.d 110 2)).trans (beq_t _))) (fun E hb => ex_field rfl Try.underlying67 rfl (by kernel_rfl) (E.v oe3)) ?_
 intro v1_113 hw
 have hv1_113 := hid hw
 clear hw
 refine QSeq.may (b := pb109) rfl (.agg (y.dn.cells).toArray) (fun E => ((wanted_of rfl rfl (E.sz 115 (by decide)) (E.d 110 3)).trans (beq_t _))) (fun E hb => ex_loadA rfl Try.underlying62 rfl (off := 282) (cs := (y.dn.cells)) (by kernel_rfl) ((E.q 113 0 hv1_113.out).1 hb) (Cs.seg (HB3.out.mod Cx20.out (fun h => h)) HLNy.out 16 rfl rfl)) ?_
 intro v1_114 hw
 have hv1_114 := hid hw
 clear hw
 refine QSeq.may (b := pb109) rfl (.bool (eqb x.dn y.dn)) (fun E => ((wanted_of rfl rfl (E.sz 115 (by decide)) (E.d 110 4)).trans (beq_t _))) (fun E hb => ex_binE rfl ((E.q 112 2 hv1_112.out).1 hb) ((E.q 114 0 hv1_114.out).1 hb) (agg_guardE _ _ _ _ _ _ (by kernel_rfl) _) (EqW.run eqW_deny (ki_dn _) (ki_dn _) (dn_iff HOKx.out.dn HOKy.out.dn) _) rfl) ?_
 intro v1_115 hw
 have hv1_115 := hid hw
 clear hw
 obtain ⟨pb116, hb116⟩ : ∃ b : Bool, b = (pb109 && (eqb x.dn y.dn)) := ⟨_, rfl⟩
 have HB116 := hid hb116
 clear hb116
 refine QSeq.pure rfl (.bool pb116) (fun E => ex_pickE rfl (E.d 110 5) rfl rfl ((and_val fun hb => (E.q 115 0 hv1_115.out).1 hb).trans (congrArg Value.bool HB116.out.symm))) ?_
 refine QSeq.pure rfl _ (fun E => ex_move rfl (E.d 116 0)) ?_
 refine QSeq.may (b := pb116) rfl (.pointer (some ⟨w.heap.size, 286, none⟩)) (fun E => ((wanted_of rfl rfl (E.sz 122 (by decide)) (E.d 117 0)).trans (beq_t _))) (fun E hb => ex_field rfl Try.underlying67 rfl (by kernel_rfl) (E.v oe2)) ?_
 intro v1_118 hw
 have hv1_118 := hid hw
 clear hw
 refine QSeq.may (b := pb116) rfl (.string x.rp) (fun E => ((wanted_of rfl rfl (E.sz 122 (by decide)) (E.d 117 1)).trans (beq_t _))) (fun E hb => ex_load1 rfl Try.underlying9 rfl ((E.q 118 0 hv1_118.out).1 hb) (Cs.seg1 (HB2.out.mod Cx20.out (fun h => h)) HLNx.out 17 rfl (o := 286) (k := 0) rfl rfl rfl)) ?_
 intro v1_119 hw
 have hv1_119 := hid hw
 clear hw
 refine QSeq.may (b := pb116) rfl (.pointer (some ⟨w.heap.size + 1, 286, none⟩)) (fun E => ((wanted_of rfl rfl (E.sz 122 (by decide)) (E.d 117 2)).trans (beq_t _))) (fun E hb => ex_field rfl Try.underlying67 rfl (by kernel_rfl) (E.v oe3)) ?_
 intro v1_120 hw
 have hv1_120 := hid hw
 clear hw
 refine QSeq.may (b := pb116) rfl (.string y.rp) (fun E => ((wanted_of rfl rfl (E.sz 122 (by decide)) (E.d 117 3)).trans (beq_t _))) (fun E hb => ex_load1 rfl Try.underlying9 rfl ((E.q 120 0 hv1_120.out).1 hb) (Cs.seg1 (HB3.out.mod Cx20.out (fun h => h)) HLNy.out 17 rfl (o := 286) (k := 0) rfl rfl rfl)) ?_
 intro v1_121 hw
 have hv1_121 := hid hw
 clear hw
 refine QSeq.may (b := pb116) rfl (.bool (eqb x.rp y.rp)) (fun E => ((wanted_of rfl rfl (E.sz 122 (by decide)) (E.d 117 4)).trans (beq_t _))) (fun E hb => ex_binE rfl ((E.q 119 2 hv1_119.out).1 hb) ((E.q 121 0 hv1_121.out).1 hb) (guard_strE _) (run_eql_strE _) rfl) ?_
 intro v1_122 hw
 have hv1_122 := hid hw
 clear hw
 obtain ⟨pb123, hb123⟩ : ∃ b : Bool, b = (pb116 && (eqb x.rp y.rp)) := ⟨_, rfl⟩
 have HB123 := hid hb123
 clear hb123
 refine QSeq.pure rfl (.bool pb123) (fun E => ex_pickE rfl (E.d 117 5) rfl rfl ((and_val fun hb => (E.q 122 0 hv1_122.out).1 hb).trans (congrArg Value.bool HB123.out.symm))) ?_
 refine QSeq.pure rfl _ (fun E => ex_move rfl (E.d 123 0)) ?_
 refine QSeq.may (b := pb123) rfl (.pointer (some ⟨w.heap.size, 287, none⟩)) (fun E => ((wanted_of rfl rfl (E.sz 129 (by decide)) (E.d 124 0)).trans (beq_t _))) (fun E hb => ex_field rfl Try.underlying67 rfl (by kernel_rfl) (E.v oe2)) ?_
 intro v1_125 hw
 have hv1_125 := hid hw
 clear hw
 refine QSeq.may (b := pb123) rfl (.pointer (some ⟨w.heap.size, 287, none⟩)) (fun E => ((wanted_of rfl rfl (E.sz 129 (by decide)) (E.d 124 1)).trans (beq_t _))) (fun E hb => ex_field rfl Try.underlying65 rfl (by kernel_rfl) ((E.q 125 0 hv1_125.out).1 hb)) ?_
 intro v1_126 hw
 have hv1_126 := hid hw
 clear hw
 refine QSeq.may (b := pb123) rfl (.int .i64 x.dc.ep) (fun E => ((wanted_of rfl rfl (E.sz 129 (by decide)) (E.d 124 2)).trans (beq_t _))) (fun E hb => ex_load1 rfl Try.underlying3 rfl ((E.q 126 0 hv1_126.out).1 hb) (Cs.seg1 (HB2.out.mod Cx20.out (fun h => h)) HLNx.out 18 rfl (o := 287) (k := 0) rfl rfl rfl)) ?_
 intro v1_127 hw
 have hv1_127 := hid hw
 clear hw
 refine QSeq.may (b := pb123) rfl (.pointer (some ⟨w.heap.size + 1, 287, none⟩)) (fun E => ((wanted_of rfl rfl (E.sz 129 (by decide)) (E.d 124 3)).trans (beq_t _))) (fun E hb => ex_field rfl Try.underlying67 rfl (by kernel_rfl) (E.v oe3)) ?_
 intro v1_128 hw
 have hv1_128 := hid hw
 clear hw
 refine QSeq.may (b := pb123) rfl (.pointer (some ⟨w.heap.size + 1, 287, none⟩)) (fun E => ((wanted_of rfl rfl (E.sz 129 (by decide)) (E.d 124 4)).trans (beq_t _))) (fun E hb => ex_field rfl Try.underlying65 rfl (by kernel_rfl) ((E.q 128 0 hv1_128.out).1 hb)) ?_
 intro v1_129 hw
 have hv1_129 := hid hw
 clear hw
 refine QSeq.may (b := pb123) rfl (.int .i64 y.dc.ep) (fun E => ((wanted_of rfl rfl (E.sz 129 (by decide)) (E.d 124 5)).trans (beq_t _))) (fun E hb => ex_load1 rfl Try.underlying3 rfl ((E.q 129 0 hv1_129.out).1 hb) (Cs.seg1 (HB3.out.mod Cx20.out (fun h => h)) HLNy.out 18 rfl (o := 287) (k := 0) rfl rfl rfl)) ?_
 intro v1_130 hw
 have hv1_130 := hid hw
 clear hw
 refine QSeq.may (b := pb123) rfl (.bool (x.dc.ep == y.dc.ep)) (fun E => ((wanted_of rfl rfl (E.sz 129 (by decide)) (E.d 124 6)).trans (beq_t _))) (fun E hb => ex_bin rfl ((E.q 127 3 hv1_127.out).1 hb) ((E.q 130 0 hv1_130.out).1 hb) (guard_ints _ _ _ _ _ _) (run_eql_i _ _ _ Try.underlying3)) ?_
 intro v1_131 hw
 have hv1_131 := hid hw
 clear hw
 obtain ⟨pb132, hb132⟩ : ∃ b : Bool, b = (pb123 && (x.dc.ep == y.dc.ep)) := ⟨_, rfl⟩
 have HB132 := hid hb132
 clear hb132
 refine QSeq.pure rfl (.bool pb132) (fun E => ex_pickE rfl (E.d 124 7) rfl rfl ((and_val fun hb => (E.q 131 0 hv1_131.out).1 hb).trans (congrArg Value.bool HB132.out.symm))) ?_
 refine QSeq.pure rfl _ (fun E => ex_move rfl (E.d 132 0)) ?_
 refine QSeq.may (b := pb132) rfl (.pointer (some ⟨w.heap.size, 287, none⟩)) (fun E => ((wanted_of rfl rfl (E.sz 138 (by decide)) (E.d 133 0)).trans (beq_t _))) (fun E hb => ex_field rfl Try.underlying67 rfl (by kernel_rfl) (E.v oe2)) ?_
 intro v1_134 hw
 have hv1_134 := hid hw
 clear hw
 refine QSeq.may (b := pb132) rfl (.pointer (some ⟨w.heap.size, 288, none⟩)) (fun E => ((wanted_of rfl rfl (E.sz 138 (by decide)) (E.d 133 1)).trans (beq_t _))) (fun E hb => ex_field rfl Try.underlying65 rfl (by kernel_rfl) ((E.q 134 0 hv1_134.out).1 hb)) ?_
 intro v1_135 hw
 have hv1_135 := hid hw
 clear hw
 refine QSeq.may (b := pb132) rfl (.int .i64 x.dc.rn) (fun E => ((wanted_of rfl rfl (E.sz 138 (by decide)) (E.d 133 2)).trans (beq_t _))) (fun E hb => ex_load1 rfl Try.underlying3 rfl ((E.q 135 0 hv1_135.out).1 hb) (Cs.seg1 (HB2.out.mod Cx20.out (fun h => h)) HLNx.out 18 rfl (o := 287) (k := 1) rfl rfl rfl)) ?_
 intro v1_136 hw
 have hv1_136 := hid hw
 clear hw
 refine QSeq.may (b := pb132) rfl (.pointer (some ⟨w.heap.size + 1, 287, none⟩)) (fun E => ((wanted_of rfl rfl (E.sz 138 (by decide)) (E.d 133 3)).trans (beq_t _))) (fun E hb => ex_field rfl Try.underlying67 rfl (by kernel_rfl) (E.v oe3)) ?_
 intro v1_137 hw
 have hv1_137 := hid hw
 clear hw
 refine QSeq.may (b := pb132) rfl (.pointer (some ⟨w.heap.size + 1, 288, none⟩)) (fun E => ((wanted_of rfl rfl (E.sz 138 (by decide)) (E.d 133 4)).trans (beq_t _))) (fun E hb => ex_field rfl Try.underlying65 rfl (by kernel_rfl) ((E.q 137 0 hv1_137.out).1 hb)) ?_
 intro v1_138 hw
 have hv1_138 := hid hw
 clear hw
 refine QSeq.may (b := pb132) rfl (.int .i64 y.dc.rn) (fun E => ((wanted_of rfl rfl (E.sz 138 (by decide)) (E.d 133 5)).trans (beq_t _))) (fun E hb => ex_load1 rfl Try.underlying3 rfl ((E.q 138 0 hv1_138.out).1 hb) (Cs.seg1 (HB3.out.mod Cx20.out (fun h => h)) HLNy.out 18 rfl (o := 287) (k := 1) rfl rfl rfl)) ?_
 intro v1_139 hw
 have hv1_139 := hid hw
 clear hw
 refine QSeq.may (b := pb132) rfl (.bool (x.dc.rn == y.dc.rn)) (fun E => ((wanted_of rfl rfl (E.sz 138 (by decide)) (E.d 133 6)).trans (beq_t _))) (fun E hb => ex_bin rfl ((E.q 136 3 hv1_136.out).1 hb) ((E.q 139 0 hv1_139.out).1 hb) (guard_ints _ _ _ _ _ _) (run_eql_i _ _ _ Try.underlying3)) ?_
 intro v1_140 hw
 have hv1_140 := hid hw
 clear hw
 obtain ⟨pb141, hb141⟩ : ∃ b : Bool, b = (pb132 && (x.dc.rn == y.dc.rn)) := ⟨_, rfl⟩
 have HB141 := hid hb141
 clear hb141
 refine QSeq.pure rfl (.bool pb141) (fun E => ex_pickE rfl (E.d 133 7) rfl rfl ((and_val fun hb => (E.q 140 0 hv1_140.out).1 hb).trans (congrArg Value.bool HB141.out.symm))) ?_
 refine QSeq.pure rfl _ (fun E => ex_move rfl (E.d 141 0)) ?_
 refine QSeq.may (b := pb141) rfl (.pointer (some ⟨w.heap.size, 287, none⟩)) (fun E => ((wanted_of rfl rfl (E.sz 147 (by decide)) (E.d 142 0)).trans (beq_t _))) (fun E hb => ex_field rfl Try.underlying67 rfl (by kernel_rfl) (E.v oe2)) ?_
 intro v1_143 hw
 have hv1_143 := hid hw
 clear hw
 refine QSeq.may (b := pb141) rfl (.pointer (some ⟨w.heap.size, 289, none⟩)) (fun E => ((wanted_of rfl rfl (E.sz 147 (by decide)) (E.d 142 1)).trans (beq_t _))) (fun E hb => ex_field rfl Try.underlying65 rfl (by kernel_rfl) ((E.q 143 0 hv1_143.out).1 hb)) ?_
 intro v1_144 hw
 have hv1_144 := hid hw
 clear hw
 refine QSeq.may (b := pb141) rfl (.agg #[.int .i64 x.dc.ba.ep, .int .u64 (x.dc.ba.tm : Nat), Value.slice axdp x.dc.ba.ps.length kxdp, Value.slice axdo x.dc.ba.os.length kxdo, Value.slice axdt x.dc.ba.ts.length kxdt]) (fun E => ((wanted_of rfl rfl (E.sz 147 (by decide)) (E.d 142 2)).trans (beq_t _))) (fun E hb => ex_loadA rfl Try.underlying51 rfl (off := 289) (cs := [.int .i64 x.dc.ba.ep, .int .u64 (x.dc.ba.tm : Nat), Value.slice axdp x.dc.ba.ps.length kxdp, Value.slice axdo x.dc.ba.os.length kxdo, Value.slice axdt x.dc.ba.ts.length kxdt]) (by kernel_rfl) ((E.q 144 0 hv1_144.out).1 hb) (Cs.segA (HB2.out.mod Cx20.out (fun h => h)) HLNx.out 18 rfl (o := 287) (k := 2) rfl rfl rfl)) ?_
 intro v1_145 hw
 have hv1_145 := hid hw
 clear hw
 refine QSeq.may (b := pb141) rfl (.pointer (some ⟨w.heap.size + 1, 287, none⟩)) (fun E => ((wanted_of rfl rfl (E.sz 147 (by decide)) (E.d 142 3)).trans (beq_t _))) (fun E hb => ex_field rfl Try.underlying67 rfl (by kernel_rfl) (E.v oe3)) ?_
 intro v1_146 hw
 have hv1_146 := hid hw
 clear hw
 refine QSeq.may (b := pb141) rfl (.pointer (some ⟨w.heap.size + 1, 289, none⟩)) (fun E => ((wanted_of rfl rfl (E.sz 147 (by decide)) (E.d 142 4)).trans (beq_t _))) (fun E hb => ex_field rfl Try.underlying65 rfl (by kernel_rfl) ((E.q 146 0 hv1_146.out).1 hb)) ?_
 intro v1_147 hw
 have hv1_147 := hid hw
 clear hw
 refine QSeq.may (b := pb141) rfl (.agg #[.int .i64 y.dc.ba.ep, .int .u64 (y.dc.ba.tm : Nat), Value.slice aydp y.dc.ba.ps.length kydp, Value.slice aydo y.dc.ba.os.length kydo, Value.slice aydt y.dc.ba.ts.length kydt]) (fun E => ((wanted_of rfl rfl (E.sz 147 (by decide)) (E.d 142 5)).trans (beq_t _))) (fun E hb => ex_loadA rfl Try.underlying51 rfl (off := 289) (cs := [.int .i64 y.dc.ba.ep, .int .u64 (y.dc.ba.tm : Nat), Value.slice aydp y.dc.ba.ps.length kydp, Value.slice aydo y.dc.ba.os.length kydo, Value.slice aydt y.dc.ba.ts.length kydt]) (by kernel_rfl) ((E.q 147 0 hv1_147.out).1 hb) (Cs.segA (HB3.out.mod Cx20.out (fun h => h)) HLNy.out 18 rfl (o := 287) (k := 2) rfl rfl rfl)) ?_
 intro v1_148 hw
 have hv1_148 := hid hw
 clear hw
 refine QSeq.mayCall (b := pb141) rfl (.bool (eqb x.dc.ba y.dc.ba)) (args := #[.agg #[.int .i64 x.dc.ba.ep, .int .u64 (x.dc.ba.tm : Nat), Value.slice axdp x.dc.ba.ps.length kxdp, Value.slice axdo x.dc.ba.os.length kxdo, Value.slice axdt x.dc.ba.ts.length kxdt], .agg #[.int .i64 y.dc.ba.ep, .int .u64 (y.dc.ba.tm : Nat), Value.slice aydp y.dc.ba.ps.length kydp, Value.slice aydo y.dc.ba.os.length kydo, Value.slice aydt y.dc.ba.ts.length kydt]]) (fun E => ((wanted_of rfl rfl (E.sz 147 (by decide)) (E.d 142 6)).trans (beq_t _))) rfl Try.func27 (fun E hb => args2 ((E.q 145 3 hv1_145.out).1 hb) ((E.q 148 0 hv1_148.out).1 hb)) (fun hb => Eq_Ba R R2 _ _ x.dc.ba y.dc.ba _ ⟨_, _, _, rfl, HODx.out.2.2, (Hx5.out.mod Cx20.out (fun _ _ h => h)), (Hx6.out.mod Cx20.out (fun _ _ h => h)), (Hx7.out.mod Cx20.out (fun _ _ h => h))⟩ ⟨_, _, _, rfl, HODy.out.2.2, (Hx13.out.mod Cx20.out (fun _ _ h => h)), (Hx14.out.mod Cx20.out (fun _ _ h => h)), (Hx15.out.mod Cx20.out (fun _ _ h => h))⟩ (by intro k h1; have hb := HBR.out k h1; (try have := hm.size); omega) (by intro k h1; have hb := HBT.out k h1; (try have := hm.size); omega)) ?_
 intro v1_149 u1_149 hw hm
 have hv1_149 := hid hw
 clear hw
 have zu1_149 := hm.size
 have HMu1_149 := hid hm
 have Cx21 := hid (Cx20.out.goE hm)
 clear hm Cx20
 obtain ⟨pb150, hb150⟩ : ∃ b : Bool, b = (pb141 && (eqb x.dc.ba y.dc.ba)) := ⟨_, rfl⟩
 have HB150 := hid hb150
 clear hb150
 refine QSeq.pure rfl (.bool pb150) (fun E => ex_pickE rfl (E.d 142 7) rfl rfl ((and_val fun hb => (E.q 149 0 hv1_149.out).1 hb).trans (congrArg Value.bool HB150.out.symm))) ?_
 refine QSeq.pure rfl _ (fun E => ex_move rfl (E.d 150 0)) ?_
 refine QSeq.may (b := pb150) rfl (.pointer (some ⟨w.heap.size, 287, none⟩)) (fun E => ((wanted_of rfl rfl (E.sz 156 (by decide)) (E.d 151 0)).trans (beq_t _))) (fun E hb => ex_field rfl Try.underlying67 rfl (by kernel_rfl) (E.v oe2)) ?_
 intro v1_152 hw
 have hv1_152 := hid hw
 clear hw
 refine QSeq.may (b := pb150) rfl (.pointer (some ⟨w.heap.size, 294, none⟩)) (fun E => ((wanted_of rfl rfl (E.sz 156 (by decide)) (E.d 151 1)).trans (beq_t _))) (fun E hb => ex_field rfl Try.underlying65 rfl (by kernel_rfl) ((E.q 152 0 hv1_152.out).1 hb)) ?_
 intro v1_153 hw
 have hv1_153 := hid hw
 clear hw
 refine QSeq.may (b := pb150) rfl (.slice axdl x.dc.l.length kxdl) (fun E => ((wanted_of rfl rfl (E.sz 156 (by decide)) (E.d 151 2)).trans (beq_t _))) (fun E hb => ex_load1 rfl Try.underlying63 rfl ((E.q 153 0 hv1_153.out).1 hb) (Cs.seg1 (HB2.out.mod Cx21.out (fun h => h)) HLNx.out 18 rfl (o := 287) (k := 7) rfl rfl rfl)) ?_
 intro v1_154 hw
 have hv1_154 := hid hw
 clear hw
 refine QSeq.may (b := pb150) rfl (.pointer (some ⟨w.heap.size + 1, 287, none⟩)) (fun E => ((wanted_of rfl rfl (E.sz 156 (by decide)) (E.d 151 3)).trans (beq_t _))) (fun E hb => ex_field rfl Try.underlying67 rfl (by kernel_rfl) (E.v oe3)) ?_
 intro v1_155 hw
 have hv1_155 := hid hw
 clear hw
 refine QSeq.may (b := pb150) rfl (.pointer (some ⟨w.heap.size + 1, 294, none⟩)) (fun E => ((wanted_of rfl rfl (E.sz 156 (by decide)) (E.d 151 4)).trans (beq_t _))) (fun E hb => ex_field rfl Try.underlying65 rfl (by kernel_rfl) ((E.q 155 0 hv1_155.out).1 hb)) ?_
 intro v1_156 hw
 have hv1_156 := hid hw
 clear hw
 refine QSeq.may (b := pb150) rfl (.slice aydl y.dc.l.length kydl) (fun E => ((wanted_of rfl rfl (E.sz 156 (by decide)) (E.d 151 5)).trans (beq_t _))) (fun E hb => ex_load1 rfl Try.underlying63 rfl ((E.q 156 0 hv1_156.out).1 hb) (Cs.seg1 (HB3.out.mod Cx21.out (fun h => h)) HLNy.out 18 rfl (o := 287) (k := 7) rfl rfl rfl)) ?_
 intro v1_157 hw
 have hv1_157 := hid hw
 clear hw
 refine QSeq.mayCall (b := pb150) rfl (.bool (eqb x.dc.l y.dc.l)) (args := #[.slice axdl x.dc.l.length kxdl, .slice aydl y.dc.l.length kydl]) (fun E => ((wanted_of rfl rfl (E.sz 156 (by decide)) (E.d 151 6)).trans (beq_t _))) rfl Try.func28 (fun E hb => args2 ((E.q 154 3 hv1_154.out).1 hb) ((E.q 157 0 hv1_157.out).1 hb)) (fun hb => EqL_Vt _ _ _ _ _ _ _ (Hx8.out.mod Cx21.out (fun _ _ h => h)) (Hx16.out.mod Cx21.out (fun _ _ h => h)) (by intro k h1; have hb := HBR.out k h1; (try have := hm.size); omega) (by intro k h1; have hb := HBT.out k h1; (try have := hm.size); omega)) ?_
 intro v1_158 u1_158 hw hm
 have hv1_158 := hid hw
 clear hw
 have zu1_158 := hm.size
 have HMu1_158 := hid hm
 have Cx22 := hid (Cx21.out.goE hm)
 clear hm Cx21
 obtain ⟨pb159, hb159⟩ : ∃ b : Bool, b = (pb150 && (eqb x.dc.l y.dc.l)) := ⟨_, rfl⟩
 have HB159 := hid hb159
 clear hb159
 refine QSeq.pure rfl (.bool pb159) (fun E => ex_pickE rfl (E.d 151 7) rfl rfl ((and_val fun hb => (E.q 158 0 hv1_158.out).1 hb).trans (congrArg Value.bool HB159.out.symm))) ?_
 refine QSeq.pure rfl _ (fun E => ex_assign rfl (E.d 159 0)) ?_
 clear HMu1_73 HMu1_80 HMu1_108 HMu1_149 HMu1_158 hv1_6 hv1_7 hv1_8 hv1_9 hv1_10 hv1_13 hv1_14 hv1_15 hv1_16 hv1_17 hv1_20 hv1_21 hv1_22 hv1_23 hv1_24 hv1_27 hv1_28 hv1_29 hv1_30 hv1_31 hv1_34 hv1_35 hv1_36 hv1_37 hv1_38 hv1_41 hv1_42 hv1_43 hv1_44 hv1_45 hv1_48 hv1_49 hv1_50 hv1_51 hv1_52 hv1_55 hv1_56 hv1_57 hv1_58 hv1_59 hv1_62 hv1_63 hv1_64 hv1_65 hv1_66 hv1_69 hv1_70 hv1_71 hv1_72 hv1_73 hv1_76 hv1_77 hv1_78 hv1_79 hv1_80 hv1_83 hv1_84 hv1_85 hv1_86 hv1_87 hv1_90 hv1_91 hv1_92 hv1_93 hv1_94 hv1_97 hv1_98 hv1_99 hv1_100 hv1_101 hv1_104 hv1_105 hv1_106 hv1_107 hv1_108 hv1_111 hv1_112 hv1_113 hv1_114 hv1_115 hv1_118 hv1_119 hv1_120 hv1_121 hv1_122 hv1_125 hv1_126 hv1_127 hv1_128 hv1_129 hv1_130 hv1_131 hv1_134 hv1_135 hv1_136 hv1_137 hv1_138 hv1_139 hv1_140 hv1_143 hv1_144 hv1_145 hv1_146 hv1_147 hv1_148 hv1_149 hv1_152 hv1_153 hv1_154 hv1_155 hv1_156 hv1_157 hv1_158
 refine QSeq.nil (t' := [_, _, _, _, _, _, _, _, _, _, _, _, _, _, _, _, _, _, _, _, _, _, _, _, _, _, _, _, _, _, _, _, _, _, _, _, _, _, _, _, _, _, _, _, _, _, _, _, _, _, _, _, _, _, _, _, _, _, _, _, _, _, _, _, _, _, _, _, _, _, _, _, _, _, _, _, _, _, _, _, _, _, _, _, _, _, _, _, _, _, _, _, _, _, _, _, _, _, _, _, _, _, _, _, _, _, _, _, _, _, _, _, _, _, _, _, _, _, _, _, _, _, _, _, _, _, _, _, _, _, _, _, _, _, _, _, _, _, _, _, _, _, _, _, _, _, _, _, _, _, _, _, _, _, _, _, _, _, _, _, _]) rfl ?_
 obtain rfl := HA0.out
 clear HA0 oe2 oe3
 simp only [pz, Act.put, sIB, sCZ, sCS]
 go_wp2
 go_ret
 exact ⟨ret_bool (by rw [HB159.out, HB150.out, HB141.out, HB132.out, HB123.out, HB116.out, HB109.out, HB102.out, HB95.out, HB88.out, HB81.out, HB74.out, HB67.out, HB60.out, HB53.out, HB46.out, HB39.out, HB32.out, HB25.out, HB18.out, HB11.out]; exact mg_eqb x y), (HM0.out.trans Cx22.out (fun _ _ h => h.elim))⟩
end Go.Proofs.Ytekbmpjdombedaa

/- gavellaw23.wakes. -/
namespace Go.Proofs.Ytekbmpjdombedaa
open Go Go.RowKit Go.Gv


theorem Eqs.same {α : Type} {A : Rep α} {F : FuncId} (h : Eqs A F) {R R2 : Nat → Prop} {cs ds : List Value} {x : α} {w : World} (h1 : A.rd R w cs x) (h2 : A.rd R2 w ds x) (h3 : ∀ k, R k → k < w.heap.size) (h4 : ∀ k, R2 k → k < w.heap.size) :
    Calls Try.prog F #[.agg cs.toArray, .agg ds.toArray] w fun e w' => e = .returned (.bool true) ∧ Mod (fun _ => False) w w' :=
  (h R R2 cs ds x x w h1 h2 h3 h4).mono fun e w' ⟨he, hm⟩ => ⟨by rw [he, eqb_rfl], hm⟩
theorem cp_snoc {l : List Mg} (h : ∀ m ∈ l, cpMg m) {m : Mg} (hm : cpMg m) : ∀ x ∈ l ++ [m], cpMg x := fun x hx => (List.mem_append.1 hx).elim (h x) (fun h1 => by rw [List.mem_singleton] at h1; rw [h1]; exact hm)
theorem cp_erase {l : List Mg} (h : ∀ m ∈ l, cpMg m) (k : Nat) : ∀ x ∈ l.eraseIdx k, cpMg x := fun x hx => h x (List.mem_of_mem_eraseIdx hx)
set_option maxHeartbeats 4000000 in
theorem wakes23 (w : World) : Calls Try.prog 13 #[] w fun e w' => e = .returned (.bool true) ∧ Mod (fun _ => False) w w' := by
  go_enter Try.func13, Try.ntmps13
  go_upto_region 1 with (fail)
  have HM0 := hid (Mod.refl (fun _ => False) w)
  go_upto_region 1 with (fail)
  refine wp_region_U 39 [6, 5, 7, 8, 1, 2] [0, 1, 2, 3, 4, 5] (fun a0 HA0 => ?_)
  refine QSeq.call rfl rfl Try.func7 (NNew_Q (mo := 5) (by decide) _) (fun E => args1 rfl) ?_
  rintro e u1_0 ⟨x, rfl, qnt, hm⟩
  refine ⟨_, rfl, ?_⟩
  have Hx1 := hid qnt
  have zu1_0 := hm.size
  have Cx2 := hid (show Mod (fun _ => False) w u1_0 from hm)
  clear hm
  clear qnt
  refine QSeq.pure rfl _ (fun E => ex_move rfl (E.d 0 0)) ?_
  refine QSeq.pure rfl (.pointer (some ⟨x, 0, none⟩)) (fun E => ex_extract rfl (E.d 1 0) rfl) ?_
  refine QSeq.pure rfl (.int .i64 0) (fun E => ex_extract rfl (E.d 1 1) rfl) ?_
  refine QSeq.pure rfl _ (fun E => ex_assign rfl (E.d 2 1)) ?_
  refine QSeq.pure rfl _ (fun E => ex_assign rfl (E.d 3 1)) ?_
  refine QSeq.nil (t' := [_, _, _, _, _, _]) rfl ?_
  obtain rfl := HA0.out
  clear HA0
  simp only [pz, Act.put, sIB, sCZ, sCS]
  go_upto_region 2 with (fail)
  refine wp_region_U 39 [9, 10, 11, 12, 13, 14, 15, 16, 17, 18, 19, 20, 21, 22] [0, 1, 2, 3, 4, 5, 6, 7, 8, 9, 10, 11, 12, 13] (fun a0 HA0 => ?_)
  have oe1 := ev HA0 1 rfl
  have oe2 := ev HA0 2 rfl
  refine QSeq.pure rfl _ (fun E => ex_move rfl (E.v oe2)) ?_
  refine QSeq.pure rfl (.bool false) (fun E => ex_binE rfl (E.d 0 0) rfl (guard_ints _ _ _ _ _ _) (run_neq_i _ _ _ Try.underlying24) (congrArg Value.bool (show _ = false from rfl))) ?_
  refine QSeq.pure rfl _ (fun E => ex_move rfl (E.d 1 0)) ?_
  refine QSeq.pureG rfl (.pointer (some ⟨x, 0, none⟩)) (fun E => ((wanted_of rfl rfl (E.sz 11 (by decide)) (E.d 2 0)).trans rfl)) (fun E => ex_move rfl (E.v oe1)) ?_
  refine QSeq.pureG rfl (.bool false) (fun E => ((wanted_of rfl rfl (E.sz 11 (by decide)) (E.d 2 1)).trans rfl)) (fun E => ex_bin rfl (E.d 3 0) rfl (guard_ptr _ _ _ _ _ _ _) (run_eql_nil _ Try.underlying23 (by kernel_rfl) _)) ?_
  refine QSeq.pure rfl (.bool false) (fun E => ex_pick rfl (E.d 2 2) rfl (E.d 4 0)) ?_
  refine QSeq.pure rfl _ (fun E => ex_move rfl (E.d 5 0)) ?_
  refine QSeq.pureG rfl (.pointer (some ⟨x, 0, none⟩)) (fun E => ((wanted_of rfl rfl (E.sz 15 (by decide)) (E.d 6 0)).trans rfl)) (fun E => ex_move rfl (E.v oe1)) ?_
  refine QSeq.pureG rfl (.agg ((mgkC 1 0) : List Value).toArray) (fun E => ((wanted_of rfl rfl (E.sz 15 (by decide)) (E.d 6 1)).trans rfl)) (fun E => ex_build rfl (z := (mg0C 0 0 0)) (places := [(0, 1), (1, 1), (2, 1), (3, 37), (40, 38), (78, 38), (116, 38), (154, 1), (155, 1), (156, 1), (157, 6), (163, 11), (174, 38), (212, 1), (213, 35), (248, 34), (282, 4), (286, 1), (287, 8)]) (by kernel_rfl) (parts := [(0, .int .i64 1)]) (by simp only [List.map_toArray, List.map_cons, List.map_nil]; try rfl) (r := (mgkC 1 0)) (by exact (laid_segs (ns := mgN) rfl [(0, .int .i64 1)] (zMg.segs (zCe.cells zS) (zPm.cells zS) (zPr.cells zS zS zS) (zOp.cells zS) (zDc.cells zS zS zS zS)) rfl ⟨rfl, trivial⟩).trans rfl)) ?_
  refine QSeq.pureG rfl (.agg ((mgkC 2 0) : List Value).toArray) (fun E => ((wanted_of rfl rfl (E.sz 15 (by decide)) (E.d 6 2)).trans rfl)) (fun E => ex_build rfl (z := (mg0C 0 0 0)) (places := [(0, 1), (1, 1), (2, 1), (3, 37), (40, 38), (78, 38), (116, 38), (154, 1), (155, 1), (156, 1), (157, 6), (163, 11), (174, 38), (212, 1), (213, 35), (248, 34), (282, 4), (286, 1), (287, 8)]) (by kernel_rfl) (parts := [(0, .int .i64 2)]) (by simp only [List.map_toArray, List.map_cons, List.map_nil]; try rfl) (r := (mgkC 2 0)) (by exact (laid_segs (ns := mgN) rfl [(0, .int .i64 2)] (zMg.segs (zCe.cells zS) (zPm.cells zS) (zPr.cells zS zS zS) (zOp.cells zS) (zDc.cells zS zS zS zS)) rfl ⟨rfl, trivial⟩).trans rfl)) ?_
  refine QSeq.go fun act E => ?_
  refine qc_buildS2 (e := 67) (cs := mgkC 1 0) (cs2 := mgkC 2 0) (zc := (mg0C 0 0 0)) (s := 295) rfl ((wanted_of rfl rfl (E.sz 15 (by decide)) (E.d 6 3)).trans rfl) rfl Try.underlying76 (by kernel_rfl) rfl (by decide) (by decide) (E.d 8 1) rfl (E.d 9 0) rfl ?_
  intro u2_10 qrow hm
  have zlr := qrow.lt
  have Hx3 := hid qrow
  have zu2_10 := hm.size
  have Cx4 := hid (show Mod (fun _ => False) u1_0 u2_10 from hm)
  clear hm
  clear act E qrow
  refine QSeq.go fun act E => ?_
  refine qc_callF (args := #[.pointer (some ⟨x, 0, none⟩), .slice (some ⟨u1_0.heap.size, 0, none⟩) 2 2]) rfl ((wanted_of rfl rfl (E.sz 15 (by decide)) (E.d 6 4)).trans rfl) rfl Try.func8 (args2 (E.d 7 3) (E.d 10 0)) (SendB (p := 2) (R2 := (fun k => (k = u1_0.heap.size))) (ms := [mgk 1 0, mgk 2 0]) (Hx1.out.mod Cx4.out (fun _ _ h => h)) (RdS.two Hx3.out (mgk_rd (by unfold I64; decide) (by unfold I64; decide) _ _) (mgk_rd (by unfold I64; decide) (by unfold I64; decide) _ _) rfl) (by intro k h; omega) (by intro k h1 h2; omega) (by intro m hm; simp at hm; rcases hm with rfl | rfl <;> exact mgk_cp _ _) (by decide) (by decide) (by decide) (by decide) (by decide) (by decide)) ?_
  rintro e u2_11 ⟨rfl, qnt, hm⟩
  refine ⟨_, rfl, ?_⟩
  have Hx5 := hid (qnt.widen (R' := (fun k => (New w u1_0 k) ∨ (New u2_10 u2_11 k))) (fun _ h => h))
  have zu2_11 := hm.size
  have HMu2_11 := hid hm
  have Cx6 := hid (Mod.goS (S' := (fun k => (New w u1_0 k))) Cx4.out hm (fun _ h => h.elim) (by intro k h0 h2; exact h2))
  clear hm Cx4
  clear act E qnt Hx1
  refine QSeq.pureG rfl (.bool false) (fun E => ((wanted_of rfl rfl (E.sz 15 (by decide)) (E.d 6 5)).trans rfl)) (fun E => ex_binE rfl (E.d 11 0) rfl (guard_ints _ _ _ _ _ _) (run_neq_i _ _ _ Try.underlying3) (congrArg Value.bool (ne_ff rfl))) ?_
  refine QSeq.pure rfl (.bool false) (fun E => ex_pick rfl (E.d 6 6) rfl (E.d 12 0)) ?_
  have Hx7 := hid (Hx3.out.mod HMu2_11.out (by intro h2; omega))
  clear Hx3 HMu2_11
  refine QSeq.nil (t' := [_, _, _, _, _, _, _, _, _, _, _, _, _, _]) rfl ?_
  obtain rfl := HA0.out
  clear HA0 oe1 oe2
  simp only [pz, Act.put, sIB, sCZ, sCS]
  clear Hx7
  have HN1 := hid (show NtR (fun k => (New w u1_0 k) ∨ (New u2_10 u2_11 k)) u2_11 x 5 [mgk 1 0, mgk 2 0] 2 0 from Hx5.out)
  clear Hx5
  go_upto_region 4 with (fail)
  refine wp_region_U 39 [24, 25, 23, 26, 27, 3, 45, 4] [0, 1, 2, 3, 4, 5, 6, 7] (fun a0 HA0 => ?_)
  have oe1 := ev HA0 1 rfl
  refine QSeq.pure rfl _ (fun E => ex_move rfl (E.v oe1)) ?_
  refine QSeq.call rfl rfl Try.func10 (TakeB (k := 1) (l := [mgk 1 0, mgk 2 0]) HN1.out (by decide) (by intro m hm; simp at hm; rcases hm with rfl | rfl <;> exact mgk_cp _ _)) (fun E => args2 (E.d 0 0) rfl) ?_
  rintro e u4_1 ⟨ca, rfl, qnt, qa, hm⟩
  have HLa := hid (MgR.len qa)
  have HOa := hid (MgR.one qa)
  have HKa := hid (mg_kd qa)
  have HXa := hid (mg_ix qa)
  refine ⟨_, rfl, ?_⟩
  have Hx8 := hid (qnt.widen (R' := (fun k => (New w u1_0 k) ∨ (New u2_10 u2_11 k) ∨ (New u2_11 u4_1 k))) (by intro k h1; omega))
  have Hx9 := hid qa
  have zu4_1 := hm.size
  have Cx10 := hid (show Mod (fun k => (New w u1_0 k) ∨ (New u2_10 u2_11 k)) u2_11 u4_1 from hm)
  clear hm
  clear qnt qa HN1
  refine QSeq.pure rfl _ (fun E => ex_move rfl (E.d 1 0)) ?_
  refine QSeq.pure rfl (.agg ca.toArray) (fun E => ex_extract rfl (E.d 2 0) rfl) ?_
  refine QSeq.pure rfl (.bool true) (fun E => ex_extract rfl (E.d 2 1) rfl) ?_
  refine QSeq.go fun act E => ?_
  refine qc_alloc rfl (wanted_none rfl) rfl (z := (mg0C 0 0 0)) (by kernel_rfl) ?_
  intro u4_5 qb3 hm
  have zl4_5 := qb3.lt
  have Hx11 := hid qb3
  have zu4_5 := hm.size
  have HMu4_5 := hid hm
  have Cx12 := hid (Cx10.out.goE hm)
  clear hm Cx10
  clear act E qb3
  refine QSeq.go fun act E => ?_
  have hlz : (ca).length = List.length ((mg0C 0 0 0) : List Value) := (by rw [HLa.out]; kernel_rfl)
  refine qc_store rfl (wanted_none rfl) rfl Hx11.out (off := 0) (vs := ca) (by rw [hlz]; kernel_rfl) HOa.out (by rw [hlz]; exact Nat.le_of_eq (Nat.zero_add _)) (E.d 5 0) (ec (E.d 3 2)) ?_
  intro u4_6 qc0 hm
  have qb3 := qc0.eqv (b := (ca : List Value).toArray) (lay_whole (((mg0C 0 0 0) : List Value).toArray) _ (by rw [hlz]; rfl))
  clear qc0 hlz
  have Hx13 := hid qb3
  have zu4_6 := hm.size
  have HMu4_6 := hid hm
  have Cx14 := hid (Mod.goS (S' := (fun k => (New w u1_0 k) ∨ (New u2_10 u2_11 k))) Cx12.out hm (fun _ h => h) (by intro k h0 h2; omega))
  clear hm Cx12
  clear act E qb3 Hx11
  refine QSeq.pure rfl _ (fun E => ex_assign rfl (E.d 4 2)) ?_
  have Hx15 := hid ((Hx8.out.mod HMu4_5.out (fun _ _ h => h)).mod HMu4_6.out (by intro k h1 h2; omega))
  have Hx16 := hid ((Hx9.out.mod HMu4_5.out (fun _ _ h => h)).mod HMu4_6.out (by intro k h1 h2; omega))
  clear Hx8 Hx9 HMu4_5 HMu4_6
  refine QSeq.nil (t' := [_, _, _, _, _, _, _, _]) rfl ?_
  obtain rfl := HA0.out
  clear HA0 oe1
  simp only [pz, Act.put, sIB, sCZ, sCS, List.set_nil]
  have HN2 := hid (show NtR (fun k => (New w u1_0 k) ∨ (New u2_10 u2_11 k) ∨ (New u2_11 u4_1 k)) u4_6 x 5 [mgk 1 0] 2 0 from Hx15.out)
  clear Hx15
  go_upto_region 5 with (fail)
  refine wp_region_U 39 [28, 29, 30, 31, 32, 33, 34, 35, 36, 37, 38, 0] [0, 1, 2, 3, 4, 5, 6, 7, 8, 9, 10, 11] (fun a0 HA0 => ?_)
  have oe1 := ev HA0 1 rfl
  have oe3 := ev HA0 3 rfl
  have oe4 := ev HA0 4 rfl
  refine QSeq.pure rfl _ (fun E => ex_move rfl (E.v oe4)) ?_
  refine QSeq.pure rfl _ (fun E => ex_move rfl (E.d 0 0)) ?_
  refine QSeq.pureG rfl (.pointer (some ⟨u4_1.heap.size, 0, none⟩)) (fun E => ((wanted_of rfl rfl (E.sz 29 (by decide)) (E.d 1 0)).trans rfl)) (fun E => ex_field rfl Try.underlying67 rfl (by kernel_rfl) (E.v oe3)) ?_
  refine QSeq.pureG rfl (.int .i64 2) (fun E => ((wanted_of rfl rfl (E.sz 29 (by decide)) (E.d 1 1)).trans rfl)) (fun E => ex_load1 rfl Try.underlying3 rfl (E.d 2 0) (Cs.lit1 Hx13.out HKa.out)) ?_
  refine QSeq.pureG rfl (.bool true) (fun E => ((wanted_of rfl rfl (E.sz 29 (by decide)) (E.d 1 2)).trans rfl)) (fun E => ex_binE rfl (E.d 3 0) rfl (guard_ints _ _ _ _ _ _) (run_eql_i _ _ _ Try.underlying3) (congrArg Value.bool (eq_tt rfl))) ?_
  refine QSeq.pure rfl (.bool true) (fun E => ex_pick rfl (E.d 1 3) (E.d 4 0) rfl) ?_
  refine QSeq.pure rfl _ (fun E => ex_move rfl (E.d 5 0)) ?_
  refine QSeq.pureG rfl (.pointer (some ⟨x, 0, none⟩)) (fun E => ((wanted_of rfl rfl (E.sz 34 (by decide)) (E.d 6 0)).trans rfl)) (fun E => ex_move rfl (E.v oe1)) ?_
  refine QSeq.go fun act E => ?_
  refine qc_callF (args := #[.pointer (some ⟨x, 0, none⟩)]) rfl ((wanted_of rfl rfl (E.sz 34 (by decide)) (E.d 6 1)).trans rfl) rfl Try.func11 (args1 (E.d 7 0)) (LenB HN2.out) ?_
  rintro e w2 ⟨rfl, hw2⟩
  obtain rfl : u4_6 = w2 := by first | exact hw2 | exact hw2.symm
  refine ⟨_, rfl, ?_⟩
  clear act E
  refine QSeq.pureG rfl (.bool true) (fun E => ((wanted_of rfl rfl (E.sz 34 (by decide)) (E.d 6 2)).trans rfl)) (fun E => ex_binE rfl (E.d 8 0) rfl (guard_ints _ _ _ _ _ _) (run_eql_i _ _ _ Try.underlying3) (congrArg Value.bool (eq_tt rfl))) ?_
  refine QSeq.pure rfl (.bool true) (fun E => ex_pick rfl (E.d 6 3) (E.d 9 0) rfl) ?_
  refine QSeq.pure rfl _ (fun E => ex_assign rfl (E.d 10 0)) ?_
  refine QSeq.nil (t' := [_, _, _, _, _, _, _, _, _, _, _, _]) rfl ?_
  obtain rfl := HA0.out
  clear HA0 oe1 oe3 oe4
  simp only [pz, Act.put, sIB, sCZ, sCS]
  go_wp2
  go_ret
  exact ⟨rfl, (((HM0.out.trans Cx2.out (fun _ _ h => h.elim)).trans Cx6.out (by intro k h1 h2; omega)).trans Cx14.out (by intro k h1 h2; omega))⟩
end Go.Proofs.Ytekbmpjdombedaa

/- Messages that are nothing, made at once. -/
namespace Go.Gv
open Go Go.RowKit
theorem RdS.made {α : Type} {A : Rep α} {R : Nat → Prop} {w : World} {g n : Nat} {T : TypeId} {cs : List Value} {a : α} (ha : A.rd R w cs a) (hc : Cs w g (madeCells (Value.agg cs.toArray).cells (n * A.sz)) T) (hg : R g) (hn : n ≤ maxLen) : RdS A R w (.slice (some ⟨g, 0, none⟩) n n) (List.replicate n a) := by
 have hl := A.len ha
 have hcl : ∀ c ∈ List.replicate n cs, c.length = A.sz := fun c h => by rw [List.eq_of_mem_replicate h]; exact hl
 have hpos := A.pos
 refine ⟨List.replicate n cs, by simp, fun i c x hi hx => ?_, ?_, fun _ g' hg' => by cases hg'; exact hg⟩
 ·obtain ⟨h1, h2⟩ := List.getElem?_eq_some_iff.1 hi
  obtain ⟨h3, h4⟩ := List.getElem?_eq_some_iff.1 hx
  rw [List.getElem_replicate] at h2 h4
  rw [← h2, ← h4]; exact ha
 ·rw [List.length_replicate]
  refine Rd.mk (Nat.le_refl _) hn (by rw [flat_len hcl, List.length_replicate]) fun j u hu => ?_
  have hj := (List.getElem?_eq_some_iff.1 hu).1
  rw [flat_len hcl, List.length_replicate] at hj
  rw [Nat.zero_add, hc.cell]
  have hd : j / A.sz < n := Nat.div_lt_of_lt_mul (by rw [Nat.mul_comm]; exact hj)
  have hm : j % A.sz < A.sz := Nat.mod_lt _ hpos
  have h9 := flat_get hcl (j / A.sz) cs (by rw [List.getElem?_replicate, if_pos hd]) (j % A.sz) (cs[j % A.sz]'(by omega)) (List.getElem?_eq_getElem _)
  rw [show j / A.sz * A.sz + j % A.sz = j by rw [Nat.mul_comm]; exact Nat.div_add_mod j A.sz] at h9
  rw [h9] at hu
  rw [← hu]
  simp [madeCells, hj, Value.cells, hl, hm]
theorem OwS.upto {α : Type} {A : Rep α} {e : TypeId} {R E : Nat → Prop} {w : World} {ao : Option Addr} {n cap : Nat} {l : List α} (h : OwS A e R E w (.slice ao n cap) l) (k c : Nat) (hk : k ≤ l.length) (hc : c = cap ∨ c = k) : OwS A e R E w (.slice ao k c) (l.take k) := by
 obtain ⟨css, h1, h2, h3, h4⟩ := h
 have hcl : ∀ cs ∈ css, cs.length = A.sz := css_len h1 h2 (fun cs a h => A.len h)
 have el : (l.take k).length = k := by simp; omega
 have ef : (css.take k).flatten = css.flatten.take (k * A.sz) := by
  have h5 : css.flatten = (css.take k).flatten ++ (css.drop k).flatten := by rw [← List.flatten_append, List.take_append_drop]
  have h6 : (css.take k).flatten.length = k * A.sz := by rw [flat_len (fun x hx => hcl x (List.mem_of_mem_take hx))]; congr 1; simp; omega
  rw [h5, ← h6, List.take_left]
 have hb : ∀ g, (Value.slice ao k c).ownBlock = some g → (Value.slice ao n cap).ownBlock = some g := fun g hg => by cases ao <;> exact hg
 have hb2 : ∀ g, (Value.slice ao n cap).ownBlock ≠ some g → (Value.slice ao k c).ownBlock ≠ some g := fun g hg he => hg (hb g he)
 refine ⟨css.take k, by simp; omega, fun i cs a hi ha => ?_, ?_, fun g hg => h4 g (hb g hg)⟩
 ·rw [List.getElem?_take] at hi ha
  split at hi
  ·rename_i hik
   rw [if_pos hik] at ha
   exact A.wid (h2 i cs a hi ha) (fun q hq => ⟨hq.1, hb2 q hq.2⟩)
  ·cases hi
 ·rw [el, ef]
  obtain ⟨hl, hE, ⟨hv, hn⟩ | ⟨g, cap', cur, hv, hg, q1, q2, q3, q4, q5⟩⟩ := h3
  ·simp only [Value.slice.injEq] at hv
   obtain ⟨rfl, rfl, rfl⟩ := hv
   obtain rfl : k = 0 := by omega
   obtain rfl : c = 0 := by omega
   exact ⟨by simp, (fun u hu => by simp at hu), .inl ⟨rfl, rfl⟩⟩
  ·simp only [Value.slice.injEq] at hv
   obtain ⟨rfl, rfl, rfl⟩ := hv
   have hkm : k * A.sz ≤ l.length * A.sz := Nat.mul_le_mul_right _ hk
   have hcm : c * A.sz ≤ cap * A.sz := Nat.mul_le_mul_right _ (by omega)
   refine ⟨by rw [List.length_take]; omega, fun u hu => hE u (List.mem_of_mem_take hu), .inr ⟨g, c, cur, rfl, hg, by omega, by omega, by omega, ?_, q5⟩⟩
   rw [← q4, List.take_take, Nat.min_eq_left hkm]
theorem OwS.capBd2 {α : Type} {A : Rep α} {e : TypeId} {R E : Nat → Prop} {w : World} {ao : Option Addr} {n cap : Nat} {l : List α} (h : OwS A e R E w (.slice ao n cap) l) : n = l.length ∧ l.length ≤ cap ∧ cap ≤ maxLen := by
 obtain ⟨_, _, _, ⟨_, _, ⟨hv, hn⟩ | ⟨g, cap', cur, hv, _, q1, q2, _⟩⟩, _⟩ := h
 ·simp only [Value.slice.injEq] at hv
  obtain ⟨_, rfl, rfl⟩ := hv
  exact ⟨by omega, by omega, by simp⟩
 ·simp only [Value.slice.injEq] at hv
  obtain ⟨_, rfl, rfl⟩ := hv
  exact ⟨rfl, q1, q2⟩
/-- what is behind the k-th -/
theorem RdS.piece {α : Type} {A : Rep α} {R : Nat → Prop} {w : World} {ao : Option Addr} {n cap : Nat} {l : List α} (h : RdS A R w (.slice ao n cap) l) (k : Nat) (hk : k ≤ l.length) : RdS A R w (slV A.sz ao k l.length cap) (l.drop k) := by
 obtain ⟨css, h1, h2, h3, h4⟩ := h
 have hcl := css_len h1 h2 (fun cs a h => A.len h)
 obtain rfl : n = l.length := by obtain ⟨_, _, _, e, _⟩ := h3; cases e; rfl
 have hc : l.length ≤ cap := by obtain ⟨_, _, _, e, g1, _⟩ := h3; cases e; exact g1
 have hr := h3.sliced k l.length cap hk (Nat.le_refl _) hc (Nat.le_refl _)
 have ef : (css.drop k).flatten = css.flatten.drop (k * A.sz) := by
  have h5 : css.flatten = (css.take k).flatten ++ (css.drop k).flatten := by rw [← List.flatten_append, List.take_append_drop]
  have h6 : (css.take k).flatten.length = k * A.sz := by rw [flat_len (fun x hx => hcl x (List.mem_of_mem_take hx))]; congr 1; simp; omega
  rw [h5, ← h6, List.drop_left' rfl]
 have hlen : (css.drop k).flatten.length = (l.length - k) * A.sz := by rw [flat_len (fun x hx => hcl x (List.mem_of_mem_drop hx)), List.length_drop, h1]
 refine ⟨css.drop k, by simp [h1], fun i cs a hi ha => ?_, ?_, fun h0 g hg => ?_⟩
 ·rw [List.getElem?_drop] at hi ha
  exact h2 _ cs a hi ha
 ·rw [List.length_drop, ef, ← List.take_of_length_le (l := css.flatten.drop (k * A.sz)) (i := (l.length - k) * A.sz) (by rw [← ef, hlen]; exact Nat.le_refl _)]
  exact hr
 ·have hl0 : 0 < l.length := by rw [List.length_drop] at h0; omega
  refine h4 hl0 g ?_
  unfold slV at hg
  split at hg
  ·cases ao <;> exact hg
  ·cases ao with
   | none => cases hg
   | some x => simp only [Option.map_some, Value.ownBlock] at hg ⊢; rw [← hg]; unfold Addr.add; split <;> rfl
theorem RdS.one1 {R : Nat → Prop} {w : World} {g n : Nat} {T : TypeId} (hc : Cs w g #[.int .i64 ((n : Nat) : Int)] T) (hn : n ≤ 9223372036854775807) (hg : R g) : RdS NaR R w (.slice (some ⟨g, 0, none⟩) 1 1) [n] := RdS.single (cs := [.int .i64 ((n : Nat) : Int)]) hc ⟨rfl, hn⟩ hg
end Go.Gv

/- Batches that are cut. -/
namespace Go.Proofs.Ytekbmpjdombedaa
open Go Go.RowKit Go.Gv


theorem RdR_len {R : Nat → Prop} {N : Nat} {w : World} {v : Value} {bs : List Int} (h : RdR R N w v bs) : RdR R bs.length w v bs := ⟨h.1, h.2.1, Nat.le_refl _⟩
theorem op_len (x : Op) (v : Value) (h : x.nc.length = 32) : (x.cells v).length = 34 := by simp [Op.cells, h]
theorem lay_pl (x y : Op) (u v : Value) (h : y.ix = x.ix ∧ y.nc = x.nc) : lay (x.cells u).toArray 1 [v] = (y.cells v).toArray := by
 obtain ⟨h1, h2⟩ := h
 simp [lay, Op.cells, h1, h2]
theorem lay_tl (x y : Tb) (u v : Value) (h : y.ix = x.ix) : lay (x.cells u).toArray 1 [v] = (y.cells v).toArray := by
 simp [lay, Tb.cells, h]
end Go.Proofs.Ytekbmpjdombedaa

/- gavellaw06.Small. -/
namespace Go.Proofs.Ytekbmpjdombedaa
open Go Go.RowKit Go.Gv


theorem ex_lenStr {P : Program} {o : Oper} {a : Act} {w : World} {t : TypeId} {m : Operand} {s : ByteArray} (ho : o.op = Op.call { callee := Callee.builtin Builtin.len, args := #[m], argTypes := #[t] }) (hm : a.eval m = .string s) (ht : P.underlying t = some .string) : (execOp a.eval o).run P w = .ok (.value (.int .i64 ((s.size : Nat) : Int))) w := by
 simp [execOp, ho, resolve, invoke, builtin, hm, Builtin.len_, run_underlying ht, goInt, Result.andThen]
theorem ex_sliceStr {P : Program} {o : Oper} {a : Act} {w : World} {T : TypeId} {x y : Operand} {s : ByteArray} {k : IntKind} {i : Nat} (ho : o.op = .slice T x none (some y) none) (hu : P.underlying T = some .string) (hx : a.eval x = .string s) (hy : a.eval y = .int k (i : Int)) (hi : i ≤ s.size) : (execOp a.eval o).run P w = .ok (.value (.string (s.extract 0 i))) w := by
 unfold execOp
 simp [ho, hx, hy, Instr.sliceAt, Instr.slice, Instr.sliceBounds, Instr.sliceBound, asIntOf, run_underlying hu, hi]
theorem info_VtD : (Try.prog.info? 55).map (fun i => (i.zero, i.size, i.bytes)) = some (some (.agg #[.int .i64 0, .int .i64 0, .int .i64 0, .int .i64 0, .int .u8 0, .int .u8 0, .int .u8 0, .int .u8 0, .int .u8 0, .int .u8 0, .int .u8 0, .int .u8 0, .int .u8 0, .int .u8 0, .int .u8 0, .int .u8 0, .int .u8 0, .int .u8 0, .int .u8 0, .int .u8 0, .int .u8 0, .int .u8 0, .int .u8 0, .int .u8 0, .int .u8 0, .int .u8 0, .int .u8 0, .int .u8 0, .int .u8 0, .int .u8 0, .int .u8 0, .int .u8 0, .int .u8 0, .int .u8 0, .int .u8 0, .int .u8 0, .int .i64 0, .int .i64 0]), 38, 80) := by kernel_rfl
set_option maxHeartbeats 2000000 in
theorem Copy_Vt : CopiesS VtR 55 60 := by
 intro R2 v l w hs hB2 hl
 obtain ⟨ao, cap, rfl⟩ := hs.shape
 have HS := Lib.hid hs
 have HBT := Lib.hid hB2
 clear hs hB2
 go_enter Try.func60, Try.ntmps60
 go_upto_region 1 with (fail)
 have HM0 := hid (Mod.refl (fun _ => False) w)
 go_upto_region 1 with (fail)
 refine wp_region_U 5 [3, 4, 2] [0, 1, 2] (fun a0 HA0 => ?_)
 have oe0 := ev HA0 0 rfl
 refine QSeq.pure rfl _ (fun E => ex_move rfl (E.v oe0)) ?_
 refine QSeq.go fun act E => ?_
 refine qc_appS (A := VtR) (e := 55) rfl (wanted_none rfl) rfl (.agg #[.int .i64 0, .int .i64 0, .int .i64 0, .int .i64 0, .int .u8 0, .int .u8 0, .int .u8 0, .int .u8 0, .int .u8 0, .int .u8 0, .int .u8 0, .int .u8 0, .int .u8 0, .int .u8 0, .int .u8 0, .int .u8 0, .int .u8 0, .int .u8 0, .int .u8 0, .int .u8 0, .int .u8 0, .int .u8 0, .int .u8 0, .int .u8 0, .int .u8 0, .int .u8 0, .int .u8 0, .int .u8 0, .int .u8 0, .int .u8 0, .int .u8 0, .int .u8 0, .int .u8 0, .int .u8 0, .int .u8 0, .int .u8 0, .int .i64 0, .int .i64 0]) 80 Try.underlying63 info_VtD (by rfl) (of_decide_eq_true (by kernel_rfl)) rfl (E.d 0 0) (OwS.nil _ _ (fun _ => False) (fun _ => False) _) (HS.out) (fun _ _ h => h) (by simp only [List.length_nil]; omega) (by simp only [List.length_nil]; rw [maxLen_val]; omega) ?_
 intro ao0 cap0 u1_1 qout hm
 have Hx1 := hid (qout.widen (R' := (fun k => (New w u1_1 k))) (E' := (fun k => (R2 k))) (fun _ h => h.elim (fun h => h.elim) (fun h => h)) (by intro k h1; rcases h1 with h1 | h1 <;> first | omega | exact h1.elim | exact h1))
 have zu1_1 := hm.size
 have Cx2 := hid (show Mod (fun _ => False) w u1_1 from hm)
 clear hm
 clear act E qout
 refine QSeq.pure rfl _ (fun E => ex_assign rfl (E.d 1 0)) ?_
 refine QSeq.nil (t' := [_, _, _]) rfl ?_
 obtain rfl := HA0.out
 clear HA0 oe0
 simp only [pz, Act.put, sIB, sCZ, sCS]
 go_wp2
 go_ret
 have hq := Hx1.out
 exact ⟨_, rfl, hq.widen (by intro k h; omega) (by intro k h; exact h), (HM0.out.trans Cx2.out (fun _ _ h => h.elim))⟩
set_option maxHeartbeats 2000000 in
theorem Cut_Vt : CutsS VtR 55 48 := by
 intro R2 v l n w hs hB2 hn
 obtain ⟨css, k1, k2, ⟨k3, ao, cap, rfl, hlc, hcm, k5, k6⟩, k7⟩ := id hs
 clear k1 k2 k3 k5 k6 k7
 rw [maxLen_val] at hcm
 have HS := Lib.hid hs
 have HBT := Lib.hid hB2
 clear hs hB2
 clear css
 go_enter Try.func48, Try.ntmps48
 go_upto_region 1 with (fail)
 have HM0 := hid (Mod.refl (fun _ => False) w)
 go_upto_region 1 with (fail)
 refine wp_region_U 12 [5, 6, 7, 8, 9, 10, 11, 4] [0, 1, 2, 3, 4, 5, 6, 7] (fun a0 HA0 => ?_)
 have oe0 := ev HA0 0 rfl
 have oe1 := ev HA0 1 rfl
 refine QSeq.pure rfl _ (fun E => ex_move rfl (E.v oe0)) ?_
 refine QSeq.pure rfl _ (fun E => ex_move rfl (E.v oe0)) ?_
 refine QSeq.pure rfl (.int .i64 l.length) (fun E => ex_lenS rfl (E.d 1 0) Try.underlying63) ?_
 refine QSeq.pure rfl _ (fun E => ex_move rfl (E.v oe1)) ?_
 refine QSeq.pure rfl (.int .i64 ((min l.length n : Nat) : Int)) (fun E => ex_min (r := ((min l.length n : Nat) : Int)) rfl (E.d 2 1) (E.d 3 0) (by split <;> omega)) ?_
 refine QSeq.pure rfl (.slice ao (min l.length n) cap) (fun E => ex_sliceTo (i := min l.length n) (s := 38) rfl Try.underlying63 (by kernel_rfl) (E.d 0 4) (E.d 4 0) (by omega)) ?_
 refine QSeq.call rfl rfl Try.func60 (Copy_Vt _ _ (l.take (min l.length n)) _ (HS.out.upto (min l.length n) (by omega)) (by intro k h1; have hb := HBT.out k h1; omega) (by simp; omega)) (fun E => args1 (E.d 5 0)) ?_
 rintro e u1_6 ⟨v', rfl, qout, hm⟩
 refine ⟨_, rfl, ?_⟩
 have Hx1 := hid (qout.widen (R' := (fun k => (New w u1_6 k))) (E' := (fun k => (R2 k))) (fun _ h => h) (fun _ h => h))
 have zu1_6 := hm.size
 have Cx2 := hid (show Mod (fun _ => False) w u1_6 from hm)
 clear hm
 clear qout
 refine QSeq.pure rfl _ (fun E => ex_assign rfl (E.d 6 0)) ?_
 refine QSeq.nil (t' := [_, _, _, _, _, _, _, _]) rfl ?_
 obtain rfl := HA0.out
 clear HA0 oe0 oe1
 simp only [pz, Act.put, sIB, sCZ, sCS]
 go_wp2
 go_ret
 have hq := Hx1.out
 rw [show l.take (min l.length n) = l.take n by rw [Nat.min_comm, ← List.take_take, List.take_length]] at hq
 exact ⟨v', rfl, hq.widen (by intro k h; omega) (fun _ h => h), (HM0.out.trans Cx2.out (fun _ _ h => h.elim))⟩
end Go.Proofs.Ytekbmpjdombedaa
