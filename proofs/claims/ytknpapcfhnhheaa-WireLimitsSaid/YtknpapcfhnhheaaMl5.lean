/- Texts that are built one behind the other: XEb, XKp1, XKp2, XConf, XTn, XPw. No condition. -/
import Derived.Test.YtknpapcfhnhheaaMl4
import Derived.Deep.RegionWith
set_option maxRecDepth 100000
set_option linter.unusedVariables false
/- Whether two things are one, in plain words. -/
namespace Go.Proofs.Ytknpapcfhnhheaa
open Go Go.RowKit Go.Gv


noncomputable def eqb {α : Type} (x y : α) : Bool := @decide (x = y) (Classical.propDecidable _)
theorem eqb_iff {α : Type} {x y : α} : eqb x y = true ↔ x = y := by unfold eqb; exact @decide_eq_true_iff _ (Classical.propDecidable _)
theorem eqb_rfl {α : Type} (x : α) : eqb x x = true := eqb_iff.2 rfl
theorem eqb_ne {α : Type} {x y : α} (h : ¬ x = y) : eqb x y = false := by
  cases hq : eqb x y with
  | false => rfl
  | true => exact absurd (eqb_iff.1 hq) h
theorem ne_tt {a b : Int} (h : a ≠ b) : (!(a == b)) = true := by simp [h]
theorem ne_ff {a b : Int} (h : a = b) : (!(a == b)) = false := by simp [h]
theorem dec_eqb {α : Type} (x y : α) [h : Decidable (x = y)] : decide (x = y) = eqb x y := by
  rw [Bool.eq_iff_iff, eqb_iff, decide_eq_true_iff]
theorem agg_guardE (op : BinOp) (T : TypeId) (x y : Operand) (a b : Array Value) (h : Try.prog.eqGuardType Try.prog.depth T = false) (w : World) : (eqGuard op T x y (.agg a) (.agg b)).run Try.prog w = .ok () w := run_eqGuard_agg (P := Try.prog) w op T x y a b h
theorem hash_inj {a b : List Int} (h : a.map bv = b.map bv) : a = b := (List.map_inj_right (fun a b e => by injection e)).1 h
theorem ki_2 (a b : Int) : KI [.i64, .i64] [Value.int .i64 a, Value.int .i64 b] := ⟨⟨_, rfl⟩, ⟨_, rfl⟩, trivial⟩
theorem two_iff (a b c d : Int) : eqb (a, b) (c, d) = true ↔ ([Value.int .i64 a, Value.int .i64 b] = [Value.int .i64 c, Value.int .i64 d]) := by
  rw [eqb_iff]
  simp
theorem st_iff {x y : St} (hx : x.OK) (hy : y.OK) : eqb x y = true ↔ x.cells = y.cells := by
  rw [eqb_iff]
  refine ⟨fun h => by rw [h], fun h => ?_⟩
  have h1 := List.append_inj h rfl
  have h2 := List.append_inj h1.2 (by simp [hx.h.1, hy.h.1])
  have h3 := hash_inj h2.1
  have h4 := h1.1
  have h5 := h2.2
  simp only [List.cons.injEq, Value.int.injEq, and_true, true_and, Int.ofNat_inj] at h4 h5
  cases x; cases y
  simp_all
theorem cm_iff {x y : Cm} (hx : x.OK) (hy : y.OK) : eqb x y = true ↔ x.cells = y.cells := by
  rw [eqb_iff]
  refine ⟨fun h => by rw [h], fun h => ?_⟩
  have h1 := List.append_inj h rfl
  have h2 := List.append_inj h1.2 (by simp [hx.2.1, hy.2.1])
  have h3 := hash_inj h2.1
  have h4 := h1.1
  have h5 := h2.2
  simp only [List.cons.injEq, Value.int.injEq, and_true, true_and, Int.ofNat_inj] at h4 h5
  cases x; cases y
  simp_all
theorem dn_iff {x y : Dn} (hx : x.OK) (hy : y.OK) : eqb x y = true ↔ x.cells = y.cells := by
  rw [eqb_iff]
  refine ⟨fun h => by rw [h], fun h => ?_⟩
  simp only [Dn.cells, List.cons.injEq, Value.int.injEq, and_true, true_and] at h
  cases x; cases y
  simp_all
theorem ce_eqb (x y : Ce) : (eqb x.c y.c && eqb x.l y.l) = eqb x y := by
  rw [Bool.eq_iff_iff, Bool.and_eq_true, eqb_iff, eqb_iff, eqb_iff]
  cases x; cases y
  simp
theorem beq_I (a b : Int) : (a == b) = true ↔ a = b := by simp
theorem pm_eqb (x y : Pm) : (((((x.rp == y.rp) && (x.ep == y.ep)) && (((x.fl : Nat) : Int) == ((y.fl : Nat) : Int))) && eqb (x.sb, x.mr) (y.sb, y.mr)) && eqb x.l y.l) = eqb x y := by
  rw [Bool.eq_iff_iff]
  simp only [Bool.and_eq_true, eqb_iff, beq_I, Int.ofNat_inj, Prod.mk.injEq]
  cases x; cases y
  simp only [Pm.mk.injEq]
  constructor
  · rintro ⟨⟨⟨⟨h1, h2⟩, h3⟩, h4, h5⟩, h6⟩; exact ⟨h1, h2, h3, h6, h4, h5⟩
  · rintro ⟨h1, h2, h3, h6, h4, h5⟩; exact ⟨⟨⟨⟨h1, h2⟩, h3⟩, h4, h5⟩, h6⟩
theorem op_eqb (x y : Op) : (((x.ix == y.ix) && eqb x.nc y.nc) && eqb x.pl y.pl) = eqb x y := by
  rw [Bool.eq_iff_iff]
  simp only [Bool.and_eq_true, eqb_iff, beq_I]
  cases x; cases y
  simp only [Op.mk.injEq]
  constructor
  · rintro ⟨⟨h1, h2⟩, h3⟩; exact ⟨h1, h3, h2⟩
  · rintro ⟨h1, h3, h2⟩; exact ⟨⟨h1, h2⟩, h3⟩
theorem tb_eqb (x y : Tb) : ((!(x.ix == y.ix)) || (!eqb x.l y.l)) = !eqb x y := by
  have h : ((x.ix == y.ix) && eqb x.l y.l) = eqb x y := by
    rw [Bool.eq_iff_iff]
    simp only [Bool.and_eq_true, eqb_iff, beq_I]
    cases x; cases y
    simp
  rw [← h]
  cases (x.ix == y.ix) <;> cases eqb x.l y.l <;> rfl
theorem ba_eqb (x y : Ba) (h : (((((!(x.ep == y.ep)) || (!(((x.tm : Nat) : Int) == ((y.tm : Nat) : Int)))) || (!(((x.ps.length : Nat) : Int) == ((y.ps.length : Nat) : Int)))) || (!eqb x.os y.os)) || (!eqb x.ts y.ts)) = false) : eqb x.ps y.ps = eqb x y := by
  simp only [Bool.or_eq_false_iff, Bool.not_eq_false', eqb_iff, beq_I, Int.ofNat_inj] at h
  obtain ⟨⟨⟨⟨h1, h2⟩, h3⟩, h4⟩, h5⟩ := h
  rw [Bool.eq_iff_iff, eqb_iff, eqb_iff]
  cases x; cases y
  simp_all
theorem ba_neb (x y : Ba) (h : (((((!(x.ep == y.ep)) || (!(((x.tm : Nat) : Int) == ((y.tm : Nat) : Int)))) || (!(((x.ps.length : Nat) : Int) == ((y.ps.length : Nat) : Int)))) || (!eqb x.os y.os)) || (!eqb x.ts y.ts)) = true) : eqb x y = false := by
  refine eqb_ne fun e => ?_
  subst e
  simp [eqb_rfl] at h
theorem take_ne {α : Type} {l m : List α} {k : Nat} (h1 : k < l.length) (h2 : k < m.length) (h : ¬ l[k] = m[k]) : eqb l m = false := eqb_ne fun e => h (by subst e; rfl)
theorem take_all {α : Type} {l m : List α} {k : Nat} (h1 : l.length ≤ k) (h2 : m.length ≤ k) (h : l.take k = m.take k) : eqb l m = true := by
  rw [List.take_of_length_le h1, List.take_of_length_le h2] at h
  exact eqb_iff.2 h
theorem take_succ2 {α : Type} {l m : List α} {k : Nat} (h1 : k < l.length) (h2 : k < m.length) (h : l.take k = m.take k) (he : l[k] = m[k]) : l.take (k + 1) = m.take (k + 1) := by
  rw [List.take_succ_eq_append_getElem h1, List.take_succ_eq_append_getElem h2, h, he]
/-- a function that says whether two things are one; two lists -/
def Eqs {α : Type} (A : Rep α) (F : FuncId) : Prop := ∀ (R R2 : Nat → Prop) (cs ds : List Value) (x y : α) (w : World), A.rd R w cs x → A.rd R2 w ds y → (∀ k, R k → k < w.heap.size) → (∀ k, R2 k → k < w.heap.size) →
  Calls Try.prog F #[.agg cs.toArray, .agg ds.toArray] w fun e w' => e = .returned (.bool (eqb x y)) ∧ Mod (fun _ => False) w w'
def EqsL {α : Type} (A : Rep α) (F : FuncId) : Prop := ∀ (R R2 : Nat → Prop) (v v2 : Value) (l m : List α) (w : World), RdS A R w v l → RdS A R2 w v2 m → (∀ k, R k → k < w.heap.size) → (∀ k, R2 k → k < w.heap.size) →
  Calls Try.prog F #[v, v2] w fun e w' => e = .returned (.bool (eqb l m)) ∧ Mod (fun _ => False) w w'
theorem Same_B {R R2 : Nat → Prop} {N N2 : Nat} {va vb : Value} {a b : List Int} {w : World} (ha : RdR R N w va a) (hb : RdR R2 N2 w vb b) :
    Calls Try.prog 18 #[va, vb] w fun e w' => e = .returned (.bool (eqb a b)) ∧ Mod (fun _ => False) w w' :=
  (Same_R ha hb).mono fun _ _ ⟨he, hm⟩ => ⟨he.trans (by rw [dec_eqb]), hm⟩
end Go.Proofs.Ytknpapcfhnhheaa

/- gavelkeep: comparisons of lists, certificates, promises, openings. -/
namespace Go.Proofs.Ytknpapcfhnhheaa
open Go Go.RowKit Go.Gv

set_option maxHeartbeats 4000000 in
theorem EqL_St : EqsL StR 79 := by
  intro R R2 v v2 l m w hs ht hB hB2
  obtain ⟨ao, cap, rfl⟩ := hs.shape
  obtain ⟨bo, bcap, rfl⟩ := ht.shape
  have hlm : l.length ≤ maxLen := hs.bd
  rw [maxLen_val] at hlm
  have HS := Lib.hid hs
  have HT := Lib.hid ht
  have HBR := Lib.hid hB
  have HBT := Lib.hid hB2
  clear hs ht hB hB2
  go_enter Try.func79, Try.ntmps79
  go_upto_region 1 with (fail)
  have HM0 := hid (Mod.refl (fun _ => False) w)
  by_cases hl : l.length = m.length
  rotate_left
  · skip
    go_upto_region 1 with (fail)
    refine wp_region_U 26 [6, 7, 8, 9, 10] [0, 1, 2, 3, 4] (fun a0 HA0 => ?_)
    have oe0 := ev HA0 0 rfl
    have oe1 := ev HA0 1 rfl
    refine QSeq.pure rfl _ (fun E => ex_move rfl (E.v oe0)) ?_
    refine QSeq.pure rfl (.int .i64 l.length) (fun E => ex_lenS rfl (E.d 0 0) Try.underlying50) ?_
    refine QSeq.pure rfl _ (fun E => ex_move rfl (E.v oe1)) ?_
    refine QSeq.pure rfl (.int .i64 m.length) (fun E => ex_lenS rfl (E.d 2 0) Try.underlying50) ?_
    refine QSeq.pure rfl (.bool true) (fun E => ex_binE rfl (E.d 1 2) (E.d 3 0) (guard_ints _ _ _ _ _ _) (run_neq_i _ _ _ Try.underlying3) (congrArg Value.bool (ne_tt (by omega)))) ?_
    refine QSeq.nil (t' := [_, _, _, _, _]) rfl ?_
    obtain rfl := HA0.out
    clear HA0 oe0 oe1
    simp only [pz, Act.put, List.setIfInBounds_toArray, List.set_cons_zero, List.set_cons_succ]
    go_upto_region 2 with (fail)
    refine wp_region_U 26 [4] [0] (fun a0 HA0 => ?_)
    refine QSeq.pure rfl (.bool false) (fun E => ex_assign rfl rfl) ?_
    refine QSeq.nil (t' := [_]) rfl ?_
    obtain rfl := HA0.out
    clear HA0
    simp only [pz, Act.put, List.setIfInBounds_toArray, List.set_cons_zero, List.set_cons_succ]
    go_wp2
    go_ret
    exact ⟨ret_bool (eqb_ne fun e => hl (by rw [e])).symm, HM0.out⟩
  · skip
    go_upto_region 1 with (fail)
    refine wp_region_U 26 [6, 7, 8, 9, 10] [0, 1, 2, 3, 4] (fun a0 HA0 => ?_)
    have oe0 := ev HA0 0 rfl
    have oe1 := ev HA0 1 rfl
    refine QSeq.pure rfl _ (fun E => ex_move rfl (E.v oe0)) ?_
    refine QSeq.pure rfl (.int .i64 l.length) (fun E => ex_lenS rfl (E.d 0 0) Try.underlying50) ?_
    refine QSeq.pure rfl _ (fun E => ex_move rfl (E.v oe1)) ?_
    refine QSeq.pure rfl (.int .i64 m.length) (fun E => ex_lenS rfl (E.d 2 0) Try.underlying50) ?_
    refine QSeq.pure rfl (.bool false) (fun E => ex_binE rfl (E.d 1 2) (E.d 3 0) (guard_ints _ _ _ _ _ _) (run_neq_i _ _ _ Try.underlying3) (congrArg Value.bool (ne_ff (by omega)))) ?_
    refine QSeq.nil (t' := [_, _, _, _, _]) rfl ?_
    obtain rfl := HA0.out
    clear HA0 oe0 oe1
    simp only [pz, Act.put, List.setIfInBounds_toArray, List.set_cons_zero, List.set_cons_succ]
    go_upto_region 3 with (fail)
    refine wp_region_U 26 [5] [0] (fun a0 HA0 => ?_)
    refine QSeq.pure rfl (.int .i64 0) (fun E => ex_assign rfl rfl) ?_
    refine QSeq.nil (t' := [_]) rfl ?_
    obtain rfl := HA0.out
    clear HA0
    simp only [pz, Act.put, List.setIfInBounds_toArray, List.set_cons_zero, List.set_cons_succ]
    have HLE := Lib.hid hl
    clear hl
    go_wp2
    go_loopw [5] (fun ti wr => ∃ k : Nat, ti = .int .i64 (k : Int) ∧ k ≤ l.length ∧ l.take k = m.take k ∧ w.heap.size ≤ wr.heap.size ∧ RdS StR R wr (.slice ao l.length cap) l ∧ RdS StR R2 wr (.slice bo m.length bcap) m ∧ Mod (fun _ => False) w wr) (fun ti _ => l.length - (intOf ti).toNat)
    case atStart => exact ⟨0, rfl, Nat.zero_le _, rfl, Nat.le_refl _, HS.out, HT.out, HM0.out⟩
    case round =>
      obtain ⟨k, rfl, hk, htk, hz, hs, ht, hm⟩ := hrel
      obtain ⟨wl, rfl⟩ : ∃ x, x = wr := ⟨_, rfl⟩
      have HS2 := Lib.hid hs
      have HT2 := Lib.hid ht
      have HML := Lib.hid hm
      have HTK := Lib.hid htk
      clear hs ht hm htk HS HT HM0
      by_cases hlt : k < l.length
      · have hlt2 : k < m.length := by have := HLE.out; omega
        go_upto_region 4 with (fail)
        refine wp_region_U 26 [11, 12, 13, 14] [0, 1, 2, 3] (fun a0 HA0 => ?_)
        have oe0 := ev HA0 0 rfl
        have oe5 := ev HA0 5 rfl
        refine QSeq.pure rfl _ (fun E => ex_move rfl (E.v oe5)) ?_
        refine QSeq.pure rfl _ (fun E => ex_move rfl (E.v oe0)) ?_
        refine QSeq.pure rfl (.int .i64 l.length) (fun E => ex_lenS rfl (E.d 1 0) Try.underlying50) ?_
        refine QSeq.pure rfl (.bool true) (fun E => ex_binE rfl (E.d 0 2) (E.d 2 0) (guard_ints _ _ _ _ _ _) (run_lss_i _ _ _ Try.underlying3) (congrArg Value.bool (decide_eq_true (by omega)))) ?_
        refine QSeq.nil (t' := [_, _, _, _]) rfl ?_
        obtain rfl := HA0.out
        clear HA0 oe0 oe5
        simp only [pz, Act.put, List.setIfInBounds_toArray, List.set_cons_zero, List.set_cons_succ]
        have hat := HS2.out.at hlt
        obtain ⟨g1, o1, c1, eao, hrg, hrd, hcs⟩ := hat
        subst eao
        obtain ⟨x, hx⟩ : ∃ z, z = l[k] := ⟨_, rfl⟩
        rw [← hx] at hrd
        have HX1 := Lib.hid hx
        have hcl : c1.length = 38 := StR.len hrd
        have HCL1 := Lib.hid hcl
        have HAT1 := hid (show CellsAt R wl g1 (o1 + k * 38) c1 from ⟨hrg, hcs⟩)
        have HRD1 := Lib.hid hrd
        clear hcl hcs hrd hrg hx
        have hat := HT2.out.at hlt2
        obtain ⟨g2, o2, c2, eao, hrg, hrd, hcs⟩ := hat
        subst eao
        obtain ⟨y, hy⟩ : ∃ z, z = m[k] := ⟨_, rfl⟩
        rw [← hy] at hrd
        have HX2 := Lib.hid hy
        have hcl : c2.length = 38 := StR.len hrd
        have HCL2 := Lib.hid hcl
        have HAT2 := hid (show CellsAt R2 wl g2 (o2 + k * 38) c2 from ⟨hrg, hcs⟩)
        have HRD2 := Lib.hid hrd
        clear hcl hcs hrd hrg hy
        obtain ⟨b, hb⟩ : ∃ b, b = eqb x y := ⟨_, rfl⟩
        have HB := Lib.hid hb
        clear hb
        obtain ⟨rfl, hok1⟩ := HRD1.out
        obtain ⟨rfl, hok2⟩ := HRD2.out
        have HO1 := Lib.hid hok1
        have HO2 := Lib.hid hok2
        clear hok1 hok2
        clear HRD1
        clear HRD2
        go_upto_region 6 with (fail)
        generalize ha0 : Act.mk _ _ = a0
        have oe0 : a0.eval (.tmp 0) = .slice (some ⟨g1, o1, none⟩) l.length cap := by rw [← ha0]; rfl
        have oe1 : a0.eval (.tmp 1) = .slice (some ⟨g2, o2, none⟩) m.length bcap := by rw [← ha0]; rfl
        have oe5 : a0.eval (.tmp 5) = .int .i64 ((k : Nat) : Int) := by rw [← ha0]; rfl
        have hsz0 : a0.tmps.size = 26 := by rw [← ha0]; rfl
        have HA0 := hid ha0
        clear ha0
        refine wp_region_Q0 26 hsz0 [17, 18, 19, 20, 21, 22, 23, 24, 25] [qi (.slice (some ⟨g1, o1, none⟩) l.length cap), qi (.int .i64 ((k : Nat) : Int)), qi (.pointer (some ⟨g1, o1 + k * 38, none⟩)), qi (.agg x.cells.toArray), qi (.slice (some ⟨g2, o2, none⟩) m.length bcap), qi (.int .i64 ((k : Nat) : Int)), qi (.pointer (some ⟨g2, o2 + k * 38, none⟩)), qi (.agg y.cells.toArray), qi (.bool (!b))] ⟨qi_stable, qi_stable, qi_stable, qi_stable, qi_stable, qi_stable, qi_stable, qi_stable, qi_stable, trivial⟩ [] ⟨?_, ?_, ?_, ?_, ?_, ?_, ?_, ?_, ?_, trivial⟩ ?_
        · exact stq (fun E => ex_move rfl (E.v oe0))
        · exact stq (fun E => ex_move rfl (E.v oe5))
        · exact stq (fun E => ex_idxS (i := k) (s := 38) rfl Try.underlying50 (by kernel_rfl) (E.d 0) (E.d 1) (by first | exact hlt | exact hlt2))
        · exact stq (fun E => ex_loadA rfl Try.underlying30 rfl (off := o1 + k * 38) (cs := x.cells) (by rw [HCL1.out]; kernel_rfl) (E.d 2) (fun j u hu => ((HAT1.out.mod E.m.old (by intro k h1 h2; have hb := HBR.out k h1; omega))).2 j u hu))
        · exact stq (fun E => ex_move rfl (E.v oe1))
        · exact stq (fun E => ex_move rfl (E.v oe5))
        · exact stq (fun E => ex_idxS (i := k) (s := 38) rfl Try.underlying50 (by kernel_rfl) (E.d 4) (E.d 5) (by first | exact hlt | exact hlt2))
        · exact stq (fun E => ex_loadA rfl Try.underlying30 rfl (off := o2 + k * 38) (cs := y.cells) (by rw [HCL2.out]; kernel_rfl) (E.d 6) (fun j u hu => ((HAT2.out.mod E.m.old (by intro k h1 h2; have hb := HBT.out k h1; omega))).2 j u hu))
        · exact stq (fun E => ex_binE rfl (E.d 3) (E.d 7) (agg_guardE _ _ _ _ _ _ (by kernel_rfl) _) (EqW.runN eqW_stamp (ki_st HO1.out) (ki_st HO2.out) (st_iff HO1.out HO2.out) _) (congrArg (fun z => Value.bool (!z)) HB.out.symm))
        intro u6_0 hr
        have zu6_0 := hr.size
        have Cx1 := hid (hr.new (S := (fun _ => False)))
        clear hr
        refine QChain.nil fun vs hl hzz hrows hne => ?_
        obtain ⟨Z, hYZ, hZb, hV⟩ := hzz
        have f0 := fvi hV hl 0
        have f1 := fvi hV hl 1
        have f4 := fvi hV hl 4
        have f5 := fvi hV hl 5
        have f8 := fvi hV hl 8
        rw [show vs = [gw vs 0, gw vs 1, gw vs 2, gw vs 3, gw vs 4, gw vs 5, gw vs 6, gw vs 7, gw vs 8] from (gw_eta hl).trans rfl]
        have ha0 := HA0.out
        subst ha0
        clear HA0 hV hYZ hZb hsz0 hrows hne oe0 oe1 oe5
        simp only [putAll, Act.put, List.setIfInBounds_toArray, List.set_cons_zero, List.set_cons_succ, f0, f1, f4, f5, f8]
        clear hl f0 f1 f4 f5 f8
        cases b with
        | false =>
          go_upto_region 7 with (fail)
          refine wp_region_U 26 [4] [0] (fun a0 HA0 => ?_)
          refine QSeq.pure rfl (.bool false) (fun E => ex_assign rfl rfl) ?_
          refine QSeq.nil (t' := [_]) rfl ?_
          obtain rfl := HA0.out
          clear HA0
          simp only [pz, Act.put, List.setIfInBounds_toArray, List.set_cons_zero, List.set_cons_succ]
          go_wp2
          go_ret
          exact ⟨ret_bool (take_ne hlt hlt2 (fun e => by have h := HB.out; rw [HX1.out, HX2.out, e, eqb_rfl] at h; cases h)).symm, (HML.out.trans Cx1.out (fun _ _ h => h.elim))⟩
        | true =>
          go_upto_region 5 with (fail)
          refine wp_region_U 26 [15, 16, 5] [0, 1, 2] (fun a0 HA0 => ?_)
          have oe5 := ev HA0 5 rfl
          refine QSeq.pure rfl _ (fun E => ex_move rfl (E.y 2 oe5)) ?_
          refine QSeq.pure rfl (.int .i64 (((k : Nat) : Int) + 1)) (fun E => ex_binE rfl (E.d 0 0) rfl (guard_ints _ _ _ _ _ _) (run_add_i _ _ Try.underlying3) (congrArg (Value.int .i64) (IntWalk.i64_in _ (by omega)))) ?_
          refine QSeq.pure rfl _ (fun E => ex_assign rfl (E.d 1 0)) ?_
          refine QSeq.nil (t' := [_, _, _]) rfl ?_
          obtain rfl := HA0.out
          clear HA0 oe5
          simp only [pz, Act.put, List.setIfInBounds_toArray, List.set_cons_zero, List.set_cons_succ]
          go_wp2
          go_roundw
          case rel => exact ⟨k + 1, by go_num, by omega, take_succ2 hlt hlt2 HTK.out (by have h := eqb_iff.1 HB.out.symm; rw [HX1.out, HX2.out] at h; exact h), by omega, (HS2.out.mod Cx1.out (fun _ _ h => h)), (HT2.out.mod Cx1.out (fun _ _ h => h)), (HML.out.trans Cx1.out (fun _ _ h => h.elim))⟩
          case measure => simp [intOf] <;> omega
      · skip
        go_upto_region 4 with (fail)
        refine wp_region_U 26 [11, 12, 13, 14] [0, 1, 2, 3] (fun a0 HA0 => ?_)
        have oe0 := ev HA0 0 rfl
        have oe5 := ev HA0 5 rfl
        refine QSeq.pure rfl _ (fun E => ex_move rfl (E.v oe5)) ?_
        refine QSeq.pure rfl _ (fun E => ex_move rfl (E.v oe0)) ?_
        refine QSeq.pure rfl (.int .i64 l.length) (fun E => ex_lenS rfl (E.d 1 0) Try.underlying50) ?_
        refine QSeq.pure rfl (.bool false) (fun E => ex_binE rfl (E.d 0 2) (E.d 2 0) (guard_ints _ _ _ _ _ _) (run_lss_i _ _ _ Try.underlying3) (congrArg Value.bool (decide_eq_false (by omega)))) ?_
        refine QSeq.nil (t' := [_, _, _, _]) rfl ?_
        obtain rfl := HA0.out
        clear HA0 oe0 oe5
        simp only [pz, Act.put, List.setIfInBounds_toArray, List.set_cons_zero, List.set_cons_succ]
        go_upto_region 8 with (fail)
        refine wp_region_U 26 [4] [0] (fun a0 HA0 => ?_)
        refine QSeq.pure rfl (.bool true) (fun E => ex_assign rfl rfl) ?_
        refine QSeq.nil (t' := [_]) rfl ?_
        obtain rfl := HA0.out
        clear HA0
        simp only [pz, Act.put, List.setIfInBounds_toArray, List.set_cons_zero, List.set_cons_succ]
        go_wp2
        go_ret
        exact ⟨ret_bool (take_all (by omega) (by have := HLE.out; omega) HTK.out).symm, HML.out⟩
set_option maxHeartbeats 4000000 in
theorem EqL_Dn : EqsL DnR 122 := by
  intro R R2 v v2 l m w hs ht hB hB2
  obtain ⟨ao, cap, rfl⟩ := hs.shape
  obtain ⟨bo, bcap, rfl⟩ := ht.shape
  have hlm : l.length ≤ maxLen := hs.bd
  rw [maxLen_val] at hlm
  have HS := Lib.hid hs
  have HT := Lib.hid ht
  have HBR := Lib.hid hB
  have HBT := Lib.hid hB2
  clear hs ht hB hB2
  go_enter Try.func122, Try.ntmps122
  go_upto_region 1 with (fail)
  have HM0 := hid (Mod.refl (fun _ => False) w)
  by_cases hl : l.length = m.length
  rotate_left
  · skip
    go_upto_region 1 with (fail)
    refine wp_region_U 26 [6, 7, 8, 9, 10] [0, 1, 2, 3, 4] (fun a0 HA0 => ?_)
    have oe0 := ev HA0 0 rfl
    have oe1 := ev HA0 1 rfl
    refine QSeq.pure rfl _ (fun E => ex_move rfl (E.v oe0)) ?_
    refine QSeq.pure rfl (.int .i64 l.length) (fun E => ex_lenS rfl (E.d 0 0) Try.underlying88) ?_
    refine QSeq.pure rfl _ (fun E => ex_move rfl (E.v oe1)) ?_
    refine QSeq.pure rfl (.int .i64 m.length) (fun E => ex_lenS rfl (E.d 2 0) Try.underlying88) ?_
    refine QSeq.pure rfl (.bool true) (fun E => ex_binE rfl (E.d 1 2) (E.d 3 0) (guard_ints _ _ _ _ _ _) (run_neq_i _ _ _ Try.underlying3) (congrArg Value.bool (ne_tt (by omega)))) ?_
    refine QSeq.nil (t' := [_, _, _, _, _]) rfl ?_
    obtain rfl := HA0.out
    clear HA0 oe0 oe1
    simp only [pz, Act.put, List.setIfInBounds_toArray, List.set_cons_zero, List.set_cons_succ]
    go_upto_region 2 with (fail)
    refine wp_region_U 26 [4] [0] (fun a0 HA0 => ?_)
    refine QSeq.pure rfl (.bool false) (fun E => ex_assign rfl rfl) ?_
    refine QSeq.nil (t' := [_]) rfl ?_
    obtain rfl := HA0.out
    clear HA0
    simp only [pz, Act.put, List.setIfInBounds_toArray, List.set_cons_zero, List.set_cons_succ]
    go_wp2
    go_ret
    exact ⟨ret_bool (eqb_ne fun e => hl (by rw [e])).symm, HM0.out⟩
  · skip
    go_upto_region 1 with (fail)
    refine wp_region_U 26 [6, 7, 8, 9, 10] [0, 1, 2, 3, 4] (fun a0 HA0 => ?_)
    have oe0 := ev HA0 0 rfl
    have oe1 := ev HA0 1 rfl
    refine QSeq.pure rfl _ (fun E => ex_move rfl (E.v oe0)) ?_
    refine QSeq.pure rfl (.int .i64 l.length) (fun E => ex_lenS rfl (E.d 0 0) Try.underlying88) ?_
    refine QSeq.pure rfl _ (fun E => ex_move rfl (E.v oe1)) ?_
    refine QSeq.pure rfl (.int .i64 m.length) (fun E => ex_lenS rfl (E.d 2 0) Try.underlying88) ?_
    refine QSeq.pure rfl (.bool false) (fun E => ex_binE rfl (E.d 1 2) (E.d 3 0) (guard_ints _ _ _ _ _ _) (run_neq_i _ _ _ Try.underlying3) (congrArg Value.bool (ne_ff (by omega)))) ?_
    refine QSeq.nil (t' := [_, _, _, _, _]) rfl ?_
    obtain rfl := HA0.out
    clear HA0 oe0 oe1
    simp only [pz, Act.put, List.setIfInBounds_toArray, List.set_cons_zero, List.set_cons_succ]
    go_upto_region 3 with (fail)
    refine wp_region_U 26 [5] [0] (fun a0 HA0 => ?_)
    refine QSeq.pure rfl (.int .i64 0) (fun E => ex_assign rfl rfl) ?_
    refine QSeq.nil (t' := [_]) rfl ?_
    obtain rfl := HA0.out
    clear HA0
    simp only [pz, Act.put, List.setIfInBounds_toArray, List.set_cons_zero, List.set_cons_succ]
    have HLE := Lib.hid hl
    clear hl
    go_wp2
    go_loopw [5] (fun ti wr => ∃ k : Nat, ti = .int .i64 (k : Int) ∧ k ≤ l.length ∧ l.take k = m.take k ∧ w.heap.size ≤ wr.heap.size ∧ RdS DnR R wr (.slice ao l.length cap) l ∧ RdS DnR R2 wr (.slice bo m.length bcap) m ∧ Mod (fun _ => False) w wr) (fun ti _ => l.length - (intOf ti).toNat)
    case atStart => exact ⟨0, rfl, Nat.zero_le _, rfl, Nat.le_refl _, HS.out, HT.out, HM0.out⟩
    case round =>
      obtain ⟨k, rfl, hk, htk, hz, hs, ht, hm⟩ := hrel
      obtain ⟨wl, rfl⟩ : ∃ x, x = wr := ⟨_, rfl⟩
      have HS2 := Lib.hid hs
      have HT2 := Lib.hid ht
      have HML := Lib.hid hm
      have HTK := Lib.hid htk
      clear hs ht hm htk HS HT HM0
      by_cases hlt : k < l.length
      · have hlt2 : k < m.length := by have := HLE.out; omega
        go_upto_region 4 with (fail)
        refine wp_region_U 26 [11, 12, 13, 14] [0, 1, 2, 3] (fun a0 HA0 => ?_)
        have oe0 := ev HA0 0 rfl
        have oe5 := ev HA0 5 rfl
        refine QSeq.pure rfl _ (fun E => ex_move rfl (E.v oe5)) ?_
        refine QSeq.pure rfl _ (fun E => ex_move rfl (E.v oe0)) ?_
        refine QSeq.pure rfl (.int .i64 l.length) (fun E => ex_lenS rfl (E.d 1 0) Try.underlying88) ?_
        refine QSeq.pure rfl (.bool true) (fun E => ex_binE rfl (E.d 0 2) (E.d 2 0) (guard_ints _ _ _ _ _ _) (run_lss_i _ _ _ Try.underlying3) (congrArg Value.bool (decide_eq_true (by omega)))) ?_
        refine QSeq.nil (t' := [_, _, _, _]) rfl ?_
        obtain rfl := HA0.out
        clear HA0 oe0 oe5
        simp only [pz, Act.put, List.setIfInBounds_toArray, List.set_cons_zero, List.set_cons_succ]
        have hat := HS2.out.at hlt
        obtain ⟨g1, o1, c1, eao, hrg, hrd, hcs⟩ := hat
        subst eao
        obtain ⟨x, hx⟩ : ∃ z, z = l[k] := ⟨_, rfl⟩
        rw [← hx] at hrd
        have HX1 := Lib.hid hx
        have hcl : c1.length = 4 := DnR.len hrd
        have HCL1 := Lib.hid hcl
        have HAT1 := hid (show CellsAt R wl g1 (o1 + k * 4) c1 from ⟨hrg, hcs⟩)
        have HRD1 := Lib.hid hrd
        clear hcl hcs hrd hrg hx
        have hat := HT2.out.at hlt2
        obtain ⟨g2, o2, c2, eao, hrg, hrd, hcs⟩ := hat
        subst eao
        obtain ⟨y, hy⟩ : ∃ z, z = m[k] := ⟨_, rfl⟩
        rw [← hy] at hrd
        have HX2 := Lib.hid hy
        have hcl : c2.length = 4 := DnR.len hrd
        have HCL2 := Lib.hid hcl
        have HAT2 := hid (show CellsAt R2 wl g2 (o2 + k * 4) c2 from ⟨hrg, hcs⟩)
        have HRD2 := Lib.hid hrd
        clear hcl hcs hrd hrg hy
        obtain ⟨b, hb⟩ : ∃ b, b = eqb x y := ⟨_, rfl⟩
        have HB := Lib.hid hb
        clear hb
        obtain ⟨rfl, hok1⟩ := HRD1.out
        obtain ⟨rfl, hok2⟩ := HRD2.out
        have HO1 := Lib.hid hok1
        have HO2 := Lib.hid hok2
        clear hok1 hok2
        clear HRD1
        clear HRD2
        go_upto_region 6 with (fail)
        generalize ha0 : Act.mk _ _ = a0
        have oe0 : a0.eval (.tmp 0) = .slice (some ⟨g1, o1, none⟩) l.length cap := by rw [← ha0]; rfl
        have oe1 : a0.eval (.tmp 1) = .slice (some ⟨g2, o2, none⟩) m.length bcap := by rw [← ha0]; rfl
        have oe5 : a0.eval (.tmp 5) = .int .i64 ((k : Nat) : Int) := by rw [← ha0]; rfl
        have hsz0 : a0.tmps.size = 26 := by rw [← ha0]; rfl
        have HA0 := hid ha0
        clear ha0
        refine wp_region_Q0 26 hsz0 [17, 18, 19, 20, 21, 22, 23, 24, 25] [qi (.slice (some ⟨g1, o1, none⟩) l.length cap), qi (.int .i64 ((k : Nat) : Int)), qi (.pointer (some ⟨g1, o1 + k * 4, none⟩)), qi (.agg x.cells.toArray), qi (.slice (some ⟨g2, o2, none⟩) m.length bcap), qi (.int .i64 ((k : Nat) : Int)), qi (.pointer (some ⟨g2, o2 + k * 4, none⟩)), qi (.agg y.cells.toArray), qi (.bool (!b))] ⟨qi_stable, qi_stable, qi_stable, qi_stable, qi_stable, qi_stable, qi_stable, qi_stable, qi_stable, trivial⟩ [] ⟨?_, ?_, ?_, ?_, ?_, ?_, ?_, ?_, ?_, trivial⟩ ?_
        · exact stq (fun E => ex_move rfl (E.v oe0))
        · exact stq (fun E => ex_move rfl (E.v oe5))
        · exact stq (fun E => ex_idxS (i := k) (s := 4) rfl Try.underlying88 (by kernel_rfl) (E.d 0) (E.d 1) (by first | exact hlt | exact hlt2))
        · exact stq (fun E => ex_loadA rfl Try.underlying34 rfl (off := o1 + k * 4) (cs := x.cells) (by rw [HCL1.out]; kernel_rfl) (E.d 2) (fun j u hu => ((HAT1.out.mod E.m.old (by intro k h1 h2; have hb := HBR.out k h1; omega))).2 j u hu))
        · exact stq (fun E => ex_move rfl (E.v oe1))
        · exact stq (fun E => ex_move rfl (E.v oe5))
        · exact stq (fun E => ex_idxS (i := k) (s := 4) rfl Try.underlying88 (by kernel_rfl) (E.d 4) (E.d 5) (by first | exact hlt | exact hlt2))
        · exact stq (fun E => ex_loadA rfl Try.underlying34 rfl (off := o2 + k * 4) (cs := y.cells) (by rw [HCL2.out]; kernel_rfl) (E.d 6) (fun j u hu => ((HAT2.out.mod E.m.old (by intro k h1 h2; have hb := HBT.out k h1; omega))).2 j u hu))
        · exact stq (fun E => ex_binE rfl (E.d 3) (E.d 7) (agg_guardE _ _ _ _ _ _ (by kernel_rfl) _) (EqW.runN eqW_deny (ki_dn _) (ki_dn _) (dn_iff HO1.out HO2.out) _) (congrArg (fun z => Value.bool (!z)) HB.out.symm))
        intro u6_0 hr
        have zu6_0 := hr.size
        have Cx1 := hid (hr.new (S := (fun _ => False)))
        clear hr
        refine QChain.nil fun vs hl hzz hrows hne => ?_
        obtain ⟨Z, hYZ, hZb, hV⟩ := hzz
        have f0 := fvi hV hl 0
        have f1 := fvi hV hl 1
        have f4 := fvi hV hl 4
        have f5 := fvi hV hl 5
        have f8 := fvi hV hl 8
        rw [show vs = [gw vs 0, gw vs 1, gw vs 2, gw vs 3, gw vs 4, gw vs 5, gw vs 6, gw vs 7, gw vs 8] from (gw_eta hl).trans rfl]
        have ha0 := HA0.out
        subst ha0
        clear HA0 hV hYZ hZb hsz0 hrows hne oe0 oe1 oe5
        simp only [putAll, Act.put, List.setIfInBounds_toArray, List.set_cons_zero, List.set_cons_succ, f0, f1, f4, f5, f8]
        clear hl f0 f1 f4 f5 f8
        cases b with
        | false =>
          go_upto_region 7 with (fail)
          refine wp_region_U 26 [4] [0] (fun a0 HA0 => ?_)
          refine QSeq.pure rfl (.bool false) (fun E => ex_assign rfl rfl) ?_
          refine QSeq.nil (t' := [_]) rfl ?_
          obtain rfl := HA0.out
          clear HA0
          simp only [pz, Act.put, List.setIfInBounds_toArray, List.set_cons_zero, List.set_cons_succ]
          go_wp2
          go_ret
          exact ⟨ret_bool (take_ne hlt hlt2 (fun e => by have h := HB.out; rw [HX1.out, HX2.out, e, eqb_rfl] at h; cases h)).symm, (HML.out.trans Cx1.out (fun _ _ h => h.elim))⟩
        | true =>
          go_upto_region 5 with (fail)
          refine wp_region_U 26 [15, 16, 5] [0, 1, 2] (fun a0 HA0 => ?_)
          have oe5 := ev HA0 5 rfl
          refine QSeq.pure rfl _ (fun E => ex_move rfl (E.y 2 oe5)) ?_
          refine QSeq.pure rfl (.int .i64 (((k : Nat) : Int) + 1)) (fun E => ex_binE rfl (E.d 0 0) rfl (guard_ints _ _ _ _ _ _) (run_add_i _ _ Try.underlying3) (congrArg (Value.int .i64) (IntWalk.i64_in _ (by omega)))) ?_
          refine QSeq.pure rfl _ (fun E => ex_assign rfl (E.d 1 0)) ?_
          refine QSeq.nil (t' := [_, _, _]) rfl ?_
          obtain rfl := HA0.out
          clear HA0 oe5
          simp only [pz, Act.put, List.setIfInBounds_toArray, List.set_cons_zero, List.set_cons_succ]
          go_wp2
          go_roundw
          case rel => exact ⟨k + 1, by go_num, by omega, take_succ2 hlt hlt2 HTK.out (by have h := eqb_iff.1 HB.out.symm; rw [HX1.out, HX2.out] at h; exact h), by omega, (HS2.out.mod Cx1.out (fun _ _ h => h)), (HT2.out.mod Cx1.out (fun _ _ h => h)), (HML.out.trans Cx1.out (fun _ _ h => h.elim))⟩
          case measure => simp [intOf] <;> omega
      · skip
        go_upto_region 4 with (fail)
        refine wp_region_U 26 [11, 12, 13, 14] [0, 1, 2, 3] (fun a0 HA0 => ?_)
        have oe0 := ev HA0 0 rfl
        have oe5 := ev HA0 5 rfl
        refine QSeq.pure rfl _ (fun E => ex_move rfl (E.v oe5)) ?_
        refine QSeq.pure rfl _ (fun E => ex_move rfl (E.v oe0)) ?_
        refine QSeq.pure rfl (.int .i64 l.length) (fun E => ex_lenS rfl (E.d 1 0) Try.underlying88) ?_
        refine QSeq.pure rfl (.bool false) (fun E => ex_binE rfl (E.d 0 2) (E.d 2 0) (guard_ints _ _ _ _ _ _) (run_lss_i _ _ _ Try.underlying3) (congrArg Value.bool (decide_eq_false (by omega)))) ?_
        refine QSeq.nil (t' := [_, _, _, _]) rfl ?_
        obtain rfl := HA0.out
        clear HA0 oe0 oe5
        simp only [pz, Act.put, List.setIfInBounds_toArray, List.set_cons_zero, List.set_cons_succ]
        go_upto_region 8 with (fail)
        refine wp_region_U 26 [4] [0] (fun a0 HA0 => ?_)
        refine QSeq.pure rfl (.bool true) (fun E => ex_assign rfl rfl) ?_
        refine QSeq.nil (t' := [_]) rfl ?_
        obtain rfl := HA0.out
        clear HA0
        simp only [pz, Act.put, List.setIfInBounds_toArray, List.set_cons_zero, List.set_cons_succ]
        go_wp2
        go_ret
        exact ⟨ret_bool (take_all (by omega) (by have := HLE.out; omega) HTK.out).symm, HML.out⟩
set_option maxHeartbeats 4000000 in
theorem Eq_Ce : Eqs CeR 30 := by
  intro R R2 cs ds x y w hx hy hB hB2
  obtain ⟨vx_l, rfl, hokx, hx_l⟩ := hx
  obtain ⟨ax_l, kx_l, rfl⟩ := hx_l.shape
  have Hx_l := Lib.hid hx_l
  clear hx_l
  have HOKx := Lib.hid hokx
  clear hokx
  obtain ⟨vy_l, rfl, hoky, hy_l⟩ := hy
  obtain ⟨ay_l, ky_l, rfl⟩ := hy_l.shape
  have Hy_l := Lib.hid hy_l
  clear hy_l
  have HOKy := Lib.hid hoky
  clear hoky
  have HBR := Lib.hid hB
  have HBT := Lib.hid hB2
  clear hB hB2
  go_enter Try.func30, Try.ntmps30
  go_upto_region 1 with (fail)
  obtain ⟨w1, hw1⟩ : ∃ zz, zz = ((w.alloc (.cells (x.cells (.slice ax_l x.l.length kx_l) : List Value).toArray 52)).alloc (.cells (y.cells (.slice ay_l y.l.length ky_l) : List Value).toArray 52)) := ⟨_, rfl⟩
  change Code.wp _ _ _ _ ((w.alloc (.cells (x.cells (.slice ax_l x.l.length kx_l) : List Value).toArray 52)).alloc (.cells (y.cells (.slice ay_l y.l.length ky_l) : List Value).toArray 52))
  rw [← hw1]
  have HB2 := hid (show Cs w1 (w.heap.size) (x.cells (.slice ax_l x.l.length kx_l) : List Value).toArray 52 by rw [hw1]; exact (Cs.new _ _ _).alloc _)
  have HB3 := hid (show Cs w1 (w.heap.size + 1) (y.cells (.slice ay_l y.l.length ky_l) : List Value).toArray 52 by rw [hw1]; exact Cs_newN _ _ _ (by simp))
  have hm : Mod (fun _ => False) w w1 := by rw [hw1]; exact ((Mod.refl _ _).alloc _).alloc _
  have HM0 := hid (show Mod (fun _ => False) w w1 from hm.mono (fun _ _ h => h.elim))
  have hs1 : w1.heap.size = w.heap.size + 2 := by rw [hw1]; simp
  have Hx1 := hid (Hx_l.out.mod hm (fun _ _ h => h))
  clear Hx_l
  have Hx2 := hid (Hy_l.out.mod hm (fun _ _ h => h))
  clear Hy_l
  clear hw1 hm
  go_upto_region 1 with (fail)
  refine wp_region_U 17 [5, 6, 7, 8, 9, 10, 11, 12, 13, 14, 15, 16, 4] [0, 1, 2, 3, 4, 5, 6, 7, 8, 9, 10, 11, 12] (fun a0 HA0 => ?_)
  have oe2 := ev HA0 2 rfl
  have oe3 := ev HA0 3 rfl
  refine QSeq.pure rfl (.pointer (some ⟨w.heap.size, 0, none⟩)) (fun E => ex_field rfl Try.underlying52 rfl (by kernel_rfl) (E.v oe2)) ?_
  refine QSeq.pure rfl _ (fun E => ex_loadA rfl Try.underlying49 rfl (off := 0) (cs := x.c.cells) (by rw [Cm.len HOKx.out.2.1]; exact size_commit) (E.d 0 0) (Cs.midA (pre := []) (mid := x.c.cells) (post := [.slice ax_l x.l.length kx_l]) HB2.out rfl)) ?_
  refine QSeq.pure rfl (.pointer (some ⟨w.heap.size + 1, 0, none⟩)) (fun E => ex_field rfl Try.underlying52 rfl (by kernel_rfl) (E.v oe3)) ?_
  refine QSeq.pure rfl _ (fun E => ex_loadA rfl Try.underlying49 rfl (off := 0) (cs := y.c.cells) (by rw [Cm.len HOKy.out.2.1]; exact size_commit) (E.d 2 0) (Cs.midA (pre := []) (mid := y.c.cells) (post := [.slice ay_l y.l.length ky_l]) HB3.out rfl)) ?_
  refine QSeq.pure rfl (.bool (eqb x.c y.c)) (fun E => ex_binE rfl (E.d 1 2) (E.d 3 0) (agg_guardE _ _ _ _ _ _ (by kernel_rfl) _) (EqW.run eqW_commit (ki_cm HOKx.out.2.1) (ki_cm HOKy.out.2.1) (cm_iff HOKx.out HOKy.out) _) rfl) ?_
  refine QSeq.pure rfl _ (fun E => ex_move rfl (E.d 4 0)) ?_
  refine QSeq.may (b := (eqb x.c y.c)) rfl (.pointer (some ⟨w.heap.size, 37, none⟩)) (fun E => ((wanted_of rfl rfl (E.sz 10 (by decide)) (E.d 5 0)).trans (beq_t _))) (fun E hb => ex_field rfl Try.underlying52 rfl (by kernel_rfl) (E.v oe2)) ?_
  intro v1_6 hw
  have hv1_6 := hid hw
  clear hw
  refine QSeq.may (b := (eqb x.c y.c)) rfl (.slice ax_l x.l.length kx_l) (fun E => ((wanted_of rfl rfl (E.sz 10 (by decide)) (E.d 5 1)).trans (beq_t _))) (fun E hb => ex_load1 rfl Try.underlying50 rfl ((E.q 6 0 hv1_6.out).1 hb) (Cs.post1 (pre := []) (mid := x.c.cells) (post := [.slice ax_l x.l.length kx_l]) (m := 37) (k := 0) HB2.out (Cm.len HOKx.out.2.1) rfl rfl)) ?_
  intro v1_7 hw
  have hv1_7 := hid hw
  clear hw
  refine QSeq.may (b := (eqb x.c y.c)) rfl (.pointer (some ⟨w.heap.size + 1, 37, none⟩)) (fun E => ((wanted_of rfl rfl (E.sz 10 (by decide)) (E.d 5 2)).trans (beq_t _))) (fun E hb => ex_field rfl Try.underlying52 rfl (by kernel_rfl) (E.v oe3)) ?_
  intro v1_8 hw
  have hv1_8 := hid hw
  clear hw
  refine QSeq.may (b := (eqb x.c y.c)) rfl (.slice ay_l y.l.length ky_l) (fun E => ((wanted_of rfl rfl (E.sz 10 (by decide)) (E.d 5 3)).trans (beq_t _))) (fun E hb => ex_load1 rfl Try.underlying50 rfl ((E.q 8 0 hv1_8.out).1 hb) (Cs.post1 (pre := []) (mid := y.c.cells) (post := [.slice ay_l y.l.length ky_l]) (m := 37) (k := 0) HB3.out (Cm.len HOKy.out.2.1) rfl rfl)) ?_
  intro v1_9 hw
  have hv1_9 := hid hw
  clear hw
  refine QSeq.mayCall (b := (eqb x.c y.c)) rfl (.bool (eqb x.l y.l)) (args := #[.slice ax_l x.l.length kx_l, .slice ay_l y.l.length ky_l]) (fun E => ((wanted_of rfl rfl (E.sz 10 (by decide)) (E.d 5 4)).trans (beq_t _))) rfl Try.func79 (fun E hb => args2 ((E.q 7 2 hv1_7.out).1 hb) ((E.q 9 0 hv1_9.out).1 hb)) (fun hb => EqL_St _ _ _ _ _ _ _ Hx1.out Hx2.out (by intro k h1; have hb := HBR.out k h1; (try have := hm.size); omega) (by intro k h1; have hb := HBT.out k h1; (try have := hm.size); omega)) ?_
  intro v1_10 u1_10 hw hm
  have hv1_10 := hid hw
  clear hw
  have zu1_10 := hm.size
  have Cx3 := hid (show Mod (fun _ => False) w1 u1_10 from hm)
  clear hm
  refine QSeq.pure rfl (.bool ((eqb x.c y.c) && (eqb x.l y.l))) (fun E => ex_pickE rfl (E.d 5 5) rfl rfl (and_val fun hb => (E.q 10 0 hv1_10.out).1 hb)) ?_
  refine QSeq.pure rfl _ (fun E => ex_assign rfl (E.d 11 0)) ?_
  clear hv1_6 hv1_7 hv1_8 hv1_9 hv1_10
  refine QSeq.nil (t' := [_, _, _, _, _, _, _, _, _, _, _, _, _]) rfl ?_
  obtain rfl := HA0.out
  clear HA0 oe2 oe3
  simp only [pz, Act.put, List.setIfInBounds_toArray, List.set_cons_zero, List.set_cons_succ]
  go_wp2
  go_ret
  exact ⟨ret_bool (ce_eqb x y), (HM0.out.trans Cx3.out (fun _ _ h => h.elim))⟩
set_option maxHeartbeats 4000000 in
theorem EqL_Ce : EqsL CeR 83 := by
  intro R R2 v v2 l m w hs ht hB hB2
  obtain ⟨ao, cap, rfl⟩ := hs.shape
  obtain ⟨bo, bcap, rfl⟩ := ht.shape
  have hlm : l.length ≤ maxLen := hs.bd
  rw [maxLen_val] at hlm
  have HS := Lib.hid hs
  have HT := Lib.hid ht
  have HBR := Lib.hid hB
  have HBT := Lib.hid hB2
  clear hs ht hB hB2
  go_enter Try.func83, Try.ntmps83
  go_upto_region 1 with (fail)
  have HM0 := hid (Mod.refl (fun _ => False) w)
  by_cases hl : l.length = m.length
  rotate_left
  · skip
    go_upto_region 1 with (fail)
    refine wp_region_U 27 [6, 7, 8, 9, 10] [0, 1, 2, 3, 4] (fun a0 HA0 => ?_)
    have oe0 := ev HA0 0 rfl
    have oe1 := ev HA0 1 rfl
    refine QSeq.pure rfl _ (fun E => ex_move rfl (E.v oe0)) ?_
    refine QSeq.pure rfl (.int .i64 l.length) (fun E => ex_lenS rfl (E.d 0 0) Try.underlying53) ?_
    refine QSeq.pure rfl _ (fun E => ex_move rfl (E.v oe1)) ?_
    refine QSeq.pure rfl (.int .i64 m.length) (fun E => ex_lenS rfl (E.d 2 0) Try.underlying53) ?_
    refine QSeq.pure rfl (.bool true) (fun E => ex_binE rfl (E.d 1 2) (E.d 3 0) (guard_ints _ _ _ _ _ _) (run_neq_i _ _ _ Try.underlying3) (congrArg Value.bool (ne_tt (by omega)))) ?_
    refine QSeq.nil (t' := [_, _, _, _, _]) rfl ?_
    obtain rfl := HA0.out
    clear HA0 oe0 oe1
    simp only [pz, Act.put, List.setIfInBounds_toArray, List.set_cons_zero, List.set_cons_succ]
    go_upto_region 2 with (fail)
    refine wp_region_U 27 [4] [0] (fun a0 HA0 => ?_)
    refine QSeq.pure rfl (.bool false) (fun E => ex_assign rfl rfl) ?_
    refine QSeq.nil (t' := [_]) rfl ?_
    obtain rfl := HA0.out
    clear HA0
    simp only [pz, Act.put, List.setIfInBounds_toArray, List.set_cons_zero, List.set_cons_succ]
    go_wp2
    go_ret
    exact ⟨ret_bool (eqb_ne fun e => hl (by rw [e])).symm, HM0.out⟩
  · skip
    go_upto_region 1 with (fail)
    refine wp_region_U 27 [6, 7, 8, 9, 10] [0, 1, 2, 3, 4] (fun a0 HA0 => ?_)
    have oe0 := ev HA0 0 rfl
    have oe1 := ev HA0 1 rfl
    refine QSeq.pure rfl _ (fun E => ex_move rfl (E.v oe0)) ?_
    refine QSeq.pure rfl (.int .i64 l.length) (fun E => ex_lenS rfl (E.d 0 0) Try.underlying53) ?_
    refine QSeq.pure rfl _ (fun E => ex_move rfl (E.v oe1)) ?_
    refine QSeq.pure rfl (.int .i64 m.length) (fun E => ex_lenS rfl (E.d 2 0) Try.underlying53) ?_
    refine QSeq.pure rfl (.bool false) (fun E => ex_binE rfl (E.d 1 2) (E.d 3 0) (guard_ints _ _ _ _ _ _) (run_neq_i _ _ _ Try.underlying3) (congrArg Value.bool (ne_ff (by omega)))) ?_
    refine QSeq.nil (t' := [_, _, _, _, _]) rfl ?_
    obtain rfl := HA0.out
    clear HA0 oe0 oe1
    simp only [pz, Act.put, List.setIfInBounds_toArray, List.set_cons_zero, List.set_cons_succ]
    go_upto_region 3 with (fail)
    refine wp_region_U 27 [11, 12, 13] [0, 1, 2] (fun a0 HA0 => ?_)
    have oe0 := ev HA0 0 rfl
    refine QSeq.pure rfl _ (fun E => ex_move rfl (E.v oe0)) ?_
    refine QSeq.pure rfl (.int .i64 l.length) (fun E => ex_lenS rfl (E.d 0 0) Try.underlying53) ?_
    refine QSeq.pure rfl (.int .i64 0) (fun E => ex_move rfl rfl) ?_
    refine QSeq.nil (t' := [_, _, _]) rfl ?_
    obtain rfl := HA0.out
    clear HA0 oe0
    simp only [pz, Act.put, List.setIfInBounds_toArray, List.set_cons_zero, List.set_cons_succ]
    have HLE := Lib.hid hl
    clear hl
    go_wp2
    go_loopw [13, 5] (fun ti t5 wr => ∃ k : Nat, ti = .int .i64 (k : Int) ∧ k ≤ l.length ∧ l.take k = m.take k ∧ w.heap.size ≤ wr.heap.size ∧ RdS CeR R wr (.slice ao l.length cap) l ∧ RdS CeR R2 wr (.slice bo m.length bcap) m ∧ Mod (fun _ => False) w wr) (fun ti t5 _ => l.length - (intOf ti).toNat)
    case atStart => exact ⟨0, rfl, Nat.zero_le _, rfl, Nat.le_refl _, HS.out, HT.out, HM0.out⟩
    case round =>
      obtain ⟨k, rfl, hk, htk, hz, hs, ht, hm⟩ := hrel
      obtain ⟨wl, rfl⟩ : ∃ x, x = wr := ⟨_, rfl⟩
      have HS2 := Lib.hid hs
      have HT2 := Lib.hid ht
      have HML := Lib.hid hm
      have HTK := Lib.hid htk
      clear hs ht hm htk HS HT HM0
      by_cases hlt : k < l.length
      · have hlt2 : k < m.length := by have := HLE.out; omega
        go_upto_region 4 with (fail)
        refine wp_region_U 27 [14] [0] (fun a0 HA0 => ?_)
        have oe12 := ev HA0 12 rfl
        have oe13 := ev HA0 13 rfl
        refine QSeq.pure rfl (.bool true) (fun E => ex_binE rfl (E.v oe13) (E.v oe12) (guard_ints _ _ _ _ _ _) (run_lss_i _ _ _ Try.underlying3) (congrArg Value.bool (decide_eq_true (by omega)))) ?_
        refine QSeq.nil (t' := [_]) rfl ?_
        obtain rfl := HA0.out
        clear HA0 oe12 oe13
        simp only [pz, Act.put, List.setIfInBounds_toArray, List.set_cons_zero, List.set_cons_succ]
        go_upto_region 5 with (fail)
        refine wp_region_U 27 [15, 5] [0, 1] (fun a0 HA0 => ?_)
        have oe13 := ev HA0 13 rfl
        refine QSeq.pure rfl _ (fun E => ex_move rfl (E.v oe13)) ?_
        refine QSeq.pure rfl _ (fun E => ex_assign rfl (E.d 0 0)) ?_
        refine QSeq.nil (t' := [_, _]) rfl ?_
        obtain rfl := HA0.out
        clear HA0 oe13
        simp only [pz, Act.put, List.setIfInBounds_toArray, List.set_cons_zero, List.set_cons_succ]
        have hat := HS2.out.at hlt
        obtain ⟨g1, o1, c1, eao, hrg, hrd, hcs⟩ := hat
        subst eao
        obtain ⟨x, hx⟩ : ∃ z, z = l[k] := ⟨_, rfl⟩
        rw [← hx] at hrd
        have HX1 := Lib.hid hx
        have hcl : c1.length = 38 := CeR.len hrd
        have HCL1 := Lib.hid hcl
        have HAT1 := hid (show CellsAt R wl g1 (o1 + k * 38) c1 from ⟨hrg, hcs⟩)
        have HRD1 := Lib.hid hrd
        clear hcl hcs hrd hrg hx
        have hat := HT2.out.at hlt2
        obtain ⟨g2, o2, c2, eao, hrg, hrd, hcs⟩ := hat
        subst eao
        obtain ⟨y, hy⟩ : ∃ z, z = m[k] := ⟨_, rfl⟩
        rw [← hy] at hrd
        have HX2 := Lib.hid hy
        have hcl : c2.length = 38 := CeR.len hrd
        have HCL2 := Lib.hid hcl
        have HAT2 := hid (show CellsAt R2 wl g2 (o2 + k * 38) c2 from ⟨hrg, hcs⟩)
        have HRD2 := Lib.hid hrd
        clear hcl hcs hrd hrg hy
        obtain ⟨b, hb⟩ : ∃ b, b = eqb x y := ⟨_, rfl⟩
        have HB := Lib.hid hb
        clear hb
        go_upto_region 6 with (fail)
        generalize ha0 : Act.mk _ _ = a0
        have oe0 : a0.eval (.tmp 0) = .slice (some ⟨g1, o1, none⟩) l.length cap := by rw [← ha0]; rfl
        have oe1 : a0.eval (.tmp 1) = .slice (some ⟨g2, o2, none⟩) m.length bcap := by rw [← ha0]; rfl
        have oe5 : a0.eval (.tmp 5) = .int .i64 ((k : Nat) : Int) := by rw [← ha0]; rfl
        have hsz0 : a0.tmps.size = 27 := by rw [← ha0]; rfl
        have HA0 := hid ha0
        clear ha0
        refine wp_region_Q0 27 hsz0 [16, 17, 18, 19, 20, 21, 22, 23, 24, 25] [qi (.slice (some ⟨g1, o1, none⟩) l.length cap), qi (.int .i64 ((k : Nat) : Int)), qi (.pointer (some ⟨g1, o1 + k * 38, none⟩)), qi (.agg c1.toArray), qi (.slice (some ⟨g2, o2, none⟩) m.length bcap), qi (.int .i64 ((k : Nat) : Int)), qi (.pointer (some ⟨g2, o2 + k * 38, none⟩)), qi (.agg c2.toArray), qi (.bool b), qi (.bool (!b))] ⟨qi_stable, qi_stable, qi_stable, qi_stable, qi_stable, qi_stable, qi_stable, qi_stable, qi_stable, qi_stable, trivial⟩ [8] ⟨?_, ?_, ?_, ?_, ?_, ?_, ?_, ?_, ?_, ?_, trivial⟩ ?_
        · exact stq (fun E => ex_move rfl (E.v oe0))
        · exact stq (fun E => ex_move rfl (E.v oe5))
        · exact stq (fun E => ex_idxS (i := k) (s := 38) rfl Try.underlying53 (by kernel_rfl) (E.d 0) (E.d 1) (by first | exact hlt | exact hlt2))
        · exact stq (fun E => ex_loadA rfl Try.underlying52 rfl (off := o1 + k * 38) (cs := c1) (by rw [HCL1.out]; kernel_rfl) (E.d 2) (fun j u hu => ((HAT1.out.mod E.m.old (by intro k h1 h2; have hb := HBR.out k h1; omega))).2 j u hu))
        · exact stq (fun E => ex_move rfl (E.v oe1))
        · exact stq (fun E => ex_move rfl (E.v oe5))
        · exact stq (fun E => ex_idxS (i := k) (s := 38) rfl Try.underlying53 (by kernel_rfl) (E.d 4) (E.d 5) (by first | exact hlt | exact hlt2))
        · exact stq (fun E => ex_loadA rfl Try.underlying52 rfl (off := o2 + k * 38) (cs := c2) (by rw [HCL2.out]; kernel_rfl) (E.d 6) (fun j u hu => ((HAT2.out.mod E.m.old (by intro k h1 h2; have hb := HBT.out k h1; omega))).2 j u hu))
        · exact stepq_chain rfl
        · exact stq (fun E => ex_not rfl (E.d 8))
        intro u6_0 hr
        have zu6_0 := hr.size
        have Cx1 := hid (hr.new (S := (fun _ => False)))
        clear hr
        refine QChain.go fun Z act E => ?_
        refine qc_callF (args := #[.agg c1.toArray, .agg c2.toArray]) rfl (wanted_none rfl) rfl Try.func30 (args2 (E.d 3) (E.d 7)) (HB.out.symm ▸ Eq_Ce _ _ _ _ _ _ _ (HRD1.out.mod Cx1.out (fun _ _ h => h)) (HRD2.out.mod Cx1.out (fun _ _ h => h)) (by intro k h1; have hb := HBR.out k h1; omega) (by intro k h1; have hb := HBT.out k h1; omega)) ?_
        rintro e u6_1a ⟨rfl, hm⟩
        have zu6_1a := hm.size
        refine ⟨_, rfl, hm.mono (fun _ _ h => h.elim), (fun _ => rfl), ?_⟩
        intro u6_1 hr
        have zu6_1 := hr.size
        have Cx2 := hid (Cx1.out.go hm hr)
        clear Cx1 hm hr Z act E
        refine QChain.nil fun vs hl hzz hrows hne => ?_
        obtain ⟨Z, hYZ, hZb, hV⟩ := hzz
        have f0 := fvi hV hl 0
        have f1 := fvi hV hl 1
        have f4 := fvi hV hl 4
        have f5 := fvi hV hl 5
        have f8 := fvi hV hl 8
        have f9 := fvi hV hl 9
        rw [show vs = [gw vs 0, gw vs 1, gw vs 2, gw vs 3, gw vs 4, gw vs 5, gw vs 6, gw vs 7, gw vs 8, gw vs 9] from (gw_eta hl).trans rfl]
        have ha0 := HA0.out
        subst ha0
        clear HA0 hV hYZ hZb hsz0 hrows hne oe0 oe1 oe5
        simp only [putAll, Act.put, List.setIfInBounds_toArray, List.set_cons_zero, List.set_cons_succ, f0, f1, f4, f5, f8, f9]
        clear hl f0 f1 f4 f5 f8 f9
        cases b with
        | false =>
          go_upto_region 7 with (fail)
          refine wp_region_U 27 [4] [0] (fun a0 HA0 => ?_)
          refine QSeq.pure rfl (.bool false) (fun E => ex_assign rfl rfl) ?_
          refine QSeq.nil (t' := [_]) rfl ?_
          obtain rfl := HA0.out
          clear HA0
          simp only [pz, Act.put, List.setIfInBounds_toArray, List.set_cons_zero, List.set_cons_succ]
          go_wp2
          go_ret
          exact ⟨ret_bool (take_ne hlt hlt2 (fun e => by have h := HB.out; rw [HX1.out, HX2.out, e, eqb_rfl] at h; cases h)).symm, (HML.out.trans Cx2.out (fun _ _ h => h.elim))⟩
        | true =>
          go_upto_region 8 with (fail)
          refine wp_region_U 27 [26, 13] [0, 1] (fun a0 HA0 => ?_)
          have oe13 := ev HA0 13 rfl
          refine QSeq.pure rfl (.int .i64 (((k : Nat) : Int) + 1)) (fun E => ex_binE rfl (E.y 1 oe13) rfl (guard_ints _ _ _ _ _ _) (run_add_i _ _ Try.underlying3) (congrArg (Value.int .i64) (IntWalk.i64_in _ (by omega)))) ?_
          refine QSeq.pure rfl _ (fun E => ex_move rfl (E.d 0 0)) ?_
          refine QSeq.nil (t' := [_, _]) rfl ?_
          obtain rfl := HA0.out
          clear HA0 oe13
          simp only [pz, Act.put, List.setIfInBounds_toArray, List.set_cons_zero, List.set_cons_succ]
          go_wp2
          go_roundw
          case rel => exact ⟨k + 1, by go_num, by omega, take_succ2 hlt hlt2 HTK.out (by have h := eqb_iff.1 HB.out.symm; rw [HX1.out, HX2.out] at h; exact h), by omega, (HS2.out.mod Cx2.out (fun _ _ h => h)), (HT2.out.mod Cx2.out (fun _ _ h => h)), (HML.out.trans Cx2.out (fun _ _ h => h.elim))⟩
          case measure => simp [intOf] <;> omega
      · skip
        go_upto_region 4 with (fail)
        refine wp_region_U 27 [14] [0] (fun a0 HA0 => ?_)
        have oe12 := ev HA0 12 rfl
        have oe13 := ev HA0 13 rfl
        refine QSeq.pure rfl (.bool false) (fun E => ex_binE rfl (E.v oe13) (E.v oe12) (guard_ints _ _ _ _ _ _) (run_lss_i _ _ _ Try.underlying3) (congrArg Value.bool (decide_eq_false (by omega)))) ?_
        refine QSeq.nil (t' := [_]) rfl ?_
        obtain rfl := HA0.out
        clear HA0 oe12 oe13
        simp only [pz, Act.put, List.setIfInBounds_toArray, List.set_cons_zero, List.set_cons_succ]
        go_upto_region 9 with (fail)
        refine wp_region_U 27 [4] [0] (fun a0 HA0 => ?_)
        refine QSeq.pure rfl (.bool true) (fun E => ex_assign rfl rfl) ?_
        refine QSeq.nil (t' := [_]) rfl ?_
        obtain rfl := HA0.out
        clear HA0
        simp only [pz, Act.put, List.setIfInBounds_toArray, List.set_cons_zero, List.set_cons_succ]
        go_wp2
        go_ret
        exact ⟨ret_bool (take_all (by omega) (by have := HLE.out; omega) HTK.out).symm, HML.out⟩
set_option maxHeartbeats 4000000 in
theorem Eq_Pm : Eqs PmR 33 := by
  intro R R2 cs ds x y w hx hy hB hB2
  obtain ⟨vx_l, rfl, hokx, hx_l⟩ := hx
  obtain ⟨ax_l, kx_l, rfl⟩ := hx_l.shape
  have Hx_l := Lib.hid hx_l
  clear hx_l
  have HOKx := Lib.hid hokx
  clear hokx
  obtain ⟨vy_l, rfl, hoky, hy_l⟩ := hy
  obtain ⟨ay_l, ky_l, rfl⟩ := hy_l.shape
  have Hy_l := Lib.hid hy_l
  clear hy_l
  have HOKy := Lib.hid hoky
  clear hoky
  have HBR := Lib.hid hB
  have HBT := Lib.hid hB2
  clear hB hB2
  go_enter Try.func33, Try.ntmps33
  go_upto_region 1 with (fail)
  obtain ⟨w1, hw1⟩ : ∃ zz, zz = ((w.alloc (.cells (x.cells (.slice ax_l x.l.length kx_l) : List Value).toArray 55)).alloc (.cells (y.cells (.slice ay_l y.l.length ky_l) : List Value).toArray 55)) := ⟨_, rfl⟩
  change Code.wp _ _ _ _ ((w.alloc (.cells (x.cells (.slice ax_l x.l.length kx_l) : List Value).toArray 55)).alloc (.cells (y.cells (.slice ay_l y.l.length ky_l) : List Value).toArray 55))
  rw [← hw1]
  have HB2 := hid (show Cs w1 (w.heap.size) (x.cells (.slice ax_l x.l.length kx_l) : List Value).toArray 55 by rw [hw1]; exact (Cs.new _ _ _).alloc _)
  have HB3 := hid (show Cs w1 (w.heap.size + 1) (y.cells (.slice ay_l y.l.length ky_l) : List Value).toArray 55 by rw [hw1]; exact Cs_newN _ _ _ (by simp))
  have hm : Mod (fun _ => False) w w1 := by rw [hw1]; exact ((Mod.refl _ _).alloc _).alloc _
  have HM0 := hid (show Mod (fun _ => False) w w1 from hm.mono (fun _ _ h => h.elim))
  have hs1 : w1.heap.size = w.heap.size + 2 := by rw [hw1]; simp
  have Hx1 := hid (Hx_l.out.mod hm (fun _ _ h => h))
  clear Hx_l
  have Hx2 := hid (Hy_l.out.mod hm (fun _ _ h => h))
  clear Hy_l
  clear hw1 hm
  go_upto_region 1 with (fail)
  refine wp_region_U 38 [5, 6, 7, 8, 9, 10, 11, 12, 13, 14, 15, 16, 17, 18, 19, 20, 21, 22, 23, 24, 25, 26, 27, 28, 29, 30, 31, 32, 33, 34, 35, 36, 37, 4] [0, 1, 2, 3, 4, 5, 6, 7, 8, 9, 10, 11, 12, 13, 14, 15, 16, 17, 18, 19, 20, 21, 22, 23, 24, 25, 26, 27, 28, 29, 30, 31, 32, 33] (fun a0 HA0 => ?_)
  have oe2 := ev HA0 2 rfl
  have oe3 := ev HA0 3 rfl
  refine QSeq.pure rfl (.pointer (some ⟨w.heap.size, 0, none⟩)) (fun E => ex_field rfl Try.underlying55 rfl (by kernel_rfl) (E.v oe2)) ?_
  refine QSeq.pure rfl _ (fun E => ex_load1 rfl Try.underlying3 rfl (E.d 0 0) (Cs.lit1 HB2.out rfl)) ?_
  refine QSeq.pure rfl (.pointer (some ⟨w.heap.size + 1, 0, none⟩)) (fun E => ex_field rfl Try.underlying55 rfl (by kernel_rfl) (E.v oe3)) ?_
  refine QSeq.pure rfl _ (fun E => ex_load1 rfl Try.underlying3 rfl (E.d 2 0) (Cs.lit1 HB3.out rfl)) ?_
  refine QSeq.pure rfl (.bool (x.rp == y.rp)) (fun E => ex_bin rfl (E.d 1 2) (E.d 3 0) (guard_ints _ _ _ _ _ _) (run_eql_i _ _ _ Try.underlying3)) ?_
  refine QSeq.pure rfl _ (fun E => ex_move rfl (E.d 4 0)) ?_
  refine QSeq.may (b := (x.rp == y.rp)) rfl (.pointer (some ⟨w.heap.size, 1, none⟩)) (fun E => ((wanted_of rfl rfl (E.sz 10 (by decide)) (E.d 5 0)).trans (beq_t _))) (fun E hb => ex_field rfl Try.underlying55 rfl (by kernel_rfl) (E.v oe2)) ?_
  intro v1_6 hw
  have hv1_6 := hid hw
  clear hw
  refine QSeq.may (b := (x.rp == y.rp)) rfl (.int .i64 x.ep) (fun E => ((wanted_of rfl rfl (E.sz 10 (by decide)) (E.d 5 1)).trans (beq_t _))) (fun E hb => ex_load1 rfl Try.underlying3 rfl ((E.q 6 0 hv1_6.out).1 hb) (Cs.lit1 HB2.out rfl)) ?_
  intro v1_7 hw
  have hv1_7 := hid hw
  clear hw
  refine QSeq.may (b := (x.rp == y.rp)) rfl (.pointer (some ⟨w.heap.size + 1, 1, none⟩)) (fun E => ((wanted_of rfl rfl (E.sz 10 (by decide)) (E.d 5 2)).trans (beq_t _))) (fun E hb => ex_field rfl Try.underlying55 rfl (by kernel_rfl) (E.v oe3)) ?_
  intro v1_8 hw
  have hv1_8 := hid hw
  clear hw
  refine QSeq.may (b := (x.rp == y.rp)) rfl (.int .i64 y.ep) (fun E => ((wanted_of rfl rfl (E.sz 10 (by decide)) (E.d 5 3)).trans (beq_t _))) (fun E hb => ex_load1 rfl Try.underlying3 rfl ((E.q 8 0 hv1_8.out).1 hb) (Cs.lit1 HB3.out rfl)) ?_
  intro v1_9 hw
  have hv1_9 := hid hw
  clear hw
  refine QSeq.may (b := (x.rp == y.rp)) rfl (.bool (x.ep == y.ep)) (fun E => ((wanted_of rfl rfl (E.sz 10 (by decide)) (E.d 5 4)).trans (beq_t _))) (fun E hb => ex_bin rfl ((E.q 7 2 hv1_7.out).1 hb) ((E.q 9 0 hv1_9.out).1 hb) (guard_ints _ _ _ _ _ _) (run_eql_i _ _ _ Try.underlying3)) ?_
  intro v1_10 hw
  have hv1_10 := hid hw
  clear hw
  refine QSeq.pure rfl (.bool ((x.rp == y.rp) && (x.ep == y.ep))) (fun E => ex_pickE rfl (E.d 5 5) rfl rfl (and_val fun hb => (E.q 10 0 hv1_10.out).1 hb)) ?_
  refine QSeq.pure rfl _ (fun E => ex_move rfl (E.d 11 0)) ?_
  refine QSeq.may (b := ((x.rp == y.rp) && (x.ep == y.ep))) rfl (.pointer (some ⟨w.heap.size, 2, none⟩)) (fun E => ((wanted_of rfl rfl (E.sz 17 (by decide)) (E.d 12 0)).trans (beq_t _))) (fun E hb => ex_field rfl Try.underlying55 rfl (by kernel_rfl) (E.v oe2)) ?_
  intro v1_13 hw
  have hv1_13 := hid hw
  clear hw
  refine QSeq.may (b := ((x.rp == y.rp) && (x.ep == y.ep))) rfl (.int .u64 (x.fl : Nat)) (fun E => ((wanted_of rfl rfl (E.sz 17 (by decide)) (E.d 12 1)).trans (beq_t _))) (fun E hb => ex_load1 rfl Try.underlying26 rfl ((E.q 13 0 hv1_13.out).1 hb) (Cs.lit1 HB2.out rfl)) ?_
  intro v1_14 hw
  have hv1_14 := hid hw
  clear hw
  refine QSeq.may (b := ((x.rp == y.rp) && (x.ep == y.ep))) rfl (.pointer (some ⟨w.heap.size + 1, 2, none⟩)) (fun E => ((wanted_of rfl rfl (E.sz 17 (by decide)) (E.d 12 2)).trans (beq_t _))) (fun E hb => ex_field rfl Try.underlying55 rfl (by kernel_rfl) (E.v oe3)) ?_
  intro v1_15 hw
  have hv1_15 := hid hw
  clear hw
  refine QSeq.may (b := ((x.rp == y.rp) && (x.ep == y.ep))) rfl (.int .u64 (y.fl : Nat)) (fun E => ((wanted_of rfl rfl (E.sz 17 (by decide)) (E.d 12 3)).trans (beq_t _))) (fun E hb => ex_load1 rfl Try.underlying26 rfl ((E.q 15 0 hv1_15.out).1 hb) (Cs.lit1 HB3.out rfl)) ?_
  intro v1_16 hw
  have hv1_16 := hid hw
  clear hw
  refine QSeq.may (b := ((x.rp == y.rp) && (x.ep == y.ep))) rfl (.bool (((x.fl : Nat) : Int) == ((y.fl : Nat) : Int))) (fun E => ((wanted_of rfl rfl (E.sz 17 (by decide)) (E.d 12 4)).trans (beq_t _))) (fun E hb => ex_bin rfl ((E.q 14 2 hv1_14.out).1 hb) ((E.q 16 0 hv1_16.out).1 hb) (guard_ints _ _ _ _ _ _) (run_eql_i _ _ _ Try.underlying26)) ?_
  intro v1_17 hw
  have hv1_17 := hid hw
  clear hw
  refine QSeq.pure rfl (.bool (((x.rp == y.rp) && (x.ep == y.ep)) && (((x.fl : Nat) : Int) == ((y.fl : Nat) : Int)))) (fun E => ex_pickE rfl (E.d 12 5) rfl rfl (and_val fun hb => (E.q 17 0 hv1_17.out).1 hb)) ?_
  refine QSeq.pure rfl _ (fun E => ex_move rfl (E.d 18 0)) ?_
  refine QSeq.may (b := (((x.rp == y.rp) && (x.ep == y.ep)) && (((x.fl : Nat) : Int) == ((y.fl : Nat) : Int)))) rfl (.pointer (some ⟨w.heap.size, 4, none⟩)) (fun E => ((wanted_of rfl rfl (E.sz 24 (by decide)) (E.d 19 0)).trans (beq_t _))) (fun E hb => ex_field rfl Try.underlying55 rfl (by kernel_rfl) (E.v oe2)) ?_
  intro v1_20 hw
  have hv1_20 := hid hw
  clear hw
  refine QSeq.may (b := (((x.rp == y.rp) && (x.ep == y.ep)) && (((x.fl : Nat) : Int) == ((y.fl : Nat) : Int)))) rfl (.agg #[.int .i64 x.sb, .int .i64 x.mr]) (fun E => ((wanted_of rfl rfl (E.sz 24 (by decide)) (E.d 19 1)).trans (beq_t _))) (fun E hb => ex_loadA rfl Try.underlying28 rfl (off := 4) (cs := [.int .i64 x.sb, .int .i64 x.mr]) (by kernel_rfl) ((E.q 20 0 hv1_20.out).1 hb) (Cs.litA HB2.out rfl)) ?_
  intro v1_21 hw
  have hv1_21 := hid hw
  clear hw
  refine QSeq.may (b := (((x.rp == y.rp) && (x.ep == y.ep)) && (((x.fl : Nat) : Int) == ((y.fl : Nat) : Int)))) rfl (.pointer (some ⟨w.heap.size + 1, 4, none⟩)) (fun E => ((wanted_of rfl rfl (E.sz 24 (by decide)) (E.d 19 2)).trans (beq_t _))) (fun E hb => ex_field rfl Try.underlying55 rfl (by kernel_rfl) (E.v oe3)) ?_
  intro v1_22 hw
  have hv1_22 := hid hw
  clear hw
  refine QSeq.may (b := (((x.rp == y.rp) && (x.ep == y.ep)) && (((x.fl : Nat) : Int) == ((y.fl : Nat) : Int)))) rfl (.agg #[.int .i64 y.sb, .int .i64 y.mr]) (fun E => ((wanted_of rfl rfl (E.sz 24 (by decide)) (E.d 19 3)).trans (beq_t _))) (fun E hb => ex_loadA rfl Try.underlying28 rfl (off := 4) (cs := [.int .i64 y.sb, .int .i64 y.mr]) (by kernel_rfl) ((E.q 22 0 hv1_22.out).1 hb) (Cs.litA HB3.out rfl)) ?_
  intro v1_23 hw
  have hv1_23 := hid hw
  clear hw
  refine QSeq.may (b := (((x.rp == y.rp) && (x.ep == y.ep)) && (((x.fl : Nat) : Int) == ((y.fl : Nat) : Int)))) rfl (.bool (eqb (x.sb, x.mr) (y.sb, y.mr))) (fun E => ((wanted_of rfl rfl (E.sz 24 (by decide)) (E.d 19 4)).trans (beq_t _))) (fun E hb => ex_binE rfl ((E.q 21 2 hv1_21.out).1 hb) ((E.q 23 0 hv1_23.out).1 hb) (agg_guardE _ _ _ _ _ _ (by kernel_rfl) _) (EqW.run eqW_sig (ki_2 x.sb x.mr) (ki_2 y.sb y.mr) (two_iff x.sb x.mr y.sb y.mr) _) rfl) ?_
  intro v1_24 hw
  have hv1_24 := hid hw
  clear hw
  refine QSeq.pure rfl (.bool ((((x.rp == y.rp) && (x.ep == y.ep)) && (((x.fl : Nat) : Int) == ((y.fl : Nat) : Int))) && (eqb (x.sb, x.mr) (y.sb, y.mr)))) (fun E => ex_pickE rfl (E.d 19 5) rfl rfl (and_val fun hb => (E.q 24 0 hv1_24.out).1 hb)) ?_
  refine QSeq.pure rfl _ (fun E => ex_move rfl (E.d 25 0)) ?_
  refine QSeq.may (b := ((((x.rp == y.rp) && (x.ep == y.ep)) && (((x.fl : Nat) : Int) == ((y.fl : Nat) : Int))) && (eqb (x.sb, x.mr) (y.sb, y.mr)))) rfl (.pointer (some ⟨w.heap.size, 3, none⟩)) (fun E => ((wanted_of rfl rfl (E.sz 31 (by decide)) (E.d 26 0)).trans (beq_t _))) (fun E hb => ex_field rfl Try.underlying55 rfl (by kernel_rfl) (E.v oe2)) ?_
  intro v1_27 hw
  have hv1_27 := hid hw
  clear hw
  refine QSeq.may (b := ((((x.rp == y.rp) && (x.ep == y.ep)) && (((x.fl : Nat) : Int) == ((y.fl : Nat) : Int))) && (eqb (x.sb, x.mr) (y.sb, y.mr)))) rfl (.slice ax_l x.l.length kx_l) (fun E => ((wanted_of rfl rfl (E.sz 31 (by decide)) (E.d 26 1)).trans (beq_t _))) (fun E hb => ex_load1 rfl Try.underlying53 rfl ((E.q 27 0 hv1_27.out).1 hb) (Cs.lit1 HB2.out rfl)) ?_
  intro v1_28 hw
  have hv1_28 := hid hw
  clear hw
  refine QSeq.may (b := ((((x.rp == y.rp) && (x.ep == y.ep)) && (((x.fl : Nat) : Int) == ((y.fl : Nat) : Int))) && (eqb (x.sb, x.mr) (y.sb, y.mr)))) rfl (.pointer (some ⟨w.heap.size + 1, 3, none⟩)) (fun E => ((wanted_of rfl rfl (E.sz 31 (by decide)) (E.d 26 2)).trans (beq_t _))) (fun E hb => ex_field rfl Try.underlying55 rfl (by kernel_rfl) (E.v oe3)) ?_
  intro v1_29 hw
  have hv1_29 := hid hw
  clear hw
  refine QSeq.may (b := ((((x.rp == y.rp) && (x.ep == y.ep)) && (((x.fl : Nat) : Int) == ((y.fl : Nat) : Int))) && (eqb (x.sb, x.mr) (y.sb, y.mr)))) rfl (.slice ay_l y.l.length ky_l) (fun E => ((wanted_of rfl rfl (E.sz 31 (by decide)) (E.d 26 3)).trans (beq_t _))) (fun E hb => ex_load1 rfl Try.underlying53 rfl ((E.q 29 0 hv1_29.out).1 hb) (Cs.lit1 HB3.out rfl)) ?_
  intro v1_30 hw
  have hv1_30 := hid hw
  clear hw
  refine QSeq.mayCall (b := ((((x.rp == y.rp) && (x.ep == y.ep)) && (((x.fl : Nat) : Int) == ((y.fl : Nat) : Int))) && (eqb (x.sb, x.mr) (y.sb, y.mr)))) rfl (.bool (eqb x.l y.l)) (args := #[.slice ax_l x.l.length kx_l, .slice ay_l y.l.length ky_l]) (fun E => ((wanted_of rfl rfl (E.sz 31 (by decide)) (E.d 26 4)).trans (beq_t _))) rfl Try.func83 (fun E hb => args2 ((E.q 28 2 hv1_28.out).1 hb) ((E.q 30 0 hv1_30.out).1 hb)) (fun hb => EqL_Ce _ _ _ _ _ _ _ Hx1.out Hx2.out (by intro k h1; have hb := HBR.out k h1; (try have := hm.size); omega) (by intro k h1; have hb := HBT.out k h1; (try have := hm.size); omega)) ?_
  intro v1_31 u1_31 hw hm
  have hv1_31 := hid hw
  clear hw
  have zu1_31 := hm.size
  have Cx3 := hid (show Mod (fun _ => False) w1 u1_31 from hm)
  clear hm
  refine QSeq.pure rfl (.bool (((((x.rp == y.rp) && (x.ep == y.ep)) && (((x.fl : Nat) : Int) == ((y.fl : Nat) : Int))) && (eqb (x.sb, x.mr) (y.sb, y.mr))) && (eqb x.l y.l))) (fun E => ex_pickE rfl (E.d 26 5) rfl rfl (and_val fun hb => (E.q 31 0 hv1_31.out).1 hb)) ?_
  refine QSeq.pure rfl _ (fun E => ex_assign rfl (E.d 32 0)) ?_
  clear hv1_6 hv1_7 hv1_8 hv1_9 hv1_10 hv1_13 hv1_14 hv1_15 hv1_16 hv1_17 hv1_20 hv1_21 hv1_22 hv1_23 hv1_24 hv1_27 hv1_28 hv1_29 hv1_30 hv1_31
  refine QSeq.nil (t' := [_, _, _, _, _, _, _, _, _, _, _, _, _, _, _, _, _, _, _, _, _, _, _, _, _, _, _, _, _, _, _, _, _, _]) rfl ?_
  obtain rfl := HA0.out
  clear HA0 oe2 oe3
  simp only [pz, Act.put, List.setIfInBounds_toArray, List.set_cons_zero, List.set_cons_succ]
  go_wp2
  go_ret
  exact ⟨ret_bool (pm_eqb x y), (HM0.out.trans Cx3.out (fun _ _ h => h.elim))⟩
set_option maxHeartbeats 4000000 in
theorem Eq_Op : Eqs OpR 121 := by
  intro R R2 cs ds x y w hx hy hB hB2
  obtain ⟨vx_pl, rfl, hokx, hx_pl⟩ := hx
  obtain ⟨ax_pl, kx_pl, rfl⟩ := hx_pl.shape
  have Hx_pl := Lib.hid hx_pl
  clear hx_pl
  have HOKx := Lib.hid hokx
  clear hokx
  obtain ⟨vy_pl, rfl, hoky, hy_pl⟩ := hy
  obtain ⟨ay_pl, ky_pl, rfl⟩ := hy_pl.shape
  have Hy_pl := Lib.hid hy_pl
  clear hy_pl
  have HOKy := Lib.hid hoky
  clear hoky
  have HBR := Lib.hid hB
  have HBT := Lib.hid hB2
  clear hB hB2
  go_enter Try.func121, Try.ntmps121
  go_upto_region 1 with (fail)
  obtain ⟨w1, hw1⟩ : ∃ zz, zz = ((w.alloc (.cells (x.cells (.slice ax_pl x.pl.length kx_pl) : List Value).toArray 87)).alloc (.cells (y.cells (.slice ay_pl y.pl.length ky_pl) : List Value).toArray 87)) := ⟨_, rfl⟩
  change Code.wp _ _ _ _ ((w.alloc (.cells (x.cells (.slice ax_pl x.pl.length kx_pl) : List Value).toArray 87)).alloc (.cells (y.cells (.slice ay_pl y.pl.length ky_pl) : List Value).toArray 87))
  rw [← hw1]
  have HB2 := hid (show Cs w1 (w.heap.size) (x.cells (.slice ax_pl x.pl.length kx_pl) : List Value).toArray 87 by rw [hw1]; exact (Cs.new _ _ _).alloc _)
  have HB3 := hid (show Cs w1 (w.heap.size + 1) (y.cells (.slice ay_pl y.pl.length ky_pl) : List Value).toArray 87 by rw [hw1]; exact Cs_newN _ _ _ (by simp))
  have hm : Mod (fun _ => False) w w1 := by rw [hw1]; exact ((Mod.refl _ _).alloc _).alloc _
  have HM0 := hid (show Mod (fun _ => False) w w1 from hm.mono (fun _ _ h => h.elim))
  have hs1 : w1.heap.size = w.heap.size + 2 := by rw [hw1]; simp
  have Hx1 := hid (Hx_pl.out.mod hm (fun _ _ h => h))
  clear Hx_pl
  have Hx2 := hid (Hy_pl.out.mod hm (fun _ _ h => h))
  clear Hy_pl
  clear hw1 hm
  go_upto_region 1 with (fail)
  refine wp_region_U 24 [5, 6, 7, 8, 9, 10, 11, 12, 13, 14, 15, 16, 17, 18, 19, 20, 21, 22, 23, 4] [0, 1, 2, 3, 4, 5, 6, 7, 8, 9, 10, 11, 12, 13, 14, 15, 16, 17, 18, 19] (fun a0 HA0 => ?_)
  have oe2 := ev HA0 2 rfl
  have oe3 := ev HA0 3 rfl
  refine QSeq.pure rfl (.pointer (some ⟨w.heap.size, 0, none⟩)) (fun E => ex_field rfl Try.underlying87 rfl (by kernel_rfl) (E.v oe2)) ?_
  refine QSeq.pure rfl _ (fun E => ex_load1 rfl Try.underlying3 rfl (E.d 0 0) (Cs.hd1 HB2.out rfl)) ?_
  refine QSeq.pure rfl (.pointer (some ⟨w.heap.size + 1, 0, none⟩)) (fun E => ex_field rfl Try.underlying87 rfl (by kernel_rfl) (E.v oe3)) ?_
  refine QSeq.pure rfl _ (fun E => ex_load1 rfl Try.underlying3 rfl (E.d 2 0) (Cs.hd1 HB3.out rfl)) ?_
  refine QSeq.pure rfl (.bool (x.ix == y.ix)) (fun E => ex_bin rfl (E.d 1 2) (E.d 3 0) (guard_ints _ _ _ _ _ _) (run_eql_i _ _ _ Try.underlying3)) ?_
  refine QSeq.pure rfl _ (fun E => ex_move rfl (E.d 4 0)) ?_
  refine QSeq.may (b := (x.ix == y.ix)) rfl (.pointer (some ⟨w.heap.size, 2, none⟩)) (fun E => ((wanted_of rfl rfl (E.sz 10 (by decide)) (E.d 5 0)).trans (beq_t _))) (fun E hb => ex_field rfl Try.underlying87 rfl (by kernel_rfl) (E.v oe2)) ?_
  intro v1_6 hw
  have hv1_6 := hid hw
  clear hw
  refine QSeq.may (b := (x.ix == y.ix)) rfl (hv x.nc) (fun E => ((wanted_of rfl rfl (E.sz 10 (by decide)) (E.d 5 1)).trans (beq_t _))) (fun E hb => ex_loadA rfl Try.underlying25 rfl (off := 2) (cs := x.nc.map bv) (by rw [List.length_map, HOKx.out.2.1]; exact size_hash) ((E.q 6 0 hv1_6.out).1 hb) (Cs.tlA HB2.out rfl)) ?_
  intro v1_7 hw
  have hv1_7 := hid hw
  clear hw
  refine QSeq.may (b := (x.ix == y.ix)) rfl (.pointer (some ⟨w.heap.size + 1, 2, none⟩)) (fun E => ((wanted_of rfl rfl (E.sz 10 (by decide)) (E.d 5 2)).trans (beq_t _))) (fun E hb => ex_field rfl Try.underlying87 rfl (by kernel_rfl) (E.v oe3)) ?_
  intro v1_8 hw
  have hv1_8 := hid hw
  clear hw
  refine QSeq.may (b := (x.ix == y.ix)) rfl (hv y.nc) (fun E => ((wanted_of rfl rfl (E.sz 10 (by decide)) (E.d 5 3)).trans (beq_t _))) (fun E hb => ex_loadA rfl Try.underlying25 rfl (off := 2) (cs := y.nc.map bv) (by rw [List.length_map, HOKy.out.2.1]; exact size_hash) ((E.q 8 0 hv1_8.out).1 hb) (Cs.tlA HB3.out rfl)) ?_
  intro v1_9 hw
  have hv1_9 := hid hw
  clear hw
  refine QSeq.may (b := (x.ix == y.ix)) rfl (.bool (eqb x.nc y.nc)) (fun E => ((wanted_of rfl rfl (E.sz 10 (by decide)) (E.d 5 4)).trans (beq_t _))) (fun E hb => ex_binE rfl ((E.q 7 2 hv1_7.out).1 hb) ((E.q 9 0 hv1_9.out).1 hb) (hv_guard2 _ _ _ _ _ _) (hv_eql HOKx.out.2.1 HOKy.out.2.1 _) (congrArg Value.bool (dec_eqb _ _))) ?_
  intro v1_10 hw
  have hv1_10 := hid hw
  clear hw
  refine QSeq.pure rfl (.bool ((x.ix == y.ix) && (eqb x.nc y.nc))) (fun E => ex_pickE rfl (E.d 5 5) rfl rfl (and_val fun hb => (E.q 10 0 hv1_10.out).1 hb)) ?_
  refine QSeq.pure rfl _ (fun E => ex_move rfl (E.d 11 0)) ?_
  refine QSeq.may (b := ((x.ix == y.ix) && (eqb x.nc y.nc))) rfl (.pointer (some ⟨w.heap.size, 1, none⟩)) (fun E => ((wanted_of rfl rfl (E.sz 17 (by decide)) (E.d 12 0)).trans (beq_t _))) (fun E hb => ex_field rfl Try.underlying87 rfl (by kernel_rfl) (E.v oe2)) ?_
  intro v1_13 hw
  have hv1_13 := hid hw
  clear hw
  refine QSeq.may (b := ((x.ix == y.ix) && (eqb x.nc y.nc))) rfl (.slice ax_pl x.pl.length kx_pl) (fun E => ((wanted_of rfl rfl (E.sz 17 (by decide)) (E.d 12 1)).trans (beq_t _))) (fun E hb => ex_load1 rfl Try.underlying38 rfl ((E.q 13 0 hv1_13.out).1 hb) (Cs.hd1 HB2.out rfl)) ?_
  intro v1_14 hw
  have hv1_14 := hid hw
  clear hw
  refine QSeq.may (b := ((x.ix == y.ix) && (eqb x.nc y.nc))) rfl (.pointer (some ⟨w.heap.size + 1, 1, none⟩)) (fun E => ((wanted_of rfl rfl (E.sz 17 (by decide)) (E.d 12 2)).trans (beq_t _))) (fun E hb => ex_field rfl Try.underlying87 rfl (by kernel_rfl) (E.v oe3)) ?_
  intro v1_15 hw
  have hv1_15 := hid hw
  clear hw
  refine QSeq.may (b := ((x.ix == y.ix) && (eqb x.nc y.nc))) rfl (.slice ay_pl y.pl.length ky_pl) (fun E => ((wanted_of rfl rfl (E.sz 17 (by decide)) (E.d 12 3)).trans (beq_t _))) (fun E hb => ex_load1 rfl Try.underlying38 rfl ((E.q 15 0 hv1_15.out).1 hb) (Cs.hd1 HB3.out rfl)) ?_
  intro v1_16 hw
  have hv1_16 := hid hw
  clear hw
  refine QSeq.mayCall (b := ((x.ix == y.ix) && (eqb x.nc y.nc))) rfl (.bool (eqb x.pl y.pl)) (args := #[.slice ax_pl x.pl.length kx_pl, .slice ay_pl y.pl.length ky_pl]) (fun E => ((wanted_of rfl rfl (E.sz 17 (by decide)) (E.d 12 4)).trans (beq_t _))) rfl Try.func18 (fun E hb => args2 ((E.q 14 2 hv1_14.out).1 hb) ((E.q 16 0 hv1_16.out).1 hb)) (fun hb => Same_B Hx1.out Hx2.out) ?_
  intro v1_17 u1_17 hw hm
  have hv1_17 := hid hw
  clear hw
  have zu1_17 := hm.size
  have Cx3 := hid (show Mod (fun _ => False) w1 u1_17 from hm)
  clear hm
  refine QSeq.pure rfl (.bool (((x.ix == y.ix) && (eqb x.nc y.nc)) && (eqb x.pl y.pl))) (fun E => ex_pickE rfl (E.d 12 5) rfl rfl (and_val fun hb => (E.q 17 0 hv1_17.out).1 hb)) ?_
  refine QSeq.pure rfl _ (fun E => ex_assign rfl (E.d 18 0)) ?_
  clear hv1_6 hv1_7 hv1_8 hv1_9 hv1_10 hv1_13 hv1_14 hv1_15 hv1_16 hv1_17
  refine QSeq.nil (t' := [_, _, _, _, _, _, _, _, _, _, _, _, _, _, _, _, _, _, _, _]) rfl ?_
  obtain rfl := HA0.out
  clear HA0 oe2 oe3
  simp only [pz, Act.put, List.setIfInBounds_toArray, List.set_cons_zero, List.set_cons_succ]
  go_wp2
  go_ret
  exact ⟨ret_bool (op_eqb x y), (HM0.out.trans Cx3.out (fun _ _ h => h.elim))⟩
set_option maxHeartbeats 4000000 in
theorem EqL_Op : EqsL OpR 87 := by
  intro R R2 v v2 l m w hs ht hB hB2
  obtain ⟨ao, cap, rfl⟩ := hs.shape
  obtain ⟨bo, bcap, rfl⟩ := ht.shape
  have hlm : l.length ≤ maxLen := hs.bd
  rw [maxLen_val] at hlm
  have HS := Lib.hid hs
  have HT := Lib.hid ht
  have HBR := Lib.hid hB
  have HBT := Lib.hid hB2
  clear hs ht hB hB2
  go_enter Try.func87, Try.ntmps87
  go_upto_region 1 with (fail)
  have HM0 := hid (Mod.refl (fun _ => False) w)
  by_cases hl : l.length = m.length
  rotate_left
  · skip
    go_upto_region 1 with (fail)
    refine wp_region_U 27 [6, 7, 8, 9, 10] [0, 1, 2, 3, 4] (fun a0 HA0 => ?_)
    have oe0 := ev HA0 0 rfl
    have oe1 := ev HA0 1 rfl
    refine QSeq.pure rfl _ (fun E => ex_move rfl (E.v oe0)) ?_
    refine QSeq.pure rfl (.int .i64 l.length) (fun E => ex_lenS rfl (E.d 0 0) Try.underlying57) ?_
    refine QSeq.pure rfl _ (fun E => ex_move rfl (E.v oe1)) ?_
    refine QSeq.pure rfl (.int .i64 m.length) (fun E => ex_lenS rfl (E.d 2 0) Try.underlying57) ?_
    refine QSeq.pure rfl (.bool true) (fun E => ex_binE rfl (E.d 1 2) (E.d 3 0) (guard_ints _ _ _ _ _ _) (run_neq_i _ _ _ Try.underlying3) (congrArg Value.bool (ne_tt (by omega)))) ?_
    refine QSeq.nil (t' := [_, _, _, _, _]) rfl ?_
    obtain rfl := HA0.out
    clear HA0 oe0 oe1
    simp only [pz, Act.put, List.setIfInBounds_toArray, List.set_cons_zero, List.set_cons_succ]
    go_upto_region 2 with (fail)
    refine wp_region_U 27 [4] [0] (fun a0 HA0 => ?_)
    refine QSeq.pure rfl (.bool false) (fun E => ex_assign rfl rfl) ?_
    refine QSeq.nil (t' := [_]) rfl ?_
    obtain rfl := HA0.out
    clear HA0
    simp only [pz, Act.put, List.setIfInBounds_toArray, List.set_cons_zero, List.set_cons_succ]
    go_wp2
    go_ret
    exact ⟨ret_bool (eqb_ne fun e => hl (by rw [e])).symm, HM0.out⟩
  · skip
    go_upto_region 1 with (fail)
    refine wp_region_U 27 [6, 7, 8, 9, 10] [0, 1, 2, 3, 4] (fun a0 HA0 => ?_)
    have oe0 := ev HA0 0 rfl
    have oe1 := ev HA0 1 rfl
    refine QSeq.pure rfl _ (fun E => ex_move rfl (E.v oe0)) ?_
    refine QSeq.pure rfl (.int .i64 l.length) (fun E => ex_lenS rfl (E.d 0 0) Try.underlying57) ?_
    refine QSeq.pure rfl _ (fun E => ex_move rfl (E.v oe1)) ?_
    refine QSeq.pure rfl (.int .i64 m.length) (fun E => ex_lenS rfl (E.d 2 0) Try.underlying57) ?_
    refine QSeq.pure rfl (.bool false) (fun E => ex_binE rfl (E.d 1 2) (E.d 3 0) (guard_ints _ _ _ _ _ _) (run_neq_i _ _ _ Try.underlying3) (congrArg Value.bool (ne_ff (by omega)))) ?_
    refine QSeq.nil (t' := [_, _, _, _, _]) rfl ?_
    obtain rfl := HA0.out
    clear HA0 oe0 oe1
    simp only [pz, Act.put, List.setIfInBounds_toArray, List.set_cons_zero, List.set_cons_succ]
    go_upto_region 3 with (fail)
    refine wp_region_U 27 [11, 12, 13] [0, 1, 2] (fun a0 HA0 => ?_)
    have oe0 := ev HA0 0 rfl
    refine QSeq.pure rfl _ (fun E => ex_move rfl (E.v oe0)) ?_
    refine QSeq.pure rfl (.int .i64 l.length) (fun E => ex_lenS rfl (E.d 0 0) Try.underlying57) ?_
    refine QSeq.pure rfl (.int .i64 0) (fun E => ex_move rfl rfl) ?_
    refine QSeq.nil (t' := [_, _, _]) rfl ?_
    obtain rfl := HA0.out
    clear HA0 oe0
    simp only [pz, Act.put, List.setIfInBounds_toArray, List.set_cons_zero, List.set_cons_succ]
    have HLE := Lib.hid hl
    clear hl
    go_wp2
    go_loopw [13, 5] (fun ti t5 wr => ∃ k : Nat, ti = .int .i64 (k : Int) ∧ k ≤ l.length ∧ l.take k = m.take k ∧ w.heap.size ≤ wr.heap.size ∧ RdS OpR R wr (.slice ao l.length cap) l ∧ RdS OpR R2 wr (.slice bo m.length bcap) m ∧ Mod (fun _ => False) w wr) (fun ti t5 _ => l.length - (intOf ti).toNat)
    case atStart => exact ⟨0, rfl, Nat.zero_le _, rfl, Nat.le_refl _, HS.out, HT.out, HM0.out⟩
    case round =>
      obtain ⟨k, rfl, hk, htk, hz, hs, ht, hm⟩ := hrel
      obtain ⟨wl, rfl⟩ : ∃ x, x = wr := ⟨_, rfl⟩
      have HS2 := Lib.hid hs
      have HT2 := Lib.hid ht
      have HML := Lib.hid hm
      have HTK := Lib.hid htk
      clear hs ht hm htk HS HT HM0
      by_cases hlt : k < l.length
      · have hlt2 : k < m.length := by have := HLE.out; omega
        go_upto_region 4 with (fail)
        refine wp_region_U 27 [14] [0] (fun a0 HA0 => ?_)
        have oe12 := ev HA0 12 rfl
        have oe13 := ev HA0 13 rfl
        refine QSeq.pure rfl (.bool true) (fun E => ex_binE rfl (E.v oe13) (E.v oe12) (guard_ints _ _ _ _ _ _) (run_lss_i _ _ _ Try.underlying3) (congrArg Value.bool (decide_eq_true (by omega)))) ?_
        refine QSeq.nil (t' := [_]) rfl ?_
        obtain rfl := HA0.out
        clear HA0 oe12 oe13
        simp only [pz, Act.put, List.setIfInBounds_toArray, List.set_cons_zero, List.set_cons_succ]
        go_upto_region 5 with (fail)
        refine wp_region_U 27 [15, 5] [0, 1] (fun a0 HA0 => ?_)
        have oe13 := ev HA0 13 rfl
        refine QSeq.pure rfl _ (fun E => ex_move rfl (E.v oe13)) ?_
        refine QSeq.pure rfl _ (fun E => ex_assign rfl (E.d 0 0)) ?_
        refine QSeq.nil (t' := [_, _]) rfl ?_
        obtain rfl := HA0.out
        clear HA0 oe13
        simp only [pz, Act.put, List.setIfInBounds_toArray, List.set_cons_zero, List.set_cons_succ]
        have hat := HS2.out.at hlt
        obtain ⟨g1, o1, c1, eao, hrg, hrd, hcs⟩ := hat
        subst eao
        obtain ⟨x, hx⟩ : ∃ z, z = l[k] := ⟨_, rfl⟩
        rw [← hx] at hrd
        have HX1 := Lib.hid hx
        have hcl : c1.length = 34 := OpR.len hrd
        have HCL1 := Lib.hid hcl
        have HAT1 := hid (show CellsAt R wl g1 (o1 + k * 34) c1 from ⟨hrg, hcs⟩)
        have HRD1 := Lib.hid hrd
        clear hcl hcs hrd hrg hx
        have hat := HT2.out.at hlt2
        obtain ⟨g2, o2, c2, eao, hrg, hrd, hcs⟩ := hat
        subst eao
        obtain ⟨y, hy⟩ : ∃ z, z = m[k] := ⟨_, rfl⟩
        rw [← hy] at hrd
        have HX2 := Lib.hid hy
        have hcl : c2.length = 34 := OpR.len hrd
        have HCL2 := Lib.hid hcl
        have HAT2 := hid (show CellsAt R2 wl g2 (o2 + k * 34) c2 from ⟨hrg, hcs⟩)
        have HRD2 := Lib.hid hrd
        clear hcl hcs hrd hrg hy
        obtain ⟨b, hb⟩ : ∃ b, b = eqb x y := ⟨_, rfl⟩
        have HB := Lib.hid hb
        clear hb
        go_upto_region 6 with (fail)
        generalize ha0 : Act.mk _ _ = a0
        have oe0 : a0.eval (.tmp 0) = .slice (some ⟨g1, o1, none⟩) l.length cap := by rw [← ha0]; rfl
        have oe1 : a0.eval (.tmp 1) = .slice (some ⟨g2, o2, none⟩) m.length bcap := by rw [← ha0]; rfl
        have oe5 : a0.eval (.tmp 5) = .int .i64 ((k : Nat) : Int) := by rw [← ha0]; rfl
        have hsz0 : a0.tmps.size = 27 := by rw [← ha0]; rfl
        have HA0 := hid ha0
        clear ha0
        refine wp_region_Q0 27 hsz0 [16, 17, 18, 19, 20, 21, 22, 23, 24, 25] [qi (.slice (some ⟨g1, o1, none⟩) l.length cap), qi (.int .i64 ((k : Nat) : Int)), qi (.pointer (some ⟨g1, o1 + k * 34, none⟩)), qi (.agg c1.toArray), qi (.slice (some ⟨g2, o2, none⟩) m.length bcap), qi (.int .i64 ((k : Nat) : Int)), qi (.pointer (some ⟨g2, o2 + k * 34, none⟩)), qi (.agg c2.toArray), qi (.bool b), qi (.bool (!b))] ⟨qi_stable, qi_stable, qi_stable, qi_stable, qi_stable, qi_stable, qi_stable, qi_stable, qi_stable, qi_stable, trivial⟩ [8] ⟨?_, ?_, ?_, ?_, ?_, ?_, ?_, ?_, ?_, ?_, trivial⟩ ?_
        · exact stq (fun E => ex_move rfl (E.v oe0))
        · exact stq (fun E => ex_move rfl (E.v oe5))
        · exact stq (fun E => ex_idxS (i := k) (s := 34) rfl Try.underlying57 (by kernel_rfl) (E.d 0) (E.d 1) (by first | exact hlt | exact hlt2))
        · exact stq (fun E => ex_loadA rfl Try.underlying87 rfl (off := o1 + k * 34) (cs := c1) (by rw [HCL1.out]; kernel_rfl) (E.d 2) (fun j u hu => ((HAT1.out.mod E.m.old (by intro k h1 h2; have hb := HBR.out k h1; omega))).2 j u hu))
        · exact stq (fun E => ex_move rfl (E.v oe1))
        · exact stq (fun E => ex_move rfl (E.v oe5))
        · exact stq (fun E => ex_idxS (i := k) (s := 34) rfl Try.underlying57 (by kernel_rfl) (E.d 4) (E.d 5) (by first | exact hlt | exact hlt2))
        · exact stq (fun E => ex_loadA rfl Try.underlying87 rfl (off := o2 + k * 34) (cs := c2) (by rw [HCL2.out]; kernel_rfl) (E.d 6) (fun j u hu => ((HAT2.out.mod E.m.old (by intro k h1 h2; have hb := HBT.out k h1; omega))).2 j u hu))
        · exact stepq_chain rfl
        · exact stq (fun E => ex_not rfl (E.d 8))
        intro u6_0 hr
        have zu6_0 := hr.size
        have Cx1 := hid (hr.new (S := (fun _ => False)))
        clear hr
        refine QChain.go fun Z act E => ?_
        refine qc_callF (args := #[.agg c1.toArray, .agg c2.toArray]) rfl (wanted_none rfl) rfl Try.func121 (args2 (E.d 3) (E.d 7)) (HB.out.symm ▸ Eq_Op _ _ _ _ _ _ _ (HRD1.out.mod Cx1.out (fun _ _ h => h)) (HRD2.out.mod Cx1.out (fun _ _ h => h)) (by intro k h1; have hb := HBR.out k h1; omega) (by intro k h1; have hb := HBT.out k h1; omega)) ?_
        rintro e u6_1a ⟨rfl, hm⟩
        have zu6_1a := hm.size
        refine ⟨_, rfl, hm.mono (fun _ _ h => h.elim), (fun _ => rfl), ?_⟩
        intro u6_1 hr
        have zu6_1 := hr.size
        have Cx2 := hid (Cx1.out.go hm hr)
        clear Cx1 hm hr Z act E
        refine QChain.nil fun vs hl hzz hrows hne => ?_
        obtain ⟨Z, hYZ, hZb, hV⟩ := hzz
        have f0 := fvi hV hl 0
        have f1 := fvi hV hl 1
        have f4 := fvi hV hl 4
        have f5 := fvi hV hl 5
        have f8 := fvi hV hl 8
        have f9 := fvi hV hl 9
        rw [show vs = [gw vs 0, gw vs 1, gw vs 2, gw vs 3, gw vs 4, gw vs 5, gw vs 6, gw vs 7, gw vs 8, gw vs 9] from (gw_eta hl).trans rfl]
        have ha0 := HA0.out
        subst ha0
        clear HA0 hV hYZ hZb hsz0 hrows hne oe0 oe1 oe5
        simp only [putAll, Act.put, List.setIfInBounds_toArray, List.set_cons_zero, List.set_cons_succ, f0, f1, f4, f5, f8, f9]
        clear hl f0 f1 f4 f5 f8 f9
        cases b with
        | false =>
          go_upto_region 7 with (fail)
          refine wp_region_U 27 [4] [0] (fun a0 HA0 => ?_)
          refine QSeq.pure rfl (.bool false) (fun E => ex_assign rfl rfl) ?_
          refine QSeq.nil (t' := [_]) rfl ?_
          obtain rfl := HA0.out
          clear HA0
          simp only [pz, Act.put, List.setIfInBounds_toArray, List.set_cons_zero, List.set_cons_succ]
          go_wp2
          go_ret
          exact ⟨ret_bool (take_ne hlt hlt2 (fun e => by have h := HB.out; rw [HX1.out, HX2.out, e, eqb_rfl] at h; cases h)).symm, (HML.out.trans Cx2.out (fun _ _ h => h.elim))⟩
        | true =>
          go_upto_region 8 with (fail)
          refine wp_region_U 27 [26, 13] [0, 1] (fun a0 HA0 => ?_)
          have oe13 := ev HA0 13 rfl
          refine QSeq.pure rfl (.int .i64 (((k : Nat) : Int) + 1)) (fun E => ex_binE rfl (E.y 1 oe13) rfl (guard_ints _ _ _ _ _ _) (run_add_i _ _ Try.underlying3) (congrArg (Value.int .i64) (IntWalk.i64_in _ (by omega)))) ?_
          refine QSeq.pure rfl _ (fun E => ex_move rfl (E.d 0 0)) ?_
          refine QSeq.nil (t' := [_, _]) rfl ?_
          obtain rfl := HA0.out
          clear HA0 oe13
          simp only [pz, Act.put, List.setIfInBounds_toArray, List.set_cons_zero, List.set_cons_succ]
          go_wp2
          go_roundw
          case rel => exact ⟨k + 1, by go_num, by omega, take_succ2 hlt hlt2 HTK.out (by have h := eqb_iff.1 HB.out.symm; rw [HX1.out, HX2.out] at h; exact h), by omega, (HS2.out.mod Cx2.out (fun _ _ h => h)), (HT2.out.mod Cx2.out (fun _ _ h => h)), (HML.out.trans Cx2.out (fun _ _ h => h.elim))⟩
          case measure => simp [intOf] <;> omega
      · skip
        go_upto_region 4 with (fail)
        refine wp_region_U 27 [14] [0] (fun a0 HA0 => ?_)
        have oe12 := ev HA0 12 rfl
        have oe13 := ev HA0 13 rfl
        refine QSeq.pure rfl (.bool false) (fun E => ex_binE rfl (E.v oe13) (E.v oe12) (guard_ints _ _ _ _ _ _) (run_lss_i _ _ _ Try.underlying3) (congrArg Value.bool (decide_eq_false (by omega)))) ?_
        refine QSeq.nil (t' := [_]) rfl ?_
        obtain rfl := HA0.out
        clear HA0 oe12 oe13
        simp only [pz, Act.put, List.setIfInBounds_toArray, List.set_cons_zero, List.set_cons_succ]
        go_upto_region 9 with (fail)
        refine wp_region_U 27 [4] [0] (fun a0 HA0 => ?_)
        refine QSeq.pure rfl (.bool true) (fun E => ex_assign rfl rfl) ?_
        refine QSeq.nil (t' := [_]) rfl ?_
        obtain rfl := HA0.out
        clear HA0
        simp only [pz, Act.put, List.setIfInBounds_toArray, List.set_cons_zero, List.set_cons_succ]
        go_wp2
        go_ret
        exact ⟨ret_bool (take_all (by omega) (by have := HLE.out; omega) HTK.out).symm, HML.out⟩
end Go.Proofs.Ytknpapcfhnhheaa

/- gavelkeep: comparisons of tombstones, batches. -/
namespace Go.Proofs.Ytknpapcfhnhheaa
open Go Go.RowKit Go.Gv

set_option maxHeartbeats 4000000 in
theorem EqL_Tb : EqsL TbR 88 := by
  intro R R2 v v2 l m w hs ht hB hB2
  obtain ⟨ao, cap, rfl⟩ := hs.shape
  obtain ⟨bo, bcap, rfl⟩ := ht.shape
  have hlm : l.length ≤ maxLen := hs.bd
  rw [maxLen_val] at hlm
  have HS := Lib.hid hs
  have HT := Lib.hid ht
  have HBR := Lib.hid hB
  have HBT := Lib.hid hB2
  clear hs ht hB hB2
  go_enter Try.func88, Try.ntmps88
  go_upto_region 1 with (fail)
  have HM0 := hid (Mod.refl (fun _ => False) w)
  by_cases hl : l.length = m.length
  rotate_left
  · skip
    go_upto_region 1 with (fail)
    refine wp_region_U 42 [6, 7, 8, 9, 10] [0, 1, 2, 3, 4] (fun a0 HA0 => ?_)
    have oe0 := ev HA0 0 rfl
    have oe1 := ev HA0 1 rfl
    refine QSeq.pure rfl _ (fun E => ex_move rfl (E.v oe0)) ?_
    refine QSeq.pure rfl (.int .i64 l.length) (fun E => ex_lenS rfl (E.d 0 0) Try.underlying58) ?_
    refine QSeq.pure rfl _ (fun E => ex_move rfl (E.v oe1)) ?_
    refine QSeq.pure rfl (.int .i64 m.length) (fun E => ex_lenS rfl (E.d 2 0) Try.underlying58) ?_
    refine QSeq.pure rfl (.bool true) (fun E => ex_binE rfl (E.d 1 2) (E.d 3 0) (guard_ints _ _ _ _ _ _) (run_neq_i _ _ _ Try.underlying3) (congrArg Value.bool (ne_tt (by omega)))) ?_
    refine QSeq.nil (t' := [_, _, _, _, _]) rfl ?_
    obtain rfl := HA0.out
    clear HA0 oe0 oe1
    simp only [pz, Act.put, List.setIfInBounds_toArray, List.set_cons_zero, List.set_cons_succ]
    go_upto_region 2 with (fail)
    refine wp_region_U 42 [4] [0] (fun a0 HA0 => ?_)
    refine QSeq.pure rfl (.bool false) (fun E => ex_assign rfl rfl) ?_
    refine QSeq.nil (t' := [_]) rfl ?_
    obtain rfl := HA0.out
    clear HA0
    simp only [pz, Act.put, List.setIfInBounds_toArray, List.set_cons_zero, List.set_cons_succ]
    go_wp2
    go_ret
    exact ⟨ret_bool (eqb_ne fun e => hl (by rw [e])).symm, HM0.out⟩
  · skip
    go_upto_region 1 with (fail)
    refine wp_region_U 42 [6, 7, 8, 9, 10] [0, 1, 2, 3, 4] (fun a0 HA0 => ?_)
    have oe0 := ev HA0 0 rfl
    have oe1 := ev HA0 1 rfl
    refine QSeq.pure rfl _ (fun E => ex_move rfl (E.v oe0)) ?_
    refine QSeq.pure rfl (.int .i64 l.length) (fun E => ex_lenS rfl (E.d 0 0) Try.underlying58) ?_
    refine QSeq.pure rfl _ (fun E => ex_move rfl (E.v oe1)) ?_
    refine QSeq.pure rfl (.int .i64 m.length) (fun E => ex_lenS rfl (E.d 2 0) Try.underlying58) ?_
    refine QSeq.pure rfl (.bool false) (fun E => ex_binE rfl (E.d 1 2) (E.d 3 0) (guard_ints _ _ _ _ _ _) (run_neq_i _ _ _ Try.underlying3) (congrArg Value.bool (ne_ff (by omega)))) ?_
    refine QSeq.nil (t' := [_, _, _, _, _]) rfl ?_
    obtain rfl := HA0.out
    clear HA0 oe0 oe1
    simp only [pz, Act.put, List.setIfInBounds_toArray, List.set_cons_zero, List.set_cons_succ]
    go_upto_region 3 with (fail)
    refine wp_region_U 42 [11, 12, 13] [0, 1, 2] (fun a0 HA0 => ?_)
    have oe0 := ev HA0 0 rfl
    refine QSeq.pure rfl _ (fun E => ex_move rfl (E.v oe0)) ?_
    refine QSeq.pure rfl (.int .i64 l.length) (fun E => ex_lenS rfl (E.d 0 0) Try.underlying58) ?_
    refine QSeq.pure rfl (.int .i64 0) (fun E => ex_move rfl rfl) ?_
    refine QSeq.nil (t' := [_, _, _]) rfl ?_
    obtain rfl := HA0.out
    clear HA0 oe0
    simp only [pz, Act.put, List.setIfInBounds_toArray, List.set_cons_zero, List.set_cons_succ]
    have HLE := Lib.hid hl
    clear hl
    go_wp2
    go_loopw [13, 5] (fun ti t5 wr => ∃ k : Nat, ti = .int .i64 (k : Int) ∧ k ≤ l.length ∧ l.take k = m.take k ∧ w.heap.size ≤ wr.heap.size ∧ RdS TbR R wr (.slice ao l.length cap) l ∧ RdS TbR R2 wr (.slice bo m.length bcap) m ∧ Mod (fun _ => False) w wr) (fun ti t5 _ => l.length - (intOf ti).toNat)
    case atStart => exact ⟨0, rfl, Nat.zero_le _, rfl, Nat.le_refl _, HS.out, HT.out, HM0.out⟩
    case round =>
      obtain ⟨k, rfl, hk, htk, hz, hs, ht, hm⟩ := hrel
      obtain ⟨wl, rfl⟩ : ∃ x, x = wr := ⟨_, rfl⟩
      have HS2 := Lib.hid hs
      have HT2 := Lib.hid ht
      have HML := Lib.hid hm
      have HTK := Lib.hid htk
      clear hs ht hm htk HS HT HM0
      by_cases hlt : k < l.length
      · have hlt2 : k < m.length := by have := HLE.out; omega
        go_upto_region 4 with (fail)
        refine wp_region_U 42 [14] [0] (fun a0 HA0 => ?_)
        have oe12 := ev HA0 12 rfl
        have oe13 := ev HA0 13 rfl
        refine QSeq.pure rfl (.bool true) (fun E => ex_binE rfl (E.v oe13) (E.v oe12) (guard_ints _ _ _ _ _ _) (run_lss_i _ _ _ Try.underlying3) (congrArg Value.bool (decide_eq_true (by omega)))) ?_
        refine QSeq.nil (t' := [_]) rfl ?_
        obtain rfl := HA0.out
        clear HA0 oe12 oe13
        simp only [pz, Act.put, List.setIfInBounds_toArray, List.set_cons_zero, List.set_cons_succ]
        go_upto_region 5 with (fail)
        refine wp_region_U 42 [15, 5] [0, 1] (fun a0 HA0 => ?_)
        have oe13 := ev HA0 13 rfl
        refine QSeq.pure rfl _ (fun E => ex_move rfl (E.v oe13)) ?_
        refine QSeq.pure rfl _ (fun E => ex_assign rfl (E.d 0 0)) ?_
        refine QSeq.nil (t' := [_, _]) rfl ?_
        obtain rfl := HA0.out
        clear HA0 oe13
        simp only [pz, Act.put, List.setIfInBounds_toArray, List.set_cons_zero, List.set_cons_succ]
        have hat := HS2.out.at hlt
        obtain ⟨g1, o1, c1, eao, hrg, hrd, hcs⟩ := hat
        subst eao
        obtain ⟨x, hx⟩ : ∃ z, z = l[k] := ⟨_, rfl⟩
        rw [← hx] at hrd
        have HX1 := Lib.hid hx
        have hcl : c1.length = 2 := TbR.len hrd
        have HCL1 := Lib.hid hcl
        have HAT1 := hid (show CellsAt R wl g1 (o1 + k * 2) c1 from ⟨hrg, hcs⟩)
        have HRD1 := Lib.hid hrd
        clear hcl hcs hrd hrg hx
        have hat := HT2.out.at hlt2
        obtain ⟨g2, o2, c2, eao, hrg, hrd, hcs⟩ := hat
        subst eao
        obtain ⟨y, hy⟩ : ∃ z, z = m[k] := ⟨_, rfl⟩
        rw [← hy] at hrd
        have HX2 := Lib.hid hy
        have hcl : c2.length = 2 := TbR.len hrd
        have HCL2 := Lib.hid hcl
        have HAT2 := hid (show CellsAt R2 wl g2 (o2 + k * 2) c2 from ⟨hrg, hcs⟩)
        have HRD2 := Lib.hid hrd
        clear hcl hcs hrd hrg hy
        obtain ⟨b, hb⟩ : ∃ b, b = eqb x y := ⟨_, rfl⟩
        have HB := Lib.hid hb
        clear hb
        obtain ⟨v_l1, rfl, hok1, hsl1⟩ := HRD1.out
        obtain ⟨al1, kl1, rfl⟩ := hsl1.shape
        have HSL1 := Lib.hid hsl1
        clear hok1 hsl1
        clear HRD1
        obtain ⟨v_l2, rfl, hok2, hsl2⟩ := HRD2.out
        obtain ⟨al2, kl2, rfl⟩ := hsl2.shape
        have HSL2 := Lib.hid hsl2
        clear hok2 hsl2
        clear HRD2
        go_upto_region 6 with (fail)
        generalize ha0 : Act.mk _ _ = a0
        have oe0 : a0.eval (.tmp 0) = .slice (some ⟨g1, o1, none⟩) l.length cap := by rw [← ha0]; rfl
        have oe1 : a0.eval (.tmp 1) = .slice (some ⟨g2, o2, none⟩) m.length bcap := by rw [← ha0]; rfl
        have oe5 : a0.eval (.tmp 5) = .int .i64 ((k : Nat) : Int) := by rw [← ha0]; rfl
        have hsz0 : a0.tmps.size = 42 := by rw [← ha0]; rfl
        have HA0 := hid ha0
        clear ha0
        refine wp_region_Q0 42 hsz0 [16, 17, 18, 19, 20, 21, 22, 23, 24, 25, 26, 27, 28, 29, 30, 31, 32, 33, 34, 35, 36, 37, 38, 39, 40] [qi (.slice (some ⟨g1, o1, none⟩) l.length cap), qi (.int .i64 ((k : Nat) : Int)), qi (.pointer (some ⟨g1, o1 + k * 2, none⟩)), qi (.pointer (some ⟨g1, o1 + k * 2, none⟩)), qi (.int .i64 x.ix), qi (.slice (some ⟨g2, o2, none⟩) m.length bcap), qi (.int .i64 ((k : Nat) : Int)), qi (.pointer (some ⟨g2, o2 + k * 2, none⟩)), qi (.pointer (some ⟨g2, o2 + k * 2, none⟩)), qi (.int .i64 y.ix), qi (.bool (!(x.ix == y.ix))), qi (.bool (!(x.ix == y.ix))), qc (!(!(x.ix == y.ix))) (qi (.slice (some ⟨g1, o1, none⟩) l.length cap)), qc (!(!(x.ix == y.ix))) (qi (.int .i64 ((k : Nat) : Int))), qc (!(!(x.ix == y.ix))) (qi (.pointer (some ⟨g1, o1 + k * 2, none⟩))), qc (!(!(x.ix == y.ix))) (qi (.pointer (some ⟨g1, o1 + k * 2 + 1, none⟩))), qc (!(!(x.ix == y.ix))) (qi (.slice al1 x.l.length kl1)), qc (!(!(x.ix == y.ix))) (qi (.slice (some ⟨g2, o2, none⟩) m.length bcap)), qc (!(!(x.ix == y.ix))) (qi (.int .i64 ((k : Nat) : Int))), qc (!(!(x.ix == y.ix))) (qi (.pointer (some ⟨g2, o2 + k * 2, none⟩))), qc (!(!(x.ix == y.ix))) (qi (.pointer (some ⟨g2, o2 + k * 2 + 1, none⟩))), qc (!(!(x.ix == y.ix))) (qi (.slice al2 y.l.length kl2)), qc (!(!(x.ix == y.ix))) (qi (.bool (eqb x.l y.l))), qc (!(!(x.ix == y.ix))) (qi (.bool (!(eqb x.l y.l)))), qi (.bool ((!(x.ix == y.ix)) || (!(eqb x.l y.l))))] ⟨qi_stable, qi_stable, qi_stable, qi_stable, qi_stable, qi_stable, qi_stable, qi_stable, qi_stable, qi_stable, qi_stable, qi_stable, (qc_stable qi_stable), (qc_stable qi_stable), (qc_stable qi_stable), (qc_stable qi_stable), (qc_stable qi_stable), (qc_stable qi_stable), (qc_stable qi_stable), (qc_stable qi_stable), (qc_stable qi_stable), (qc_stable qi_stable), (qc_stable qi_stable), (qc_stable qi_stable), qi_stable, trivial⟩ [] ⟨?_, ?_, ?_, ?_, ?_, ?_, ?_, ?_, ?_, ?_, ?_, ?_, ?_, ?_, ?_, ?_, ?_, ?_, ?_, ?_, ?_, ?_, ?_, ?_, ?_, trivial⟩ ?_
        · exact stq (fun E => ex_move rfl (E.v oe0))
        · exact stq (fun E => ex_move rfl (E.v oe5))
        · exact stq (fun E => ex_idxS (i := k) (s := 2) rfl Try.underlying58 (by kernel_rfl) (E.d 0) (E.d 1) (by first | exact hlt | exact hlt2))
        · exact stq (fun E => ex_field rfl Try.underlying90 rfl (by kernel_rfl) (E.d 2))
        · exact stq (fun E => ex_load1 rfl Try.underlying3 rfl (E.d 3) ((HAT1.out.mod E.m.old (by intro k h1 h2; have hb := HBR.out k h1; omega)).2 0 _ rfl))
        · exact stq (fun E => ex_move rfl (E.v oe1))
        · exact stq (fun E => ex_move rfl (E.v oe5))
        · exact stq (fun E => ex_idxS (i := k) (s := 2) rfl Try.underlying58 (by kernel_rfl) (E.d 5) (E.d 6) (by first | exact hlt | exact hlt2))
        · exact stq (fun E => ex_field rfl Try.underlying90 rfl (by kernel_rfl) (E.d 7))
        · exact stq (fun E => ex_load1 rfl Try.underlying3 rfl (E.d 8) ((HAT2.out.mod E.m.old (by intro k h1 h2; have hb := HBT.out k h1; omega)).2 0 _ rfl))
        · exact stq (fun E => ex_bin rfl (E.d 4) (E.d 9) (guard_ints _ _ _ _ _ _) (run_neq_i _ _ _ Try.underlying3))
        · exact stq (fun E => ex_move rfl (E.d 10))
        · refine stepq_env rfl rfl rfl fun _ _ _ _ _ _ _ hout hsz hd _ _ => ?_
          have h11 := hd ⟨11, .guard⟩ (by simp) rfl _ rfl
          refine qe_guard rfl (b := (!(!(x.ix == y.ix)))) ((wanted_of rfl rfl (hsz 27 (by decide)) h11).trans (by simp)) rfl (fun hb l' hl' => ?_)
          have hb0 := hb
          have hb : (!(x.ix == y.ix)) = false := by simpa using hb
          refine qe_run rfl ((wanted_of rfl rfl (hsz 27 (by decide)) h11).trans (by rw [hb]; rfl)) (ex_move rfl ((hout 0 (by decide)).trans oe0)) QE.refl ?_
          rw [hl']; rfl
        · refine stepq_env rfl rfl rfl fun _ _ _ _ _ _ _ hout hsz hd _ _ => ?_
          have h11 := hd ⟨11, .guard⟩ (by simp) rfl _ rfl
          refine qe_guard rfl (b := (!(!(x.ix == y.ix)))) ((wanted_of rfl rfl (hsz 27 (by decide)) h11).trans (by simp)) rfl (fun hb l' hl' => ?_)
          have hb0 := hb
          have hb : (!(x.ix == y.ix)) = false := by simpa using hb
          refine qe_run rfl ((wanted_of rfl rfl (hsz 27 (by decide)) h11).trans (by rw [hb]; rfl)) (ex_move rfl ((hout 5 (by decide)).trans oe5)) QE.refl ?_
          rw [hl']; rfl
        · refine stepq_env rfl rfl rfl fun _ _ _ _ _ _ _ _ hsz hd _ _ => ?_
          have h11 := hd ⟨11, .guard⟩ (by simp) rfl _ rfl
          have h12 := hd ⟨12, .data⟩ (by simp) rfl _ rfl
          have h13 := hd ⟨13, .data⟩ (by simp) rfl _ rfl
          refine qe_guard rfl (b := (!(!(x.ix == y.ix)))) ((wanted_of rfl rfl (hsz 27 (by decide)) h11).trans (by simp)) rfl (fun hb l' hl' => ?_)
          have hb0 := hb
          have hb : (!(x.ix == y.ix)) = false := by simpa using hb
          refine qe_run rfl ((wanted_of rfl rfl (hsz 27 (by decide)) h11).trans (by rw [hb]; rfl)) (ex_idxS (i := k) (s := 2) rfl Try.underlying58 (by kernel_rfl) (h12.1 hb0) (h13.1 hb0) (by first | exact hlt | exact hlt2)) QE.refl ?_
          rw [hl']; rfl
        · refine stepq_env rfl rfl rfl fun _ _ _ _ _ _ _ _ hsz hd _ _ => ?_
          have h11 := hd ⟨11, .guard⟩ (by simp) rfl _ rfl
          have h14 := hd ⟨14, .data⟩ (by simp) rfl _ rfl
          refine qe_guard rfl (b := (!(!(x.ix == y.ix)))) ((wanted_of rfl rfl (hsz 27 (by decide)) h11).trans (by simp)) rfl (fun hb l' hl' => ?_)
          have hb0 := hb
          have hb : (!(x.ix == y.ix)) = false := by simpa using hb
          refine qe_run rfl ((wanted_of rfl rfl (hsz 27 (by decide)) h11).trans (by rw [hb]; rfl)) (ex_field rfl Try.underlying90 rfl (by kernel_rfl) (h14.1 hb0)) QE.refl ?_
          rw [hl']; rfl
        · refine stepq_env rfl rfl rfl fun _ _ _ _ _ hm _ _ hsz hd _ _ => ?_
          have h11 := hd ⟨11, .guard⟩ (by simp) rfl _ rfl
          have h15 := hd ⟨15, .data⟩ (by simp) rfl _ rfl
          refine qe_guard rfl (b := (!(!(x.ix == y.ix)))) ((wanted_of rfl rfl (hsz 27 (by decide)) h11).trans (by simp)) rfl (fun hb l' hl' => ?_)
          have hb0 := hb
          have hb : (!(x.ix == y.ix)) = false := by simpa using hb
          refine qe_run rfl ((wanted_of rfl rfl (hsz 27 (by decide)) h11).trans (by rw [hb]; rfl)) (ex_load1 rfl Try.underlying88 rfl (h15.1 hb0) ((HAT1.out.mod hm.old (by intro k h1 h2; have hb := HBR.out k h1; omega)).2 1 _ rfl)) QE.refl ?_
          rw [hl']; rfl
        · refine stepq_env rfl rfl rfl fun _ _ _ _ _ _ _ hout hsz hd _ _ => ?_
          have h11 := hd ⟨11, .guard⟩ (by simp) rfl _ rfl
          refine qe_guard rfl (b := (!(!(x.ix == y.ix)))) ((wanted_of rfl rfl (hsz 27 (by decide)) h11).trans (by simp)) rfl (fun hb l' hl' => ?_)
          have hb0 := hb
          have hb : (!(x.ix == y.ix)) = false := by simpa using hb
          refine qe_run rfl ((wanted_of rfl rfl (hsz 27 (by decide)) h11).trans (by rw [hb]; rfl)) (ex_move rfl ((hout 1 (by decide)).trans oe1)) QE.refl ?_
          rw [hl']; rfl
        · refine stepq_env rfl rfl rfl fun _ _ _ _ _ _ _ hout hsz hd _ _ => ?_
          have h11 := hd ⟨11, .guard⟩ (by simp) rfl _ rfl
          refine qe_guard rfl (b := (!(!(x.ix == y.ix)))) ((wanted_of rfl rfl (hsz 27 (by decide)) h11).trans (by simp)) rfl (fun hb l' hl' => ?_)
          have hb0 := hb
          have hb : (!(x.ix == y.ix)) = false := by simpa using hb
          refine qe_run rfl ((wanted_of rfl rfl (hsz 27 (by decide)) h11).trans (by rw [hb]; rfl)) (ex_move rfl ((hout 5 (by decide)).trans oe5)) QE.refl ?_
          rw [hl']; rfl
        · refine stepq_env rfl rfl rfl fun _ _ _ _ _ _ _ _ hsz hd _ _ => ?_
          have h11 := hd ⟨11, .guard⟩ (by simp) rfl _ rfl
          have h17 := hd ⟨17, .data⟩ (by simp) rfl _ rfl
          have h18 := hd ⟨18, .data⟩ (by simp) rfl _ rfl
          refine qe_guard rfl (b := (!(!(x.ix == y.ix)))) ((wanted_of rfl rfl (hsz 27 (by decide)) h11).trans (by simp)) rfl (fun hb l' hl' => ?_)
          have hb0 := hb
          have hb : (!(x.ix == y.ix)) = false := by simpa using hb
          refine qe_run rfl ((wanted_of rfl rfl (hsz 27 (by decide)) h11).trans (by rw [hb]; rfl)) (ex_idxS (i := k) (s := 2) rfl Try.underlying58 (by kernel_rfl) (h17.1 hb0) (h18.1 hb0) (by first | exact hlt | exact hlt2)) QE.refl ?_
          rw [hl']; rfl
        · refine stepq_env rfl rfl rfl fun _ _ _ _ _ _ _ _ hsz hd _ _ => ?_
          have h11 := hd ⟨11, .guard⟩ (by simp) rfl _ rfl
          have h19 := hd ⟨19, .data⟩ (by simp) rfl _ rfl
          refine qe_guard rfl (b := (!(!(x.ix == y.ix)))) ((wanted_of rfl rfl (hsz 27 (by decide)) h11).trans (by simp)) rfl (fun hb l' hl' => ?_)
          have hb0 := hb
          have hb : (!(x.ix == y.ix)) = false := by simpa using hb
          refine qe_run rfl ((wanted_of rfl rfl (hsz 27 (by decide)) h11).trans (by rw [hb]; rfl)) (ex_field rfl Try.underlying90 rfl (by kernel_rfl) (h19.1 hb0)) QE.refl ?_
          rw [hl']; rfl
        · refine stepq_env rfl rfl rfl fun _ _ _ _ _ hm _ _ hsz hd _ _ => ?_
          have h11 := hd ⟨11, .guard⟩ (by simp) rfl _ rfl
          have h20 := hd ⟨20, .data⟩ (by simp) rfl _ rfl
          refine qe_guard rfl (b := (!(!(x.ix == y.ix)))) ((wanted_of rfl rfl (hsz 27 (by decide)) h11).trans (by simp)) rfl (fun hb l' hl' => ?_)
          have hb0 := hb
          have hb : (!(x.ix == y.ix)) = false := by simpa using hb
          refine qe_run rfl ((wanted_of rfl rfl (hsz 27 (by decide)) h11).trans (by rw [hb]; rfl)) (ex_load1 rfl Try.underlying88 rfl (h20.1 hb0) ((HAT2.out.mod hm.old (by intro k h1 h2; have hb := HBT.out k h1; omega)).2 1 _ rfl)) QE.refl ?_
          rw [hl']; rfl
        · refine stepq_env rfl rfl rfl fun _ _ _ _ _ hm _ _ hsz hd _ _ => ?_
          have h11 := hd ⟨11, .chain⟩ (by simp) rfl _ rfl
          have h16 := hd ⟨16, .data⟩ (by simp) rfl _ rfl
          have h21 := hd ⟨21, .data⟩ (by simp) rfl _ rfl
          refine qe_guard rfl (b := (!(!(x.ix == y.ix)))) ((wanted_of rfl rfl (hsz 27 (by decide)) h11).trans (by simp)) rfl (fun hb l' hl' => ?_)
          have hb0 := hb
          have hb : (!(x.ix == y.ix)) = false := by simpa using hb
          refine qe_callF (args := #[.slice al1 x.l.length kl1, .slice al2 y.l.length kl2]) rfl ((wanted_of rfl rfl (hsz 27 (by decide)) h11).trans (by rw [hb]; rfl)) rfl Try.func122 (args2 (h16.1 hb0) (h21.1 hb0)) (EqL_Dn _ _ _ _ _ _ _ (HSL1.out.mod hm.old (by intro k h1 h2; have hb := HBR.out k h1; omega)) (HSL2.out.mod hm.old (by intro k h1 h2; have hb := HBT.out k h1; omega)) (by intro k h1; have hb := HBR.out k h1; (try have := hm.size); omega) (by intro k h1; have hb := HBT.out k h1; (try have := hm.size); omega)) ?_
          rintro e w2 ⟨rfl, hm2⟩
          exact ⟨_, rfl, QE.still hm2, (by rw [hl']; rfl)⟩
        · refine stepq_env rfl rfl rfl fun _ _ _ _ _ _ _ _ hsz hd _ _ => ?_
          have h11 := hd ⟨11, .guard⟩ (by simp) rfl _ rfl
          have h22 := hd ⟨22, .data⟩ (by simp) rfl _ rfl
          refine qe_guard rfl (b := (!(!(x.ix == y.ix)))) ((wanted_of rfl rfl (hsz 27 (by decide)) h11).trans (by simp)) rfl (fun hb l' hl' => ?_)
          have hb0 := hb
          have hb : (!(x.ix == y.ix)) = false := by simpa using hb
          refine qe_run rfl ((wanted_of rfl rfl (hsz 27 (by decide)) h11).trans (by rw [hb]; rfl)) (ex_not rfl (h22.1 hb0)) QE.refl ?_
          rw [hl']; rfl
        · exact stq (fun E => ex_pickE rfl (E.d 11) rfl rfl (or_val fun hb => (E.d 23).1 (by rw [hb]; rfl)))
        intro u6_0 hr
        have zu6_0 := hr.size
        have Cx1 := hid (hr.new (S := (fun _ => False)))
        clear hr
        refine QChain.nil fun vs hl hzz hrows hne => ?_
        obtain ⟨Z, hYZ, hZb, hV⟩ := hzz
        have f0 := fvi hV hl 0
        have f1 := fvi hV hl 1
        have f5 := fvi hV hl 5
        have f6 := fvi hV hl 6
        have f11 := fvi hV hl 11
        have f24 := fvi hV hl 24
        rw [show vs = [gw vs 0, gw vs 1, gw vs 2, gw vs 3, gw vs 4, gw vs 5, gw vs 6, gw vs 7, gw vs 8, gw vs 9, gw vs 10, gw vs 11, gw vs 12, gw vs 13, gw vs 14, gw vs 15, gw vs 16, gw vs 17, gw vs 18, gw vs 19, gw vs 20, gw vs 21, gw vs 22, gw vs 23, gw vs 24] from (gw_eta hl).trans rfl]
        have ha0 := HA0.out
        subst ha0
        clear HA0 hV hYZ hZb hsz0 hrows hne oe0 oe1 oe5
        simp only [putAll, Act.put, List.setIfInBounds_toArray, List.set_cons_zero, List.set_cons_succ, f0, f1, f5, f6, f11, f24]
        clear hl f0 f1 f5 f6 f11 f24
        rw [tb_eqb, ← HB.out]
        cases b with
        | false =>
          go_upto_region 7 with (fail)
          refine wp_region_U 42 [4] [0] (fun a0 HA0 => ?_)
          refine QSeq.pure rfl (.bool false) (fun E => ex_assign rfl rfl) ?_
          refine QSeq.nil (t' := [_]) rfl ?_
          obtain rfl := HA0.out
          clear HA0
          simp only [pz, Act.put, List.setIfInBounds_toArray, List.set_cons_zero, List.set_cons_succ]
          go_wp2
          go_ret
          exact ⟨ret_bool (take_ne hlt hlt2 (fun e => by have h := HB.out; rw [HX1.out, HX2.out, e, eqb_rfl] at h; cases h)).symm, (HML.out.trans Cx1.out (fun _ _ h => h.elim))⟩
        | true =>
          go_upto_region 8 with (fail)
          refine wp_region_U 42 [41, 13] [0, 1] (fun a0 HA0 => ?_)
          have oe13 := ev HA0 13 rfl
          refine QSeq.pure rfl (.int .i64 (((k : Nat) : Int) + 1)) (fun E => ex_binE rfl (E.y 1 oe13) rfl (guard_ints _ _ _ _ _ _) (run_add_i _ _ Try.underlying3) (congrArg (Value.int .i64) (IntWalk.i64_in _ (by omega)))) ?_
          refine QSeq.pure rfl _ (fun E => ex_move rfl (E.d 0 0)) ?_
          refine QSeq.nil (t' := [_, _]) rfl ?_
          obtain rfl := HA0.out
          clear HA0 oe13
          simp only [pz, Act.put, List.setIfInBounds_toArray, List.set_cons_zero, List.set_cons_succ]
          go_wp2
          go_roundw
          case rel => exact ⟨k + 1, by go_num, by omega, take_succ2 hlt hlt2 HTK.out (by have h := eqb_iff.1 HB.out.symm; rw [HX1.out, HX2.out] at h; exact h), by omega, (HS2.out.mod Cx1.out (fun _ _ h => h)), (HT2.out.mod Cx1.out (fun _ _ h => h)), (HML.out.trans Cx1.out (fun _ _ h => h.elim))⟩
          case measure => simp [intOf] <;> omega
      · skip
        go_upto_region 4 with (fail)
        refine wp_region_U 42 [14] [0] (fun a0 HA0 => ?_)
        have oe12 := ev HA0 12 rfl
        have oe13 := ev HA0 13 rfl
        refine QSeq.pure rfl (.bool false) (fun E => ex_binE rfl (E.v oe13) (E.v oe12) (guard_ints _ _ _ _ _ _) (run_lss_i _ _ _ Try.underlying3) (congrArg Value.bool (decide_eq_false (by omega)))) ?_
        refine QSeq.nil (t' := [_]) rfl ?_
        obtain rfl := HA0.out
        clear HA0 oe12 oe13
        simp only [pz, Act.put, List.setIfInBounds_toArray, List.set_cons_zero, List.set_cons_succ]
        go_upto_region 9 with (fail)
        refine wp_region_U 42 [4] [0] (fun a0 HA0 => ?_)
        refine QSeq.pure rfl (.bool true) (fun E => ex_assign rfl rfl) ?_
        refine QSeq.nil (t' := [_]) rfl ?_
        obtain rfl := HA0.out
        clear HA0
        simp only [pz, Act.put, List.setIfInBounds_toArray, List.set_cons_zero, List.set_cons_succ]
        go_wp2
        go_ret
        exact ⟨ret_bool (take_all (by omega) (by have := HLE.out; omega) HTK.out).symm, HML.out⟩
set_option maxHeartbeats 8000000 in
theorem Eq_Ba : Eqs BaR 36 := by
  intro R R2 cs ds x y w hx hy hB hB2
  obtain ⟨vx_ps, vx_os, vx_ts, rfl, hokx, hx_ps, hx_os, hx_ts⟩ := hx
  obtain ⟨ax_ps, kx_ps, rfl⟩ := hx_ps.shape
  have Hx_ps := Lib.hid hx_ps
  clear hx_ps
  obtain ⟨ax_os, kx_os, rfl⟩ := hx_os.shape
  have Hx_os := Lib.hid hx_os
  clear hx_os
  obtain ⟨ax_ts, kx_ts, rfl⟩ := hx_ts.shape
  have Hx_ts := Lib.hid hx_ts
  clear hx_ts
  have HOKx := Lib.hid hokx
  clear hokx
  obtain ⟨vy_ps, vy_os, vy_ts, rfl, hoky, hy_ps, hy_os, hy_ts⟩ := hy
  obtain ⟨ay_ps, ky_ps, rfl⟩ := hy_ps.shape
  have Hy_ps := Lib.hid hy_ps
  clear hy_ps
  obtain ⟨ay_os, ky_os, rfl⟩ := hy_os.shape
  have Hy_os := Lib.hid hy_os
  clear hy_os
  obtain ⟨ay_ts, ky_ts, rfl⟩ := hy_ts.shape
  have Hy_ts := Lib.hid hy_ts
  clear hy_ts
  have HOKy := Lib.hid hoky
  clear hoky
  have HBR := Lib.hid hB
  have HBT := Lib.hid hB2
  clear hB hB2
  go_enter Try.func36, Try.ntmps36
  go_upto_region 1 with (fail)
  obtain ⟨w1, hw1⟩ : ∃ zz, zz = ((w.alloc (.cells (x.cells (.slice ax_ps x.ps.length kx_ps) (.slice ax_os x.os.length kx_os) (.slice ax_ts x.ts.length kx_ts) : List Value).toArray 60)).alloc (.cells (y.cells (.slice ay_ps y.ps.length ky_ps) (.slice ay_os y.os.length ky_os) (.slice ay_ts y.ts.length ky_ts) : List Value).toArray 60)) := ⟨_, rfl⟩
  change Code.wp _ _ _ _ ((w.alloc (.cells (x.cells (.slice ax_ps x.ps.length kx_ps) (.slice ax_os x.os.length kx_os) (.slice ax_ts x.ts.length kx_ts) : List Value).toArray 60)).alloc (.cells (y.cells (.slice ay_ps y.ps.length ky_ps) (.slice ay_os y.os.length ky_os) (.slice ay_ts y.ts.length ky_ts) : List Value).toArray 60))
  rw [← hw1]
  have HB2 := hid (show Cs w1 (w.heap.size) (x.cells (.slice ax_ps x.ps.length kx_ps) (.slice ax_os x.os.length kx_os) (.slice ax_ts x.ts.length kx_ts) : List Value).toArray 60 by rw [hw1]; exact (Cs.new _ _ _).alloc _)
  have HB3 := hid (show Cs w1 (w.heap.size + 1) (y.cells (.slice ay_ps y.ps.length ky_ps) (.slice ay_os y.os.length ky_os) (.slice ay_ts y.ts.length ky_ts) : List Value).toArray 60 by rw [hw1]; exact Cs_newN _ _ _ (by simp))
  have hm : Mod (fun _ => False) w w1 := by rw [hw1]; exact ((Mod.refl _ _).alloc _).alloc _
  have HM0 := hid (show Mod (fun _ => False) w w1 from hm.mono (fun _ _ h => h.elim))
  have hs1 : w1.heap.size = w.heap.size + 2 := by rw [hw1]; simp
  have Hx1 := hid (Hx_ps.out.mod hm (fun _ _ h => h))
  clear Hx_ps
  have Hx2 := hid (Hx_os.out.mod hm (fun _ _ h => h))
  clear Hx_os
  have Hx3 := hid (Hx_ts.out.mod hm (fun _ _ h => h))
  clear Hx_ts
  have Hx4 := hid (Hy_ps.out.mod hm (fun _ _ h => h))
  clear Hy_ps
  have Hx5 := hid (Hy_os.out.mod hm (fun _ _ h => h))
  clear Hy_os
  have Hx6 := hid (Hy_ts.out.mod hm (fun _ _ h => h))
  clear Hy_ts
  clear hw1 hm
  have hlx : x.ps.length ≤ maxLen := Hx1.out.bd
  have hly : y.ps.length ≤ maxLen := Hx4.out.bd
  rw [maxLen_val] at hlx hly
  go_upto_region 1 with (fail)
  refine wp_region_U 62 [6, 7, 8, 9, 10, 11, 12, 13, 14, 15, 16, 17, 18, 19, 20, 21, 22, 23, 24, 25, 26, 27, 28, 29, 30, 31, 32, 33, 34, 35, 36, 37, 38, 39, 40, 41, 42] [0, 1, 2, 3, 4, 5, 6, 7, 8, 9, 10, 11, 12, 13, 14, 15, 16, 17, 18, 19, 20, 21, 22, 23, 24, 25, 26, 27, 28, 29, 30, 31, 32, 33, 34, 35, 36] (fun a0 HA0 => ?_)
  have oe2 := ev HA0 2 rfl
  have oe3 := ev HA0 3 rfl
  refine QSeq.pure rfl (.pointer (some ⟨w.heap.size, 0, none⟩)) (fun E => ex_field rfl Try.underlying60 rfl (by kernel_rfl) (E.v oe2)) ?_
  refine QSeq.pure rfl _ (fun E => ex_load1 rfl Try.underlying3 rfl (E.d 0 0) (Cs.lit1 HB2.out rfl)) ?_
  refine QSeq.pure rfl (.pointer (some ⟨w.heap.size + 1, 0, none⟩)) (fun E => ex_field rfl Try.underlying60 rfl (by kernel_rfl) (E.v oe3)) ?_
  refine QSeq.pure rfl _ (fun E => ex_load1 rfl Try.underlying3 rfl (E.d 2 0) (Cs.lit1 HB3.out rfl)) ?_
  refine QSeq.pure rfl (.bool (!(x.ep == y.ep))) (fun E => ex_bin rfl (E.d 1 2) (E.d 3 0) (guard_ints _ _ _ _ _ _) (run_neq_i _ _ _ Try.underlying3)) ?_
  refine QSeq.pure rfl _ (fun E => ex_move rfl (E.d 4 0)) ?_
  refine QSeq.may (b := (!(!(x.ep == y.ep)))) rfl (.pointer (some ⟨w.heap.size, 1, none⟩)) (fun E => ((wanted_of rfl rfl (E.sz 11 (by decide)) (E.d 5 0)).trans (beq_f _))) (fun E hb0 => (by have hb : (!(x.ep == y.ep)) = false := (by simpa using hb0); exact ex_field rfl Try.underlying60 rfl (by kernel_rfl) (E.v oe2))) ?_
  intro v1_6 hw
  have hv1_6 := hid hw
  clear hw
  refine QSeq.may (b := (!(!(x.ep == y.ep)))) rfl (.int .u64 (x.tm : Nat)) (fun E => ((wanted_of rfl rfl (E.sz 11 (by decide)) (E.d 5 1)).trans (beq_f _))) (fun E hb0 => (by have hb : (!(x.ep == y.ep)) = false := (by simpa using hb0); exact ex_load1 rfl Try.underlying26 rfl ((E.q 6 0 hv1_6.out).1 hb0) (Cs.lit1 HB2.out rfl))) ?_
  intro v1_7 hw
  have hv1_7 := hid hw
  clear hw
  refine QSeq.may (b := (!(!(x.ep == y.ep)))) rfl (.pointer (some ⟨w.heap.size + 1, 1, none⟩)) (fun E => ((wanted_of rfl rfl (E.sz 11 (by decide)) (E.d 5 2)).trans (beq_f _))) (fun E hb0 => (by have hb : (!(x.ep == y.ep)) = false := (by simpa using hb0); exact ex_field rfl Try.underlying60 rfl (by kernel_rfl) (E.v oe3))) ?_
  intro v1_8 hw
  have hv1_8 := hid hw
  clear hw
  refine QSeq.may (b := (!(!(x.ep == y.ep)))) rfl (.int .u64 (y.tm : Nat)) (fun E => ((wanted_of rfl rfl (E.sz 11 (by decide)) (E.d 5 3)).trans (beq_f _))) (fun E hb0 => (by have hb : (!(x.ep == y.ep)) = false := (by simpa using hb0); exact ex_load1 rfl Try.underlying26 rfl ((E.q 8 0 hv1_8.out).1 hb0) (Cs.lit1 HB3.out rfl))) ?_
  intro v1_9 hw
  have hv1_9 := hid hw
  clear hw
  refine QSeq.may (b := (!(!(x.ep == y.ep)))) rfl (.bool (!(((x.tm : Nat) : Int) == ((y.tm : Nat) : Int)))) (fun E => ((wanted_of rfl rfl (E.sz 11 (by decide)) (E.d 5 4)).trans (beq_f _))) (fun E hb0 => (by have hb : (!(x.ep == y.ep)) = false := (by simpa using hb0); exact ex_bin rfl ((E.q 7 2 hv1_7.out).1 hb0) ((E.q 9 0 hv1_9.out).1 hb0) (guard_ints _ _ _ _ _ _) (run_neq_i _ _ _ Try.underlying26))) ?_
  intro v1_10 hw
  have hv1_10 := hid hw
  clear hw
  refine QSeq.pure rfl (.bool ((!(x.ep == y.ep)) || (!(((x.tm : Nat) : Int) == ((y.tm : Nat) : Int))))) (fun E => ex_pickE rfl (E.d 5 5) rfl rfl (or_val fun hb => (E.q 10 0 hv1_10.out).1 (by rw [hb]; rfl))) ?_
  refine QSeq.pure rfl _ (fun E => ex_move rfl (E.d 11 0)) ?_
  refine QSeq.may (b := (!((!(x.ep == y.ep)) || (!(((x.tm : Nat) : Int) == ((y.tm : Nat) : Int)))))) rfl (.pointer (some ⟨w.heap.size, 2, none⟩)) (fun E => ((wanted_of rfl rfl (E.sz 18 (by decide)) (E.d 12 0)).trans (beq_f _))) (fun E hb0 => (by have hb : ((!(x.ep == y.ep)) || (!(((x.tm : Nat) : Int) == ((y.tm : Nat) : Int)))) = false := (by simpa using hb0); exact ex_field rfl Try.underlying60 rfl (by kernel_rfl) (E.v oe2))) ?_
  intro v1_13 hw
  have hv1_13 := hid hw
  clear hw
  refine QSeq.may (b := (!((!(x.ep == y.ep)) || (!(((x.tm : Nat) : Int) == ((y.tm : Nat) : Int)))))) rfl (.slice ax_ps x.ps.length kx_ps) (fun E => ((wanted_of rfl rfl (E.sz 18 (by decide)) (E.d 12 1)).trans (beq_f _))) (fun E hb0 => (by have hb : ((!(x.ep == y.ep)) || (!(((x.tm : Nat) : Int) == ((y.tm : Nat) : Int)))) = false := (by simpa using hb0); exact ex_load1 rfl Try.underlying56 rfl ((E.q 13 0 hv1_13.out).1 hb0) (Cs.lit1 HB2.out rfl))) ?_
  intro v1_14 hw
  have hv1_14 := hid hw
  clear hw
  refine QSeq.may (b := (!((!(x.ep == y.ep)) || (!(((x.tm : Nat) : Int) == ((y.tm : Nat) : Int)))))) rfl (.int .i64 x.ps.length) (fun E => ((wanted_of rfl rfl (E.sz 18 (by decide)) (E.d 12 2)).trans (beq_f _))) (fun E hb0 => (by have hb : ((!(x.ep == y.ep)) || (!(((x.tm : Nat) : Int) == ((y.tm : Nat) : Int)))) = false := (by simpa using hb0); exact ex_lenS rfl ((E.q 14 0 hv1_14.out).1 hb0) Try.underlying56)) ?_
  intro v1_15 hw
  have hv1_15 := hid hw
  clear hw
  refine QSeq.may (b := (!((!(x.ep == y.ep)) || (!(((x.tm : Nat) : Int) == ((y.tm : Nat) : Int)))))) rfl (.pointer (some ⟨w.heap.size + 1, 2, none⟩)) (fun E => ((wanted_of rfl rfl (E.sz 18 (by decide)) (E.d 12 3)).trans (beq_f _))) (fun E hb0 => (by have hb : ((!(x.ep == y.ep)) || (!(((x.tm : Nat) : Int) == ((y.tm : Nat) : Int)))) = false := (by simpa using hb0); exact ex_field rfl Try.underlying60 rfl (by kernel_rfl) (E.v oe3))) ?_
  intro v1_16 hw
  have hv1_16 := hid hw
  clear hw
  refine QSeq.may (b := (!((!(x.ep == y.ep)) || (!(((x.tm : Nat) : Int) == ((y.tm : Nat) : Int)))))) rfl (.slice ay_ps y.ps.length ky_ps) (fun E => ((wanted_of rfl rfl (E.sz 18 (by decide)) (E.d 12 4)).trans (beq_f _))) (fun E hb0 => (by have hb : ((!(x.ep == y.ep)) || (!(((x.tm : Nat) : Int) == ((y.tm : Nat) : Int)))) = false := (by simpa using hb0); exact ex_load1 rfl Try.underlying56 rfl ((E.q 16 0 hv1_16.out).1 hb0) (Cs.lit1 HB3.out rfl))) ?_
  intro v1_17 hw
  have hv1_17 := hid hw
  clear hw
  refine QSeq.may (b := (!((!(x.ep == y.ep)) || (!(((x.tm : Nat) : Int) == ((y.tm : Nat) : Int)))))) rfl (.int .i64 y.ps.length) (fun E => ((wanted_of rfl rfl (E.sz 18 (by decide)) (E.d 12 5)).trans (beq_f _))) (fun E hb0 => (by have hb : ((!(x.ep == y.ep)) || (!(((x.tm : Nat) : Int) == ((y.tm : Nat) : Int)))) = false := (by simpa using hb0); exact ex_lenS rfl ((E.q 17 0 hv1_17.out).1 hb0) Try.underlying56)) ?_
  intro v1_18 hw
  have hv1_18 := hid hw
  clear hw
  refine QSeq.may (b := (!((!(x.ep == y.ep)) || (!(((x.tm : Nat) : Int) == ((y.tm : Nat) : Int)))))) rfl (.bool (!(((x.ps.length : Nat) : Int) == ((y.ps.length : Nat) : Int)))) (fun E => ((wanted_of rfl rfl (E.sz 18 (by decide)) (E.d 12 6)).trans (beq_f _))) (fun E hb0 => (by have hb : ((!(x.ep == y.ep)) || (!(((x.tm : Nat) : Int) == ((y.tm : Nat) : Int)))) = false := (by simpa using hb0); exact ex_bin rfl ((E.q 15 3 hv1_15.out).1 hb0) ((E.q 18 0 hv1_18.out).1 hb0) (guard_ints _ _ _ _ _ _) (run_neq_i _ _ _ Try.underlying3))) ?_
  intro v1_19 hw
  have hv1_19 := hid hw
  clear hw
  refine QSeq.pure rfl (.bool (((!(x.ep == y.ep)) || (!(((x.tm : Nat) : Int) == ((y.tm : Nat) : Int)))) || (!(((x.ps.length : Nat) : Int) == ((y.ps.length : Nat) : Int))))) (fun E => ex_pickE rfl (E.d 12 7) rfl rfl (or_val fun hb => (E.q 19 0 hv1_19.out).1 (by rw [hb]; rfl))) ?_
  refine QSeq.pure rfl _ (fun E => ex_move rfl (E.d 20 0)) ?_
  refine QSeq.may (b := (!(((!(x.ep == y.ep)) || (!(((x.tm : Nat) : Int) == ((y.tm : Nat) : Int)))) || (!(((x.ps.length : Nat) : Int) == ((y.ps.length : Nat) : Int)))))) rfl (.pointer (some ⟨w.heap.size, 3, none⟩)) (fun E => ((wanted_of rfl rfl (E.sz 27 (by decide)) (E.d 21 0)).trans (beq_f _))) (fun E hb0 => (by have hb : (((!(x.ep == y.ep)) || (!(((x.tm : Nat) : Int) == ((y.tm : Nat) : Int)))) || (!(((x.ps.length : Nat) : Int) == ((y.ps.length : Nat) : Int)))) = false := (by simpa using hb0); exact ex_field rfl Try.underlying60 rfl (by kernel_rfl) (E.v oe2))) ?_
  intro v1_22 hw
  have hv1_22 := hid hw
  clear hw
  refine QSeq.may (b := (!(((!(x.ep == y.ep)) || (!(((x.tm : Nat) : Int) == ((y.tm : Nat) : Int)))) || (!(((x.ps.length : Nat) : Int) == ((y.ps.length : Nat) : Int)))))) rfl (.slice ax_os x.os.length kx_os) (fun E => ((wanted_of rfl rfl (E.sz 27 (by decide)) (E.d 21 1)).trans (beq_f _))) (fun E hb0 => (by have hb : (((!(x.ep == y.ep)) || (!(((x.tm : Nat) : Int) == ((y.tm : Nat) : Int)))) || (!(((x.ps.length : Nat) : Int) == ((y.ps.length : Nat) : Int)))) = false := (by simpa using hb0); exact ex_load1 rfl Try.underlying57 rfl ((E.q 22 0 hv1_22.out).1 hb0) (Cs.lit1 HB2.out rfl))) ?_
  intro v1_23 hw
  have hv1_23 := hid hw
  clear hw
  refine QSeq.may (b := (!(((!(x.ep == y.ep)) || (!(((x.tm : Nat) : Int) == ((y.tm : Nat) : Int)))) || (!(((x.ps.length : Nat) : Int) == ((y.ps.length : Nat) : Int)))))) rfl (.pointer (some ⟨w.heap.size + 1, 3, none⟩)) (fun E => ((wanted_of rfl rfl (E.sz 27 (by decide)) (E.d 21 2)).trans (beq_f _))) (fun E hb0 => (by have hb : (((!(x.ep == y.ep)) || (!(((x.tm : Nat) : Int) == ((y.tm : Nat) : Int)))) || (!(((x.ps.length : Nat) : Int) == ((y.ps.length : Nat) : Int)))) = false := (by simpa using hb0); exact ex_field rfl Try.underlying60 rfl (by kernel_rfl) (E.v oe3))) ?_
  intro v1_24 hw
  have hv1_24 := hid hw
  clear hw
  refine QSeq.may (b := (!(((!(x.ep == y.ep)) || (!(((x.tm : Nat) : Int) == ((y.tm : Nat) : Int)))) || (!(((x.ps.length : Nat) : Int) == ((y.ps.length : Nat) : Int)))))) rfl (.slice ay_os y.os.length ky_os) (fun E => ((wanted_of rfl rfl (E.sz 27 (by decide)) (E.d 21 3)).trans (beq_f _))) (fun E hb0 => (by have hb : (((!(x.ep == y.ep)) || (!(((x.tm : Nat) : Int) == ((y.tm : Nat) : Int)))) || (!(((x.ps.length : Nat) : Int) == ((y.ps.length : Nat) : Int)))) = false := (by simpa using hb0); exact ex_load1 rfl Try.underlying57 rfl ((E.q 24 0 hv1_24.out).1 hb0) (Cs.lit1 HB3.out rfl))) ?_
  intro v1_25 hw
  have hv1_25 := hid hw
  clear hw
  refine QSeq.mayCall (b := (!(((!(x.ep == y.ep)) || (!(((x.tm : Nat) : Int) == ((y.tm : Nat) : Int)))) || (!(((x.ps.length : Nat) : Int) == ((y.ps.length : Nat) : Int)))))) rfl (.bool (eqb x.os y.os)) (args := #[.slice ax_os x.os.length kx_os, .slice ay_os y.os.length ky_os]) (fun E => ((wanted_of rfl rfl (E.sz 27 (by decide)) (E.d 21 4)).trans (beq_f _))) rfl Try.func87 (fun E hb0 => (by have hb : (((!(x.ep == y.ep)) || (!(((x.tm : Nat) : Int) == ((y.tm : Nat) : Int)))) || (!(((x.ps.length : Nat) : Int) == ((y.ps.length : Nat) : Int)))) = false := (by simpa using hb0); exact args2 ((E.q 23 2 hv1_23.out).1 hb0) ((E.q 25 0 hv1_25.out).1 hb0))) (fun hb0 => (by have hb : (((!(x.ep == y.ep)) || (!(((x.tm : Nat) : Int) == ((y.tm : Nat) : Int)))) || (!(((x.ps.length : Nat) : Int) == ((y.ps.length : Nat) : Int)))) = false := (by simpa using hb0); exact EqL_Op _ _ _ _ _ _ _ Hx2.out Hx5.out (by intro k h1; have hb := HBR.out k h1; (try have := hm.size); omega) (by intro k h1; have hb := HBT.out k h1; (try have := hm.size); omega))) ?_
  intro v1_26 u1_26 hw hm
  have hv1_26 := hid hw
  clear hw
  have zu1_26 := hm.size
  have Cx7 := hid (show Mod (fun _ => False) w1 u1_26 from hm)
  clear hm
  refine QSeq.may (b := (!(((!(x.ep == y.ep)) || (!(((x.tm : Nat) : Int) == ((y.tm : Nat) : Int)))) || (!(((x.ps.length : Nat) : Int) == ((y.ps.length : Nat) : Int)))))) rfl (.bool (!(eqb x.os y.os))) (fun E => ((wanted_of rfl rfl (E.sz 27 (by decide)) (E.d 21 5)).trans (beq_f _))) (fun E hb0 => (by have hb : (((!(x.ep == y.ep)) || (!(((x.tm : Nat) : Int) == ((y.tm : Nat) : Int)))) || (!(((x.ps.length : Nat) : Int) == ((y.ps.length : Nat) : Int)))) = false := (by simpa using hb0); exact ex_not rfl ((E.q 26 0 hv1_26.out).1 hb0))) ?_
  intro v1_27 hw
  have hv1_27 := hid hw
  clear hw
  refine QSeq.pure rfl (.bool ((((!(x.ep == y.ep)) || (!(((x.tm : Nat) : Int) == ((y.tm : Nat) : Int)))) || (!(((x.ps.length : Nat) : Int) == ((y.ps.length : Nat) : Int)))) || (!(eqb x.os y.os)))) (fun E => ex_pickE rfl (E.d 21 6) rfl rfl (or_val fun hb => (E.q 27 0 hv1_27.out).1 (by rw [hb]; rfl))) ?_
  refine QSeq.pure rfl _ (fun E => ex_move rfl (E.d 28 0)) ?_
  refine QSeq.may (b := (!((((!(x.ep == y.ep)) || (!(((x.tm : Nat) : Int) == ((y.tm : Nat) : Int)))) || (!(((x.ps.length : Nat) : Int) == ((y.ps.length : Nat) : Int)))) || (!(eqb x.os y.os))))) rfl (.pointer (some ⟨w.heap.size, 4, none⟩)) (fun E => ((wanted_of rfl rfl (E.sz 35 (by decide)) (E.d 29 0)).trans (beq_f _))) (fun E hb0 => (by have hb : ((((!(x.ep == y.ep)) || (!(((x.tm : Nat) : Int) == ((y.tm : Nat) : Int)))) || (!(((x.ps.length : Nat) : Int) == ((y.ps.length : Nat) : Int)))) || (!(eqb x.os y.os))) = false := (by simpa using hb0); exact ex_field rfl Try.underlying60 rfl (by kernel_rfl) (E.v oe2))) ?_
  intro v1_30 hw
  have hv1_30 := hid hw
  clear hw
  refine QSeq.may (b := (!((((!(x.ep == y.ep)) || (!(((x.tm : Nat) : Int) == ((y.tm : Nat) : Int)))) || (!(((x.ps.length : Nat) : Int) == ((y.ps.length : Nat) : Int)))) || (!(eqb x.os y.os))))) rfl (.slice ax_ts x.ts.length kx_ts) (fun E => ((wanted_of rfl rfl (E.sz 35 (by decide)) (E.d 29 1)).trans (beq_f _))) (fun E hb0 => (by have hb : ((((!(x.ep == y.ep)) || (!(((x.tm : Nat) : Int) == ((y.tm : Nat) : Int)))) || (!(((x.ps.length : Nat) : Int) == ((y.ps.length : Nat) : Int)))) || (!(eqb x.os y.os))) = false := (by simpa using hb0); exact ex_load1 rfl Try.underlying58 rfl ((E.q 30 0 hv1_30.out).1 hb0) (Cs.lit1 (HB2.out.mod Cx7.out (fun h => h)) rfl))) ?_
  intro v1_31 hw
  have hv1_31 := hid hw
  clear hw
  refine QSeq.may (b := (!((((!(x.ep == y.ep)) || (!(((x.tm : Nat) : Int) == ((y.tm : Nat) : Int)))) || (!(((x.ps.length : Nat) : Int) == ((y.ps.length : Nat) : Int)))) || (!(eqb x.os y.os))))) rfl (.pointer (some ⟨w.heap.size + 1, 4, none⟩)) (fun E => ((wanted_of rfl rfl (E.sz 35 (by decide)) (E.d 29 2)).trans (beq_f _))) (fun E hb0 => (by have hb : ((((!(x.ep == y.ep)) || (!(((x.tm : Nat) : Int) == ((y.tm : Nat) : Int)))) || (!(((x.ps.length : Nat) : Int) == ((y.ps.length : Nat) : Int)))) || (!(eqb x.os y.os))) = false := (by simpa using hb0); exact ex_field rfl Try.underlying60 rfl (by kernel_rfl) (E.v oe3))) ?_
  intro v1_32 hw
  have hv1_32 := hid hw
  clear hw
  refine QSeq.may (b := (!((((!(x.ep == y.ep)) || (!(((x.tm : Nat) : Int) == ((y.tm : Nat) : Int)))) || (!(((x.ps.length : Nat) : Int) == ((y.ps.length : Nat) : Int)))) || (!(eqb x.os y.os))))) rfl (.slice ay_ts y.ts.length ky_ts) (fun E => ((wanted_of rfl rfl (E.sz 35 (by decide)) (E.d 29 3)).trans (beq_f _))) (fun E hb0 => (by have hb : ((((!(x.ep == y.ep)) || (!(((x.tm : Nat) : Int) == ((y.tm : Nat) : Int)))) || (!(((x.ps.length : Nat) : Int) == ((y.ps.length : Nat) : Int)))) || (!(eqb x.os y.os))) = false := (by simpa using hb0); exact ex_load1 rfl Try.underlying58 rfl ((E.q 32 0 hv1_32.out).1 hb0) (Cs.lit1 (HB3.out.mod Cx7.out (fun h => h)) rfl))) ?_
  intro v1_33 hw
  have hv1_33 := hid hw
  clear hw
  refine QSeq.mayCall (b := (!((((!(x.ep == y.ep)) || (!(((x.tm : Nat) : Int) == ((y.tm : Nat) : Int)))) || (!(((x.ps.length : Nat) : Int) == ((y.ps.length : Nat) : Int)))) || (!(eqb x.os y.os))))) rfl (.bool (eqb x.ts y.ts)) (args := #[.slice ax_ts x.ts.length kx_ts, .slice ay_ts y.ts.length ky_ts]) (fun E => ((wanted_of rfl rfl (E.sz 35 (by decide)) (E.d 29 4)).trans (beq_f _))) rfl Try.func88 (fun E hb0 => (by have hb : ((((!(x.ep == y.ep)) || (!(((x.tm : Nat) : Int) == ((y.tm : Nat) : Int)))) || (!(((x.ps.length : Nat) : Int) == ((y.ps.length : Nat) : Int)))) || (!(eqb x.os y.os))) = false := (by simpa using hb0); exact args2 ((E.q 31 2 hv1_31.out).1 hb0) ((E.q 33 0 hv1_33.out).1 hb0))) (fun hb0 => (by have hb : ((((!(x.ep == y.ep)) || (!(((x.tm : Nat) : Int) == ((y.tm : Nat) : Int)))) || (!(((x.ps.length : Nat) : Int) == ((y.ps.length : Nat) : Int)))) || (!(eqb x.os y.os))) = false := (by simpa using hb0); exact EqL_Tb _ _ _ _ _ _ _ (Hx3.out.mod Cx7.out (fun _ _ h => h)) (Hx6.out.mod Cx7.out (fun _ _ h => h)) (by intro k h1; have hb := HBR.out k h1; (try have := hm.size); omega) (by intro k h1; have hb := HBT.out k h1; (try have := hm.size); omega))) ?_
  intro v1_34 u1_34 hw hm
  have hv1_34 := hid hw
  clear hw
  have zu1_34 := hm.size
  have HMu1_34 := hid hm
  have Cx8 := hid (Cx7.out.goE hm)
  clear hm Cx7
  refine QSeq.may (b := (!((((!(x.ep == y.ep)) || (!(((x.tm : Nat) : Int) == ((y.tm : Nat) : Int)))) || (!(((x.ps.length : Nat) : Int) == ((y.ps.length : Nat) : Int)))) || (!(eqb x.os y.os))))) rfl (.bool (!(eqb x.ts y.ts))) (fun E => ((wanted_of rfl rfl (E.sz 35 (by decide)) (E.d 29 5)).trans (beq_f _))) (fun E hb0 => (by have hb : ((((!(x.ep == y.ep)) || (!(((x.tm : Nat) : Int) == ((y.tm : Nat) : Int)))) || (!(((x.ps.length : Nat) : Int) == ((y.ps.length : Nat) : Int)))) || (!(eqb x.os y.os))) = false := (by simpa using hb0); exact ex_not rfl ((E.q 34 0 hv1_34.out).1 hb0))) ?_
  intro v1_35 hw
  have hv1_35 := hid hw
  clear hw
  refine QSeq.pure rfl (.bool (((((!(x.ep == y.ep)) || (!(((x.tm : Nat) : Int) == ((y.tm : Nat) : Int)))) || (!(((x.ps.length : Nat) : Int) == ((y.ps.length : Nat) : Int)))) || (!(eqb x.os y.os))) || (!(eqb x.ts y.ts)))) (fun E => ex_pickE rfl (E.d 29 6) rfl rfl (or_val fun hb => (E.q 35 0 hv1_35.out).1 (by rw [hb]; rfl))) ?_
  clear HMu1_34 hv1_6 hv1_7 hv1_8 hv1_9 hv1_10 hv1_13 hv1_14 hv1_15 hv1_16 hv1_17 hv1_18 hv1_19 hv1_22 hv1_23 hv1_24 hv1_25 hv1_26 hv1_27 hv1_30 hv1_31 hv1_32 hv1_33 hv1_34 hv1_35
  refine QSeq.nil (t' := [_, _, _, _, _, _, _, _, _, _, _, _, _, _, _, _, _, _, _, _, _, _, _, _, _, _, _, _, _, _, _, _, _, _, _, _, _]) rfl ?_
  obtain rfl := HA0.out
  clear HA0 oe2 oe3
  simp only [pz, Act.put, List.setIfInBounds_toArray, List.set_cons_zero, List.set_cons_succ]
  obtain ⟨b0, hb0⟩ : ∃ b0, b0 = (((((!(x.ep == y.ep)) || (!(((x.tm : Nat) : Int) == ((y.tm : Nat) : Int)))) || (!(((x.ps.length : Nat) : Int) == ((y.ps.length : Nat) : Int)))) || (!(eqb x.os y.os))) || (!(eqb x.ts y.ts))) := ⟨_, rfl⟩
  rw [← hb0]
  cases b0 with
  | true =>
    go_upto_region 2 with (fail)
    refine wp_region_U 62 [4] [0] (fun a0 HA0 => ?_)
    refine QSeq.pure rfl (.bool false) (fun E => ex_assign rfl rfl) ?_
    refine QSeq.nil (t' := [_]) rfl ?_
    obtain rfl := HA0.out
    clear HA0
    simp only [pz, Act.put, List.setIfInBounds_toArray, List.set_cons_zero, List.set_cons_succ]
    go_wp2
    go_ret
    exact ⟨ret_bool (ba_neb x y hb0.symm).symm, (HM0.out.trans Cx8.out (fun _ _ h => h.elim))⟩
  | false =>
    have HEQ := hid (ba_eqb x y hb0.symm)
    have HLE := hid (show x.ps.length = y.ps.length by have h := hb0.symm; simp only [Bool.or_eq_false_iff, Bool.not_eq_false', beq_I, Int.ofNat_inj] at h; exact h.1.1.2)
    clear hb0
    go_upto_region 3 with (fail)
    refine wp_region_U 62 [43, 44, 45, 46] [0, 1, 2, 3] (fun a0 HA0 => ?_)
    have oe2 := ev HA0 2 rfl
    refine QSeq.pure rfl (.pointer (some ⟨w.heap.size, 2, none⟩)) (fun E => ex_field rfl Try.underlying60 rfl (by kernel_rfl) (E.v oe2)) ?_
    refine QSeq.pure rfl _ (fun E => ex_load1 rfl Try.underlying56 rfl (E.d 0 0) (Cs.lit1 (HB2.out.mod Cx8.out (fun h => h)) rfl)) ?_
    refine QSeq.pure rfl (.int .i64 x.ps.length) (fun E => ex_lenS rfl (E.d 1 0) Try.underlying56) ?_
    refine QSeq.pure rfl (.int .i64 0) (fun E => ex_move rfl rfl) ?_
    refine QSeq.nil (t' := [_, _, _, _]) rfl ?_
    obtain rfl := HA0.out
    clear HA0 oe2
    simp only [pz, Act.put, List.setIfInBounds_toArray, List.set_cons_zero, List.set_cons_succ]
    go_wp2
    go_loopw [46, 5] (fun ti t5 wr => ∃ k : Nat, ti = .int .i64 (k : Int) ∧ k ≤ x.ps.length ∧ x.ps.take k = y.ps.take k ∧ u1_34.heap.size ≤ wr.heap.size ∧ RdS PmR R wr (.slice ax_ps x.ps.length kx_ps) x.ps ∧ RdS PmR R2 wr (.slice ay_ps y.ps.length ky_ps) y.ps ∧ Cs wr (w.heap.size) (x.cells (.slice ax_ps x.ps.length kx_ps) (.slice ax_os x.os.length kx_os) (.slice ax_ts x.ts.length kx_ts) : List Value).toArray 60 ∧ Cs wr (w.heap.size + 1) (y.cells (.slice ay_ps y.ps.length ky_ps) (.slice ay_os y.os.length ky_os) (.slice ay_ts y.ts.length ky_ts) : List Value).toArray 60 ∧ Mod (fun _ => False) w wr) (fun ti t5 _ => x.ps.length - (intOf ti).toNat)
    case atStart => exact ⟨0, rfl, Nat.zero_le _, rfl, Nat.le_refl _, (Hx1.out.mod Cx8.out (fun _ _ h => h)), (Hx4.out.mod Cx8.out (fun _ _ h => h)), (HB2.out.mod Cx8.out (fun h => h)), (HB3.out.mod Cx8.out (fun h => h)), (HM0.out.trans Cx8.out (fun _ _ h => h.elim))⟩
    case round =>
      obtain ⟨k, rfl, hk, htk, hz, hs, ht, hb2, hb3, hm⟩ := hrel
      obtain ⟨wl, rfl⟩ : ∃ x, x = wr := ⟨_, rfl⟩
      have HS2 := Lib.hid hs
      have HT2 := Lib.hid ht
      have HML := Lib.hid hm
      have HTK := Lib.hid htk
      have HBX := Lib.hid hb2
      have HBY := Lib.hid hb3
      clear hs ht hm htk hb2 hb3 Hx1 Hx2 Hx3 Hx4 Hx5 Hx6 HB2 HB3 HM0
      by_cases hlt : k < x.ps.length
      · have hlt2 : k < y.ps.length := by have := HLE.out; omega
        go_upto_region 4 with (fail)
        refine wp_region_U 62 [47] [0] (fun a0 HA0 => ?_)
        have oe45 := ev HA0 45 rfl
        have oe46 := ev HA0 46 rfl
        refine QSeq.pure rfl (.bool true) (fun E => ex_binE rfl (E.v oe46) (E.v oe45) (guard_ints _ _ _ _ _ _) (run_lss_i _ _ _ Try.underlying3) (congrArg Value.bool (decide_eq_true (by omega)))) ?_
        refine QSeq.nil (t' := [_]) rfl ?_
        obtain rfl := HA0.out
        clear HA0 oe45 oe46
        simp only [pz, Act.put, List.setIfInBounds_toArray, List.set_cons_zero, List.set_cons_succ]
        go_upto_region 5 with (fail)
        refine wp_region_U 62 [48, 5] [0, 1] (fun a0 HA0 => ?_)
        have oe46 := ev HA0 46 rfl
        refine QSeq.pure rfl _ (fun E => ex_move rfl (E.v oe46)) ?_
        refine QSeq.pure rfl _ (fun E => ex_assign rfl (E.d 0 0)) ?_
        refine QSeq.nil (t' := [_, _]) rfl ?_
        obtain rfl := HA0.out
        clear HA0 oe46
        simp only [pz, Act.put, List.setIfInBounds_toArray, List.set_cons_zero, List.set_cons_succ]
        have hat := HS2.out.at hlt
        obtain ⟨g1, o1, c1, eao, hrg, hrd, hcs⟩ := hat
        subst eao
        obtain ⟨p, hp⟩ : ∃ z, z = x.ps[k] := ⟨_, rfl⟩
        rw [← hp] at hrd
        have HX1 := Lib.hid hp
        have hcl : c1.length = 6 := PmR.len hrd
        have HCL1 := Lib.hid hcl
        have HAT1 := hid (show CellsAt R wl g1 (o1 + k * 6) c1 from ⟨hrg, hcs⟩)
        have HRD1 := Lib.hid hrd
        clear hcl hcs hrd hrg hp
        have hat := HT2.out.at hlt2
        obtain ⟨g2, o2, c2, eao, hrg, hrd, hcs⟩ := hat
        subst eao
        obtain ⟨q, hq⟩ : ∃ z, z = y.ps[k] := ⟨_, rfl⟩
        rw [← hq] at hrd
        have HX2 := Lib.hid hq
        have hcl : c2.length = 6 := PmR.len hrd
        have HCL2 := Lib.hid hcl
        have HAT2 := hid (show CellsAt R2 wl g2 (o2 + k * 6) c2 from ⟨hrg, hcs⟩)
        have HRD2 := Lib.hid hrd
        clear hcl hcs hrd hrg hq
        obtain ⟨b, hb⟩ : ∃ b, b = eqb p q := ⟨_, rfl⟩
        have HB := Lib.hid hb
        clear hb
        go_upto_region 6 with (fail)
        generalize ha0 : Act.mk _ _ = a0
        have oe2 : a0.eval (.tmp 2) = .pointer (some ⟨w.heap.size, 0, none⟩) := by rw [← ha0]; rfl
        have oe3 : a0.eval (.tmp 3) = .pointer (some ⟨w.heap.size + 1, 0, none⟩) := by rw [← ha0]; rfl
        have oe5 : a0.eval (.tmp 5) = .int .i64 ((k : Nat) : Int) := by rw [← ha0]; rfl
        have hsz0 : a0.tmps.size = 62 := by rw [← ha0]; rfl
        have HA0 := hid ha0
        clear ha0
        refine wp_region_Q0 62 hsz0 [49, 50, 51, 52, 53, 54, 55, 56, 57, 58, 59, 60] [qi (.pointer (some ⟨w.heap.size, 2, none⟩)), qi (.slice (some ⟨g1, o1, none⟩) x.ps.length kx_ps), qi (.int .i64 ((k : Nat) : Int)), qi (.pointer (some ⟨g1, o1 + k * 6, none⟩)), qi (.agg c1.toArray), qi (.pointer (some ⟨w.heap.size + 1, 2, none⟩)), qi (.slice (some ⟨g2, o2, none⟩) y.ps.length ky_ps), qi (.int .i64 ((k : Nat) : Int)), qi (.pointer (some ⟨g2, o2 + k * 6, none⟩)), qi (.agg c2.toArray), qi (.bool b), qi (.bool (!b))] ⟨qi_stable, qi_stable, qi_stable, qi_stable, qi_stable, qi_stable, qi_stable, qi_stable, qi_stable, qi_stable, qi_stable, qi_stable, trivial⟩ [10] ⟨?_, ?_, ?_, ?_, ?_, ?_, ?_, ?_, ?_, ?_, ?_, ?_, trivial⟩ ?_
        · exact stq (fun E => ex_field rfl Try.underlying60 rfl (by kernel_rfl) (E.v oe2))
        · exact stq (fun E => ex_load1 rfl Try.underlying56 rfl (E.d 0) (Cs.lit1 (HBX.out.mod E.m.old (by intro h2; omega)) rfl))
        · exact stq (fun E => ex_move rfl (E.v oe5))
        · exact stq (fun E => ex_idxS (i := k) (s := 6) rfl Try.underlying56 (by kernel_rfl) (E.d 1) (E.d 2) (by first | exact hlt | exact hlt2))
        · exact stq (fun E => ex_loadA rfl Try.underlying55 rfl (off := o1 + k * 6) (cs := c1) (by rw [HCL1.out]; kernel_rfl) (E.d 3) (fun j u hu => ((HAT1.out.mod E.m.old (by intro k h1 h2; have hb := HBR.out k h1; omega))).2 j u hu))
        · exact stq (fun E => ex_field rfl Try.underlying60 rfl (by kernel_rfl) (E.v oe3))
        · exact stq (fun E => ex_load1 rfl Try.underlying56 rfl (E.d 5) (Cs.lit1 (HBY.out.mod E.m.old (by intro h2; omega)) rfl))
        · exact stq (fun E => ex_move rfl (E.v oe5))
        · exact stq (fun E => ex_idxS (i := k) (s := 6) rfl Try.underlying56 (by kernel_rfl) (E.d 6) (E.d 7) (by first | exact hlt | exact hlt2))
        · exact stq (fun E => ex_loadA rfl Try.underlying55 rfl (off := o2 + k * 6) (cs := c2) (by rw [HCL2.out]; kernel_rfl) (E.d 8) (fun j u hu => ((HAT2.out.mod E.m.old (by intro k h1 h2; have hb := HBT.out k h1; omega))).2 j u hu))
        · exact stepq_chain rfl
        · exact stq (fun E => ex_not rfl (E.d 10))
        intro u6_0 hr
        have zu6_0 := hr.size
        have Cx9 := hid (hr.new (S := (fun _ => False)))
        clear hr
        refine QChain.go fun Z act E => ?_
        refine qc_callF (args := #[.agg c1.toArray, .agg c2.toArray]) rfl (wanted_none rfl) rfl Try.func33 (args2 (E.d 4) (E.d 9)) (HB.out.symm ▸ Eq_Pm _ _ _ _ _ _ _ (HRD1.out.mod Cx9.out (fun _ _ h => h)) (HRD2.out.mod Cx9.out (fun _ _ h => h)) (by intro k h1; have hb := HBR.out k h1; omega) (by intro k h1; have hb := HBT.out k h1; omega)) ?_
        rintro e u6_1a ⟨rfl, hm⟩
        have zu6_1a := hm.size
        refine ⟨_, rfl, hm.mono (fun _ _ h => h.elim), (fun _ => rfl), ?_⟩
        intro u6_1 hr
        have zu6_1 := hr.size
        have Cx10 := hid (Cx9.out.go hm hr)
        clear Cx9 hm hr Z act E
        refine QChain.nil fun vs hl hzz hrows hne => ?_
        obtain ⟨Z, hYZ, hZb, hV⟩ := hzz
        have f2 := fvi hV hl 2
        have f7 := fvi hV hl 7
        have f10 := fvi hV hl 10
        have f11 := fvi hV hl 11
        rw [show vs = [gw vs 0, gw vs 1, gw vs 2, gw vs 3, gw vs 4, gw vs 5, gw vs 6, gw vs 7, gw vs 8, gw vs 9, gw vs 10, gw vs 11] from (gw_eta hl).trans rfl]
        have ha0 := HA0.out
        subst ha0
        clear HA0 hV hYZ hZb hsz0 hrows hne oe2 oe3 oe5
        simp only [putAll, Act.put, List.setIfInBounds_toArray, List.set_cons_zero, List.set_cons_succ, f2, f7, f10, f11]
        clear hl f2 f7 f10 f11
        cases b with
        | false =>
          go_upto_region 7 with (fail)
          refine wp_region_U 62 [4] [0] (fun a0 HA0 => ?_)
          refine QSeq.pure rfl (.bool false) (fun E => ex_assign rfl rfl) ?_
          refine QSeq.nil (t' := [_]) rfl ?_
          obtain rfl := HA0.out
          clear HA0
          simp only [pz, Act.put, List.setIfInBounds_toArray, List.set_cons_zero, List.set_cons_succ]
          go_wp2
          go_ret
          exact ⟨ret_bool (HEQ.out.symm.trans (take_ne hlt hlt2 (fun e => by have h := HB.out; rw [HX1.out, HX2.out, e, eqb_rfl] at h; cases h))).symm, (HML.out.trans Cx10.out (fun _ _ h => h.elim))⟩
        | true =>
          go_upto_region 8 with (fail)
          refine wp_region_U 62 [61, 46] [0, 1] (fun a0 HA0 => ?_)
          have oe46 := ev HA0 46 rfl
          refine QSeq.pure rfl (.int .i64 (((k : Nat) : Int) + 1)) (fun E => ex_binE rfl (E.y 1 oe46) rfl (guard_ints _ _ _ _ _ _) (run_add_i _ _ Try.underlying3) (congrArg (Value.int .i64) (IntWalk.i64_in _ (by omega)))) ?_
          refine QSeq.pure rfl _ (fun E => ex_move rfl (E.d 0 0)) ?_
          refine QSeq.nil (t' := [_, _]) rfl ?_
          obtain rfl := HA0.out
          clear HA0 oe46
          simp only [pz, Act.put, List.setIfInBounds_toArray, List.set_cons_zero, List.set_cons_succ]
          go_wp2
          go_roundw
          case rel => exact ⟨k + 1, by go_num, by omega, take_succ2 hlt hlt2 HTK.out (by have h := eqb_iff.1 HB.out.symm; rw [HX1.out, HX2.out] at h; exact h), by omega, (HS2.out.mod Cx10.out (fun _ _ h => h)), (HT2.out.mod Cx10.out (fun _ _ h => h)), (HBX.out.mod Cx10.out (fun h => h)), (HBY.out.mod Cx10.out (fun h => h)), (HML.out.trans Cx10.out (fun _ _ h => h.elim))⟩
          case measure => simp [intOf] <;> omega
      · skip
        go_upto_region 4 with (fail)
        refine wp_region_U 62 [47] [0] (fun a0 HA0 => ?_)
        have oe45 := ev HA0 45 rfl
        have oe46 := ev HA0 46 rfl
        refine QSeq.pure rfl (.bool false) (fun E => ex_binE rfl (E.v oe46) (E.v oe45) (guard_ints _ _ _ _ _ _) (run_lss_i _ _ _ Try.underlying3) (congrArg Value.bool (decide_eq_false (by omega)))) ?_
        refine QSeq.nil (t' := [_]) rfl ?_
        obtain rfl := HA0.out
        clear HA0 oe45 oe46
        simp only [pz, Act.put, List.setIfInBounds_toArray, List.set_cons_zero, List.set_cons_succ]
        go_upto_region 9 with (fail)
        refine wp_region_U 62 [4] [0] (fun a0 HA0 => ?_)
        refine QSeq.pure rfl (.bool true) (fun E => ex_assign rfl rfl) ?_
        refine QSeq.nil (t' := [_]) rfl ?_
        obtain rfl := HA0.out
        clear HA0
        simp only [pz, Act.put, List.setIfInBounds_toArray, List.set_cons_zero, List.set_cons_succ]
        go_wp2
        go_ret
        exact ⟨ret_bool (HEQ.out.symm.trans (take_all (by omega) (by have := HLE.out; omega) HTK.out)).symm, HML.out⟩
end Go.Proofs.Ytknpapcfhnhheaa

/- wire.ValidConf, N, Quorum, and the statement WireConfs. -/
namespace Go.Proofs.Ytknpapcfhnhheaa
open Go Go.RowKit Go.Gv

theorem N_any (F C : Int) (h : -1000 ≤ F ∧ F ≤ 1000) (w : World) : Calls Try.prog 48 #[.agg #[.int .i64 F, .int .i64 C]] w fun e w' => e = .returned (.int .i64 (3 * F + 1)) ∧ Mod (fun _ => False) w w' := by
  obtain ⟨h1, h2⟩ := h
  go_enter Try.func48, Try.ntmps48
  go_wp2
  go_ret
  exact ⟨rfl, (Mod.refl _ _).alloc _⟩
theorem Quorum_any (F C : Int) (h : -1000 ≤ F ∧ F ≤ 1000) (w : World) : Calls Try.prog 49 #[.agg #[.int .i64 F, .int .i64 C]] w fun e w' => e = .returned (.int .i64 (2 * F + 1)) ∧ Mod (fun _ => False) w w' := by
  obtain ⟨h1, h2⟩ := h
  go_enter Try.func49, Try.ntmps49
  go_wp2
  go_ret
  exact ⟨rfl, (Mod.refl _ _).alloc _⟩

theorem wakes05 (w : World) : Calls Try.prog 19 #[] w fun e w' => e = .returned (.bool true) ∧ Mod (fun _ => False) w w' := by
  go_enter Try.func19, Try.ntmps19
  go_wp2_with fail
  refine (N_any 1 0 (by omega) _).mono ?_
  rintro e w1 ⟨rfl, hm1⟩
  have HM1 := Lib.hid hm1
  clear hm1
  go_wp2_with fail
  refine (Quorum_any 1 0 (by omega) _).mono ?_
  rintro e w2 ⟨rfl, hm2⟩
  have HM2 := Lib.hid hm2
  clear hm2
  go_wp2
  go_ret
  exact ⟨rfl, HM1.out.trans HM2.out (fun _ _ h => h)⟩

end Go.Proofs.Ytknpapcfhnhheaa

/- gavellaw05.turned. -/
namespace Go.Proofs.Ytknpapcfhnhheaa
open Go Go.RowKit Go.Gv


theorem eq_tt {a b : Int} (h : a = b) : (a == b) = true := by simp [h]
theorem eq_ff {a b : Int} (h : ¬ a = b) : (a == b) = false := by simp [h]
/-- the block of bytes that are one's own: one of them may be written -/
theorem OwR.cs {R : Nat → Prop} {N n cap : Nat} {ao : Option Addr} {w : World} {bs : List Int} (h : OwR R N w (.slice ao n cap) bs) (hp : 0 < bs.length) :
    ∃ g cl, ao = some ⟨g, 0, none⟩ ∧ Cs w g (List.toArray cl) 5 ∧ R g ∧ (∀ i (hi : i < bs.length), cl[i]? = some (bv bs[i])) ∧ bs.length ≤ cl.length ∧
      ∀ w' i x, i < bs.length → 0 ≤ x ∧ x < 256 → Cs w' g (List.toArray (cl.set i (bv x))) 5 → OwR R N w' (.slice ao n cap) (bs.set i x) := by
  obtain ⟨h1, h2, h3⟩ := h
  have hby := h1.bytes
  obtain ⟨hl, hE, ⟨e, hn⟩ | ⟨g, cap', cur, e, hc, q1, q2, q3, q4, q5⟩⟩ := h1
  · have : bs.length = 0 := by simpa using hn
    omega
  · injection e with e1 e2 e3
    subst e1 e2 e3
    have hget : ∀ i (hi : i < bs.length), cur.toList[i]? = some (bv bs[i]) := by
      intro i hi
      have e : (cur.toList.take (bs.length * 1))[i]? = (bs.map bv)[i]? := by rw [q4]
      rw [List.getElem?_take, if_pos (by omega)] at e
      rw [e]
      simp [hi]
    have hlen : bs.length ≤ cur.toList.length := by have : cur.toList.length = cur.size := rfl; omega
    refine ⟨g, cur.toList, rfl, hc, h2 g rfl, hget, hlen, fun w' i x hi hx hc' => ⟨?_, h2, by simpa using h3⟩⟩
    have hbx : ∀ z ∈ bs.set i x, 0 ≤ z ∧ z < 256 := fun z hz => by
      rcases List.mem_or_eq_of_mem_set hz with hz | rfl
      · exact hby z hz
      · exact hx
    refine ⟨by simp, isB_all hbx, .inr ⟨g, cap, _, by simp, hc', by simpa using q1, q2, ?_, ?_, ?_⟩⟩
    · simpa using q3
    · have : ((cur.toList.set i (bv x)).toArray.toList.take ((bs.set i x).length * 1)) = (bs.set i x).map bv := by
        simp only [List.length_set, List.map_set, Nat.mul_one]
        rw [List.take_set, ← q4, Nat.mul_one]
      exact this
    · intro u hu
      have hu' : u ∈ cur.toList.set i (bv x) := hu
      rcases List.mem_or_eq_of_mem_set hu' with hu' | rfl
      · exact q5 u hu'
      · exact ⟨x, rfl, hx⟩
end Go.Proofs.Ytknpapcfhnhheaa

/- wire.PutCert, PutPromise, PutBatch. -/
namespace Go.Proofs.Ytknpapcfhnhheaa
open Go Go.RowKit Go.Gv

set_option maxHeartbeats 2000000 in
theorem WPutBa_Q : Puts BaR 47 baB := by
  intro R R2 g bs cs x w hW hB hx hB2 hD hl
  have HRDX := Lib.hid hx
  obtain ⟨v_ps, v_os, v_ts, rfl, hok, hs0, hs1, hs2⟩ := hx
  have HS0 := Lib.hid hs0
  clear hs0
  have HS1 := Lib.hid hs1
  clear hs1
  have HS2 := Lib.hid hs2
  clear hs2
  have HW := Lib.hid hW
  have HBR := Lib.hid hB
  have HBT := Lib.hid hB2
  have HDJ := Lib.hid hD
  have HOK := Lib.hid hok
  have HL := Lib.hid hl
  clear hW hB hB2 hD hl hok
  go_enter Try.func47, Try.ntmps47
  go_upto_region 1 with (fail)
  obtain ⟨w1, hw1⟩ : ∃ zz, zz = (w.alloc (.cells (x.cells v_ps v_os v_ts : List Value).toArray 60)) := ⟨_, rfl⟩
  change Code.wp _ _ _ _ (w.alloc (.cells (x.cells v_ps v_os v_ts : List Value).toArray 60))
  rw [← hw1]
  have HB3 := hid (show Cs w1 (w.heap.size) (x.cells v_ps v_os v_ts : List Value).toArray 60 by rw [hw1]; exact Cs.new _ _ _)
  have hm : Mod (fun _ => False) w w1 := by rw [hw1]; exact (Mod.refl _ _).alloc _
  have HM0 := hid (show Mod (fun k => (R k)) w w1 from hm.mono (fun _ _ h => h.elim))
  have hs1 : w1.heap.size = w.heap.size + 1 := by rw [hw1]; simp
  have Hx1 := hid (HW.out.mod hm (fun _ _ h => h))
  clear HW
  have Hx2 := hid (HS0.out.mod hm (fun _ _ h => h))
  clear HS0
  have Hx3 := hid (HS1.out.mod hm (fun _ _ h => h))
  clear HS1
  have Hx4 := hid (HS2.out.mod hm (fun _ _ h => h))
  clear HS2
  clear hw1 hm
  go_upto_region 1 with (fail)
  refine wp_region_U 7 [4, 5, 6] [0, 1, 2] (fun a0 HA0 => ?_)
  have oe0 := ev HA0 0 rfl
  have oe3 := ev HA0 3 rfl
  refine QSeq.pure rfl _ (fun E => ex_move rfl (E.v oe0)) ?_
  refine QSeq.pure rfl _ (fun E => ex_loadA rfl Try.underlying60 rfl (off := 0) (cs := x.cells v_ps v_os v_ts) (by kernel_rfl) (E.v oe3) (Cs.whole HB3.out)) ?_
  refine QSeq.call rfl rfl Try.func95 (PutBa_Q _ R2 _ _ _ x _ Hx1.out (by intro k h1; have hb := HBR.out k h1; omega) ⟨_, _, _, rfl, HOK.out, Hx2.out, Hx3.out, Hx4.out⟩ (by intro k h1; have hb := HBT.out k h1; omega) (by intro k h1 h2; first | omega | (have hb := HBR.out k h1; omega) | (have hb := HBT.out k h2; omega) | exact HDJ.out k h1 h2 | exact HDJ.out k h2 h1 | (have hb := HBR.out k h1; have hb2 := HBT.out k h2; omega)) HL.out) (fun E => args2 (E.d 0 1) (E.d 1 0)) ?_
  rintro e u1_2 ⟨rfl, qwr, hm⟩
  refine ⟨_, rfl, ?_⟩
  have Hx5 := hid (qwr.widen (R' := (fun k => (R k) ∨ (New w1 u1_2 k))) (fun _ h => h) (Nat.le_refl _))
  have zu1_2 := hm.size
  have Cx6 := hid (show Mod (fun k => (R k)) w1 u1_2 from hm)
  clear hm
  clear qwr Hx1
  refine QSeq.nil (t' := [_, _, _]) rfl ?_
  obtain rfl := HA0.out
  clear HA0 oe0 oe3
  simp only [pz, Act.put, List.setIfInBounds_toArray, List.set_cons_zero, List.set_cons_succ]
  go_wp2
  go_end0
  exact ⟨rfl, (Hx5.out.widen (R' := (fun k => R k ∨ New w u1_2 k)) (by intro k h1; rcases h1 with h1 | h1 <;> first | exact Or.inl h1 | (right; omega)) (Nat.le_refl _)), (HM0.out.trans Cx6.out (fun _ _ h => h))⟩
end Go.Proofs.Ytknpapcfhnhheaa
