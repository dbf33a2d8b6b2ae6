/- Texts that are built one behind the other: XCo1, XZr, XPt3. No condition. -/
import Derived.Test.YtpnikilkcifncaaGreatOnl4
import Derived.OpenShut
set_option maxRecDepth 100000
set_option linter.unusedVariables false
open List renaming setIfInBounds_toArray → sIB, set_cons_zero → sCZ, set_cons_succ → sCS
/- Things anew, as they are (package msgs). -/
namespace Go.Proofs.YtpnikilkcifncaaGreat
open Go Go.RowKit Go.Gv


/-- a function that gives a thing anew, as it is, in blocks of its own; P: what is asked of the thing -/
def CopR {α : Type} (A : Rep α) (P : α → Prop) (F : FuncId) : Prop := ∀ (R2 : Nat → Prop) (x : α) (cs : List Value) (w : World), A.rd R2 w cs x → (∀ k, R2 k → k < w.heap.size) → P x →
 Calls Tryz.prog F #[.agg cs.toArray] w fun e w' => ∃ cs', e = .returned (.agg cs'.toArray) ∧ A.rd (New w w') w' cs' x ∧ Mod (fun _ => False) w w'
/-- the same for a list of them -/
def CopL {α : Type} (A : Rep α) (P : α → Prop) (F Fe : FuncId) : Prop := ∀ (R2 : Nat → Prop) (l : List α) (v : Value) (w : World), RdS A R2 w v l → (∀ k, R2 k → k < w.heap.size) → l.length ≤ 1000 → (∀ x ∈ l, P x) →
 Calls Tryz.prog F #[v, .func (.func Fe) #[] #[]] w fun e w' => ∃ v', e = .returned v' ∧ RdS A (New w w') w' v' l ∧ Mod (fun _ => False) w w'
def cpNo {α : Type} (x : α) : Prop := True
def cpCe (x : Ce) : Prop := x.l.length ≤ 1000
def cpPm (x : Pm) : Prop := x.l.length ≤ 1000 ∧ ∀ y ∈ x.l, cpCe y
def cpOp (x : Op) : Prop := x.pl.length ≤ 900000
def cpTb (x : Tb) : Prop := x.l.length ≤ 1000
def cpBa (x : Ba) : Prop := (x.ps.length ≤ 1000 ∧ ∀ y ∈ x.ps, cpPm y) ∧ (x.os.length ≤ 1000 ∧ ∀ y ∈ x.os, cpOp y) ∧ (x.ts.length ≤ 1000 ∧ ∀ y ∈ x.ts, cpTb y)
theorem info_VtC : (Tryz.prog.info? 49).map (fun i => (i.zero, i.size, i.bytes)) = some (some (.agg #[.int .i64 0, .int .i64 0, .int .i64 0, .int .i64 0, .int .u8 0, .int .u8 0, .int .u8 0, .int .u8 0, .int .u8 0, .int .u8 0, .int .u8 0, .int .u8 0, .int .u8 0, .int .u8 0, .int .u8 0, .int .u8 0, .int .u8 0, .int .u8 0, .int .u8 0, .int .u8 0, .int .u8 0, .int .u8 0, .int .u8 0, .int .u8 0, .int .u8 0, .int .u8 0, .int .u8 0, .int .u8 0, .int .u8 0, .int .u8 0, .int .u8 0, .int .u8 0, .int .u8 0, .int .u8 0, .int .u8 0, .int .u8 0, .int .i64 0, .int .i64 0]), 38, 80) := by kernel_rfl
set_option maxHeartbeats 1000000 in
theorem same_St : CopR StR cpNo 131 := by
 intro R2 x cs w hx hB2 hP
 obtain ⟨rfl, hok⟩ := hx
 have HOK := Lib.hid hok
 clear hok hB2 hP
 go_enter Tryz.func131, Tryz.ntmps131
 go_upto_region 1 with (fail)
 obtain ⟨w1, hw1⟩ : ∃ zz, zz = ((w.alloc (.cells (x.cells : List Value).toArray 32)).alloc (.cells #[.int .i64 0, .int .i64 0, .int .i64 0, .int .u8 0, .int .u8 0, .int .u8 0, .int .u8 0, .int .u8 0, .int .u8 0, .int .u8 0, .int .u8 0, .int .u8 0, .int .u8 0, .int .u8 0, .int .u8 0, .int .u8 0, .int .u8 0, .int .u8 0, .int .u8 0, .int .u8 0, .int .u8 0, .int .u8 0, .int .u8 0, .int .u8 0, .int .u8 0, .int .u8 0, .int .u8 0, .int .u8 0, .int .u8 0, .int .u8 0, .int .u8 0, .int .u8 0, .int .u8 0, .int .u8 0, .int .u8 0, .int .u64 0, .int .i64 0, .int .i64 0] 32)) := ⟨_, rfl⟩
 change Code.wp _ _ _ _ ((w.alloc (.cells (x.cells : List Value).toArray 32)).alloc (.cells #[.int .i64 0, .int .i64 0, .int .i64 0, .int .u8 0, .int .u8 0, .int .u8 0, .int .u8 0, .int .u8 0, .int .u8 0, .int .u8 0, .int .u8 0, .int .u8 0, .int .u8 0, .int .u8 0, .int .u8 0, .int .u8 0, .int .u8 0, .int .u8 0, .int .u8 0, .int .u8 0, .int .u8 0, .int .u8 0, .int .u8 0, .int .u8 0, .int .u8 0, .int .u8 0, .int .u8 0, .int .u8 0, .int .u8 0, .int .u8 0, .int .u8 0, .int .u8 0, .int .u8 0, .int .u8 0, .int .u8 0, .int .u64 0, .int .i64 0, .int .i64 0] 32))
 rw [← hw1]
 have HB1 := hid (show Cs w1 (w.heap.size) (x.cells : List Value).toArray 32 by rw [hw1]; exact (Cs.new _ _ _).alloc _)
 have HB2 := hid (show Cs w1 (w.heap.size + 1) #[.int .i64 0, .int .i64 0, .int .i64 0, .int .u8 0, .int .u8 0, .int .u8 0, .int .u8 0, .int .u8 0, .int .u8 0, .int .u8 0, .int .u8 0, .int .u8 0, .int .u8 0, .int .u8 0, .int .u8 0, .int .u8 0, .int .u8 0, .int .u8 0, .int .u8 0, .int .u8 0, .int .u8 0, .int .u8 0, .int .u8 0, .int .u8 0, .int .u8 0, .int .u8 0, .int .u8 0, .int .u8 0, .int .u8 0, .int .u8 0, .int .u8 0, .int .u8 0, .int .u8 0, .int .u8 0, .int .u8 0, .int .u64 0, .int .i64 0, .int .i64 0] 32 by rw [hw1]; exact Cs_newN _ _ _ (by simp))
 have hm : Mod (fun _ => False) w w1 := by rw [hw1]; exact ((Mod.refl _ _).alloc _).alloc _
 have HM0 := hid (show Mod (fun _ => False) w w1 from hm.mono (fun _ _ h => h.elim))
 have hs1 : w1.heap.size = w.heap.size + 2 := by rw [hw1]; simp
 clear hw1 hm
 go_upto_region 1 with (fail)
 refine wp_region_U 4 [3, 5] [0, 1] (fun a0 HA0 => ?_)
 have oe1 := ev HA0 1 rfl
 have oe2 := ev HA0 2 rfl
 refine QSeq.pure rfl _ (fun E => ex_loadA rfl Tryz.underlying32 rfl (off := 0) (cs := x.cells) (by rw [St.len HOK.out]; kernel_rfl) (E.v oe1) (Cs.whole HB1.out)) ?_
 refine QSeq.go fun act E => ?_
 refine qc_store rfl (wanted_none rfl) rfl HB2.out (off := 0) (vs := x.cells) (by rw [St.len HOK.out]; kernel_rfl) (St.one _) (by rw [St.len HOK.out]; decide) (E.v oe2) (ec (E.d 0 0)) ?_
 intro u1_1 qc0 hm
 have qB2 := qc0.eqv (b := (x.cells : List Value).toArray) (lay_whole _ _ (by rw [St.len HOK.out]; rfl))
 clear qc0
 have Hx1 := hid qB2
 have zu1_1 := hm.size
 have Cx2 := hid (show Mod (fun k => (k = w.heap.size + 1)) w1 u1_1 from hm)
 clear hm
 clear act E qB2 HB2
 refine QSeq.nil (t' := [_, _]) rfl ?_
 obtain rfl := HA0.out
 clear HA0 oe1 oe2
 simp only [pz, Act.put, sIB, sCZ, sCS, List.set_nil]
 go_wp2
 exact bodyPost_ret (results_cellA rfl _ _ (w.heap.size + 1) x.cells rfl (fun k u hu => by rw [Hx1.out.cell]; simpa using hu) Tryz.underlying32 rfl (by rw [St.len HOK.out]; kernel_rfl)) rfl ⟨_, rfl, ⟨rfl, HOK.out⟩, (HM0.out.trans Cx2.out (by intro k h1 h2; omega))⟩
set_option maxHeartbeats 1000000 in
theorem same_Dn : CopR DnR cpNo 148 := by
 intro R2 x cs w hx hB2 hP
 obtain ⟨rfl, hok⟩ := hx
 have HOK := Lib.hid hok
 clear hok hB2 hP
 go_enter Tryz.func148, Tryz.ntmps148
 go_upto_region 1 with (fail)
 obtain ⟨w1, hw1⟩ : ∃ zz, zz = ((w.alloc (.cells (x.cells : List Value).toArray 56)).alloc (.cells #[.int .i64 0, .int .i64 0, .int .i64 0, .int .i64 0] 56)) := ⟨_, rfl⟩
 change Code.wp _ _ _ _ ((w.alloc (.cells (x.cells : List Value).toArray 56)).alloc (.cells #[.int .i64 0, .int .i64 0, .int .i64 0, .int .i64 0] 56))
 rw [← hw1]
 have HB1 := hid (show Cs w1 (w.heap.size) (x.cells : List Value).toArray 56 by rw [hw1]; exact (Cs.new _ _ _).alloc _)
 have HB2 := hid (show Cs w1 (w.heap.size + 1) #[.int .i64 0, .int .i64 0, .int .i64 0, .int .i64 0] 56 by rw [hw1]; exact Cs_newN _ _ _ (by simp))
 have hm : Mod (fun _ => False) w w1 := by rw [hw1]; exact ((Mod.refl _ _).alloc _).alloc _
 have HM0 := hid (show Mod (fun _ => False) w w1 from hm.mono (fun _ _ h => h.elim))
 have hs1 : w1.heap.size = w.heap.size + 2 := by rw [hw1]; simp
 clear hw1 hm
 go_upto_region 1 with (fail)
 refine wp_region_U 4 [3, 5] [0, 1] (fun a0 HA0 => ?_)
 have oe1 := ev HA0 1 rfl
 have oe2 := ev HA0 2 rfl
 refine QSeq.pure rfl _ (fun E => ex_loadA rfl Tryz.underlying56 rfl (off := 0) (cs := x.cells) (by kernel_rfl) (E.v oe1) (Cs.whole HB1.out)) ?_
 refine QSeq.go fun act E => ?_
 refine qc_store rfl (wanted_none rfl) rfl HB2.out (off := 0) (vs := x.cells) (by kernel_rfl) (Dn.one _) (by show 0 + 4 ≤ 4; decide) (E.v oe2) (ec (E.d 0 0)) ?_
 intro u1_1 qc0 hm
 have qB2 := qc0.eqv (b := (x.cells : List Value).toArray) (lay_whole _ _ rfl)
 clear qc0
 have Hx1 := hid qB2
 have zu1_1 := hm.size
 have Cx2 := hid (show Mod (fun k => (k = w.heap.size + 1)) w1 u1_1 from hm)
 clear hm
 clear act E qB2 HB2
 refine QSeq.nil (t' := [_, _]) rfl ?_
 obtain rfl := HA0.out
 clear HA0 oe1 oe2
 simp only [pz, Act.put, sIB, sCZ, sCS, List.set_nil]
 go_wp2
 exact bodyPost_ret (results_cellA rfl _ _ (w.heap.size + 1) x.cells rfl (fun k u hu => by rw [Hx1.out.cell]; simpa using hu) Tryz.underlying56 rfl (by kernel_rfl)) rfl ⟨_, rfl, ⟨rfl, HOK.out⟩, (HM0.out.trans Cx2.out (by intro k h1 h2; omega))⟩
set_option maxHeartbeats 1000000 in
theorem same_Vt : CopR VtR cpNo 102 := by
 intro R2 x cs w hx hB2 hP
 obtain ⟨rfl, hok⟩ := hx
 have HOK := Lib.hid hok
 clear hok hB2 hP
 go_enter Tryz.func102, Tryz.ntmps102
 go_upto_region 1 with (fail)
 obtain ⟨w1, hw1⟩ : ∃ zz, zz = ((w.alloc (.cells (x.cells : List Value).toArray 49)).alloc (.cells #[.int .i64 0, .int .i64 0, .int .i64 0, .int .i64 0, .int .u8 0, .int .u8 0, .int .u8 0, .int .u8 0, .int .u8 0, .int .u8 0, .int .u8 0, .int .u8 0, .int .u8 0, .int .u8 0, .int .u8 0, .int .u8 0, .int .u8 0, .int .u8 0, .int .u8 0, .int .u8 0, .int .u8 0, .int .u8 0, .int .u8 0, .int .u8 0, .int .u8 0, .int .u8 0, .int .u8 0, .int .u8 0, .int .u8 0, .int .u8 0, .int .u8 0, .int .u8 0, .int .u8 0, .int .u8 0, .int .u8 0, .int .u8 0, .int .i64 0, .int .i64 0] 49)) := ⟨_, rfl⟩
 change Code.wp _ _ _ _ ((w.alloc (.cells (x.cells : List Value).toArray 49)).alloc (.cells #[.int .i64 0, .int .i64 0, .int .i64 0, .int .i64 0, .int .u8 0, .int .u8 0, .int .u8 0, .int .u8 0, .int .u8 0, .int .u8 0, .int .u8 0, .int .u8 0, .int .u8 0, .int .u8 0, .int .u8 0, .int .u8 0, .int .u8 0, .int .u8 0, .int .u8 0, .int .u8 0, .int .u8 0, .int .u8 0, .int .u8 0, .int .u8 0, .int .u8 0, .int .u8 0, .int .u8 0, .int .u8 0, .int .u8 0, .int .u8 0, .int .u8 0, .int .u8 0, .int .u8 0, .int .u8 0, .int .u8 0, .int .u8 0, .int .i64 0, .int .i64 0] 49))
 rw [← hw1]
 have HB1 := hid (show Cs w1 (w.heap.size) (x.cells : List Value).toArray 49 by rw [hw1]; exact (Cs.new _ _ _).alloc _)
 have HB2 := hid (show Cs w1 (w.heap.size + 1) #[.int .i64 0, .int .i64 0, .int .i64 0, .int .i64 0, .int .u8 0, .int .u8 0, .int .u8 0, .int .u8 0, .int .u8 0, .int .u8 0, .int .u8 0, .int .u8 0, .int .u8 0, .int .u8 0, .int .u8 0, .int .u8 0, .int .u8 0, .int .u8 0, .int .u8 0, .int .u8 0, .int .u8 0, .int .u8 0, .int .u8 0, .int .u8 0, .int .u8 0, .int .u8 0, .int .u8 0, .int .u8 0, .int .u8 0, .int .u8 0, .int .u8 0, .int .u8 0, .int .u8 0, .int .u8 0, .int .u8 0, .int .u8 0, .int .i64 0, .int .i64 0] 49 by rw [hw1]; exact Cs_newN _ _ _ (by simp))
 have hm : Mod (fun _ => False) w w1 := by rw [hw1]; exact ((Mod.refl _ _).alloc _).alloc _
 have HM0 := hid (show Mod (fun _ => False) w w1 from hm.mono (fun _ _ h => h.elim))
 have hs1 : w1.heap.size = w.heap.size + 2 := by rw [hw1]; simp
 clear hw1 hm
 go_upto_region 1 with (fail)
 refine wp_region_U 4 [3, 5] [0, 1] (fun a0 HA0 => ?_)
 have oe1 := ev HA0 1 rfl
 have oe2 := ev HA0 2 rfl
 refine QSeq.pure rfl _ (fun E => ex_loadA rfl Tryz.underlying49 rfl (off := 0) (cs := x.cells) (by rw [Vt.len HOK.out]; kernel_rfl) (E.v oe1) (Cs.whole HB1.out)) ?_
 refine QSeq.go fun act E => ?_
 refine qc_store rfl (wanted_none rfl) rfl HB2.out (off := 0) (vs := x.cells) (by rw [Vt.len HOK.out]; kernel_rfl) (Vt.one _) (by rw [Vt.len HOK.out]; decide) (E.v oe2) (ec (E.d 0 0)) ?_
 intro u1_1 qc0 hm
 have qB2 := qc0.eqv (b := (x.cells : List Value).toArray) (lay_whole _ _ (by rw [Vt.len HOK.out]; rfl))
 clear qc0
 have Hx1 := hid qB2
 have zu1_1 := hm.size
 have Cx2 := hid (show Mod (fun k => (k = w.heap.size + 1)) w1 u1_1 from hm)
 clear hm
 clear act E qB2 HB2
 refine QSeq.nil (t' := [_, _]) rfl ?_
 obtain rfl := HA0.out
 clear HA0 oe1 oe2
 simp only [pz, Act.put, sIB, sCZ, sCS, List.set_nil]
 go_wp2
 exact bodyPost_ret (results_cellA rfl _ _ (w.heap.size + 1) x.cells rfl (fun k u hu => by rw [Hx1.out.cell]; simpa using hu) Tryz.underlying49 rfl (by rw [Vt.len HOK.out]; kernel_rfl)) rfl ⟨_, rfl, ⟨rfl, HOK.out⟩, (HM0.out.trans Cx2.out (by intro k h1 h2; omega))⟩
set_option maxHeartbeats 4000000 in
theorem copied_St : CopL StR cpNo 130 131 := by
 intro R2 l v w hs hB2 hl hP
 obtain ⟨ao, cap, rfl⟩ := hs.shape
 have HS := Lib.hid hs
 have HBT := Lib.hid hB2
 have HL := Lib.hid hl
 have HP := Lib.hid hP
 clear hs hB2 hl hP
 go_enter Tryz.func130, Tryz.ntmps130
 go_upto_region 2 with (fail)
 have HM0 := hid (Mod.refl (fun _ => False) w)
 go_upto_region 2 with (fail)
 refine wp_region_U 22 [8, 9, 10] [0, 1, 2] (fun a0 HA0 => ?_)
 have oe0 := ev HA0 0 rfl
 refine QSeq.pure rfl _ (fun E => ex_move rfl (E.v oe0)) ?_
 refine QSeq.pure rfl (.int .i64 l.length) (fun E => ex_lenS rfl (E.d 0 0) Tryz.underlying33) ?_
 refine QSeq.pure rfl (.int .i64 0) (fun E => ex_move rfl rfl) ?_
 refine QSeq.nil (t' := [_, _, _]) rfl ?_
 obtain rfl := HA0.out
 clear HA0 oe0
 simp only [pz, Act.put, sIB, sCZ, sCS]
 go_wp2
 go_loopw [5, 10] (fun ta ti wr => ∃ k : Nat, ti = .int .i64 (k : Int) ∧ k ≤ l.length ∧ w.heap.size ≤ wr.heap.size ∧ OwS StR 32 (fun b => w.heap.size ≤ b ∧ b < wr.heap.size) (fun b => w.heap.size ≤ b ∧ b < wr.heap.size) wr ta (l.take k) ∧ RdS StR R2 wr (.slice ao l.length cap) l ∧ Mod (fun _ => False) w wr) (fun _ ti _ => l.length - (intOf ti).toNat)
 case atStart => exact ⟨0, rfl, Nat.zero_le _, Nat.le_refl _, OwS.nil _ _ _ _ _, HS.out, HM0.out⟩
 case round =>
  obtain ⟨k, rfl, hk, hz, ha, hs, hm⟩ := hrel
  obtain ⟨wl, rfl⟩ : ∃ x, x = wr := ⟨_, rfl⟩
  obtain ⟨aol, capl, rfl⟩ := ha.shape
  have HAL := Lib.hid ha
  have HSL := Lib.hid hs
  have HML := Lib.hid hm
  clear ha hs hm HS HM0
  by_cases hlt : k < l.length
  ·skip
   go_upto_region 3 with (fail)
   refine wp_region_U 22 [11] [0] (fun a0 HA0 => ?_)
   have oe9 := ev HA0 9 rfl
   have oe10 := ev HA0 10 rfl
   refine QSeq.pure rfl (.bool true) (fun E => ex_binE rfl (E.v oe10) (E.v oe9) (guard_ints _ _ _ _ _ _) (run_lss_i _ _ _ Tryz.underlying3) (congrArg Value.bool (decide_eq_true (by omega)))) ?_
   refine QSeq.nil (t' := [_]) rfl ?_
   obtain rfl := HA0.out
   clear HA0 oe9 oe10
   simp only [pz, Act.put, sIB, sCZ, sCS]
   obtain ⟨g0, o0, cs, eao, hrg, hrd, hcs⟩ := HSL.out.at hlt
   subst eao
   have HCL := hid (show cs.length = 38 from StR.len hrd)
   have HAT := hid (show CellsAt R2 wl g0 (o0 + k * 38) cs from ⟨hrg, hcs⟩)
   have HRD := Lib.hid hrd
   have HOC := hid (StR.one hrd)
   have HPK := hid (HP.out _ (List.getElem_mem hlt))
   clear hrg hrd hcs
   go_upto_region 4 with (fail)
   refine wp_region_U 22 [12, 13, 7, 25] [0, 1, 2, 3] (fun a0 HA0 => ?_)
   have oe8 := ev HA0 8 rfl
   have oe10 := ev HA0 10 rfl
   refine QSeq.pure rfl (.pointer (some ⟨g0, o0 + k * 38, none⟩)) (fun E => ex_idxS (i := k) (s := 38) rfl Tryz.underlying33 (by kernel_rfl) (E.v oe8) (E.v oe10) (by omega)) ?_
   refine QSeq.pure rfl _ (fun E => ex_loadA rfl Tryz.underlying32 rfl (off := o0 + k * 38) (cs := cs) (by rw [HCL.out]; kernel_rfl) (E.d 0 0) (fun j u hu => (HAT.out).2 j u hu)) ?_
   refine QSeq.go fun act E => ?_
   refine qc_alloc rfl (wanted_none rfl) rfl (z := [.int .i64 0, .int .i64 0, .int .i64 0, .int .u8 0, .int .u8 0, .int .u8 0, .int .u8 0, .int .u8 0, .int .u8 0, .int .u8 0, .int .u8 0, .int .u8 0, .int .u8 0, .int .u8 0, .int .u8 0, .int .u8 0, .int .u8 0, .int .u8 0, .int .u8 0, .int .u8 0, .int .u8 0, .int .u8 0, .int .u8 0, .int .u8 0, .int .u8 0, .int .u8 0, .int .u8 0, .int .u8 0, .int .u8 0, .int .u8 0, .int .u8 0, .int .u8 0, .int .u8 0, .int .u8 0, .int .u8 0, .int .u64 0, .int .i64 0, .int .i64 0]) (by kernel_rfl) ?_
   intro u4_2 qq hm
   have zl4_2 := qq.lt
   have Hx1 := hid qq
   have zu4_2 := hm.size
   have Cx2 := hid (show Mod (fun _ => False) wl u4_2 from hm)
   clear hm
   clear act E qq
   refine QSeq.go fun act E => ?_
   have hlz : (cs).length = List.length ([.int .i64 0, .int .i64 0, .int .i64 0, .int .u8 0, .int .u8 0, .int .u8 0, .int .u8 0, .int .u8 0, .int .u8 0, .int .u8 0, .int .u8 0, .int .u8 0, .int .u8 0, .int .u8 0, .int .u8 0, .int .u8 0, .int .u8 0, .int .u8 0, .int .u8 0, .int .u8 0, .int .u8 0, .int .u8 0, .int .u8 0, .int .u8 0, .int .u8 0, .int .u8 0, .int .u8 0, .int .u8 0, .int .u8 0, .int .u8 0, .int .u8 0, .int .u8 0, .int .u8 0, .int .u8 0, .int .u8 0, .int .u64 0, .int .i64 0, .int .i64 0] : List Value) := (by rw [HCL.out]; rfl)
   refine qc_store rfl (wanted_none rfl) rfl Hx1.out (off := 0) (vs := cs) (by rw [hlz]; kernel_rfl) HOC.out (by rw [hlz]; exact Nat.le_of_eq (Nat.zero_add _)) (E.d 2 0) (ec (E.d 1 1)) ?_
   intro u4_3 qc0 hm
   have qq := qc0.eqv (b := (cs : List Value).toArray) (lay_whole #[.int .i64 0, .int .i64 0, .int .i64 0, .int .u8 0, .int .u8 0, .int .u8 0, .int .u8 0, .int .u8 0, .int .u8 0, .int .u8 0, .int .u8 0, .int .u8 0, .int .u8 0, .int .u8 0, .int .u8 0, .int .u8 0, .int .u8 0, .int .u8 0, .int .u8 0, .int .u8 0, .int .u8 0, .int .u8 0, .int .u8 0, .int .u8 0, .int .u8 0, .int .u8 0, .int .u8 0, .int .u8 0, .int .u8 0, .int .u8 0, .int .u8 0, .int .u8 0, .int .u8 0, .int .u8 0, .int .u8 0, .int .u64 0, .int .i64 0, .int .i64 0] _ (by rw [hlz]; rfl))
   clear qc0 hlz
   have Hx3 := hid qq
   have zu4_3 := hm.size
   have HMu4_3 := hid hm
   have Cx4 := hid (Mod.goS (S' := (fun _ => False)) Cx2.out hm (fun _ h => h) (by intro k h0 h2; omega))
   clear hm Cx2
   clear act E qq Hx1
   clear HMu4_3
   refine QSeq.nil (t' := [_, _, _, _]) rfl ?_
   obtain rfl := HA0.out
   clear HA0 oe8 oe10
   simp only [pz, Act.put, sIB, sCZ, sCS, List.set_nil]
   go_upto_region 5 with (fail)
   refine wp_region_U 22 [14, 15, 16, 17, 18, 19, 5] [0, 1, 2, 3, 4, 5, 6] (fun a0 HA0 => ?_)
   have oe1 := ev HA0 1 rfl
   have oe5 := ev HA0 5 rfl
   have oe7 := ev HA0 7 rfl
   refine QSeq.pure rfl _ (fun E => ex_move rfl (E.y 6 oe5)) ?_
   refine QSeq.pure rfl _ (fun E => ex_move rfl (E.v oe1)) ?_
   refine QSeq.pure rfl _ (fun E => ex_loadA rfl Tryz.underlying32 rfl (off := 0) (cs := cs) (by rw [HCL.out]; kernel_rfl) (E.v oe7) (Cs.whole Hx3.out)) ?_
   refine QSeq.go fun act E => ?_
   have ea16 : act.eval (.tmp 16) = .agg cs.toArray := (E.d 2 0)
   refine qc_call (args := #[.agg cs.toArray]) rfl (wanted_none rfl) (by rw [ex_callV rfl (E.d 1 1) Tryz.func131 (by kernel_rfl) (by kernel_rfl)]; exact congrArg (fun z => Result.ok (Next.enter _ z) _) (by simp only [List.map_toArray, List.map_cons, List.map_nil, ea16]; try rfl)) (same_St _ _ _ _ (HRD.out.mod Cx4.out (fun _ _ h => h)) (by intro k h1; have hb := HBT.out k h1; omega) HPK.out) ?_
   rintro e u5_3 ⟨cn, rfl, qnw, hm⟩
   have HCN := hid (StR.len qnw)
   refine ⟨_, rfl, ?_⟩
   have Hx5 := hid qnw
   have zu5_3 := hm.size
   have Cx6 := hid (show Mod (fun _ => False) u4_3 u5_3 from hm)
   clear hm
   clear act E qnw ea16
   refine QSeq.go fun act E => ?_
   refine qc_buildS (e := 32) (cs := cn) (zc := [.int .i64 0, .int .i64 0, .int .i64 0, .int .u8 0, .int .u8 0, .int .u8 0, .int .u8 0, .int .u8 0, .int .u8 0, .int .u8 0, .int .u8 0, .int .u8 0, .int .u8 0, .int .u8 0, .int .u8 0, .int .u8 0, .int .u8 0, .int .u8 0, .int .u8 0, .int .u8 0, .int .u8 0, .int .u8 0, .int .u8 0, .int .u8 0, .int .u8 0, .int .u8 0, .int .u8 0, .int .u8 0, .int .u8 0, .int .u8 0, .int .u8 0, .int .u8 0, .int .u8 0, .int .u8 0, .int .u8 0, .int .u64 0, .int .i64 0, .int .i64 0]) (sz := 38) rfl (wanted_none rfl) rfl Tryz.underlying33 (by kernel_rfl) rfl (by decide) (by decide) (E.d 3 0) (StR.len Hx5.out) ?_
   intro u5_4 qrow hm
   have zl5_4 := qrow.lt
   have Hx7 := hid qrow
   have zu5_4 := hm.size
   have HMu5_4 := hid hm
   have Cx8 := hid (Cx6.out.goE hm)
   clear hm Cx6
   clear act E qrow
   refine QSeq.go fun act E => ?_
   refine qc_appS (A := StR) (e := 32) rfl (wanted_none rfl) rfl (.agg #[.int .i64 0, .int .i64 0, .int .i64 0, .int .u8 0, .int .u8 0, .int .u8 0, .int .u8 0, .int .u8 0, .int .u8 0, .int .u8 0, .int .u8 0, .int .u8 0, .int .u8 0, .int .u8 0, .int .u8 0, .int .u8 0, .int .u8 0, .int .u8 0, .int .u8 0, .int .u8 0, .int .u8 0, .int .u8 0, .int .u8 0, .int .u8 0, .int .u8 0, .int .u8 0, .int .u8 0, .int .u8 0, .int .u8 0, .int .u8 0, .int .u8 0, .int .u8 0, .int .u8 0, .int .u8 0, .int .u8 0, .int .u64 0, .int .i64 0, .int .i64 0]) 80 Tryz.underlying33 info_St (by rfl) (of_decide_eq_true (by kernel_rfl)) (E.d 0 4) (E.d 4 0) (((HAL.out.mod Cx4.out (fun _ _ h => h) (fun _ _ h => h)).mod Cx8.out (fun _ _ h => h) (fun _ _ h => h))) (RdS.single (R := (fun k => (New u4_3 u5_3 k) ∨ (k = u5_3.heap.size))) Hx7.out ((Hx5.out.mod HMu5_4.out (fun _ _ h => h)).widen (by intro k h1; first | omega | exact h1.elim | exact Or.inl h1 | exact Or.inr (h1))) (by right; rfl)) (by intro k h1 h2; omega) (by have h9 := HL.out; rw [List.length_take]; simp only [List.length_cons, List.length_nil]; omega) (by have h9 := HL.out; rw [List.length_take]; simp only [List.length_cons, List.length_nil]; rw [maxLen_val]; omega) ?_
   intro ao5 cap5 u5_5 qout hm
   have Hx9 := hid (qout.widen (R' := (fun k => (New w wl k) ∨ (New u5_4 u5_5 k))) (E' := (fun k => (New w wl k) ∨ (New u4_3 u5_3 k) ∨ (k = u5_3.heap.size))) (fun _ h => h) (by intro k h1; rcases h1 with h1 | (h1 | h1) <;> first | omega | exact h1.elim | exact Or.inl h1 | exact Or.inr (Or.inl h1) | exact Or.inr (Or.inr (h1))))
   have zu5_5 := hm.size
   have HMu5_5 := hid hm
   have Cx10 := hid (Mod.goS (S' := (fun k => (New w wl k))) Cx8.out hm (fun _ h => h.elim) (by intro k h0 h2; exact h2))
   clear hm Cx8
   clear act E qout HAL
   refine QSeq.pure rfl _ (fun E => ex_assign rfl (E.d 5 0)) ?_
   have Hx11 := hid ((Hx5.out.mod HMu5_4.out (fun _ _ h => h)).mod HMu5_5.out (by intro k h1 h2; omega))
   have Hx12 := hid (Hx7.out.mod HMu5_5.out (by intro h2; omega))
   clear Hx5 Hx7 HMu5_4 HMu5_5
   refine QSeq.nil (t' := [_, _, _, _, _, _, _]) rfl ?_
   obtain rfl := HA0.out
   clear HA0 oe1 oe5 oe7
   simp only [pz, Act.put, sIB, sCZ, sCS]
   have hq := Hx9.out
   rw [show l.take k ++ [l[k]] = l.take (k + 1) from (List.take_succ_eq_append_getElem hlt).symm] at hq
   have HQ := Lib.hid hq
   clear hq
   go_upto_region 6 with (fail)
   refine wp_region_U 22 [20, 10] [0, 1] (fun a0 HA0 => ?_)
   have oe10 := ev HA0 10 rfl
   refine QSeq.pure rfl (.int .i64 (((k : Nat) : Int) + 1)) (fun E => ex_binE rfl (E.y 1 oe10) rfl (guard_ints _ _ _ _ _ _) (run_add_i _ _ Tryz.underlying3) (congrArg (Value.int .i64) (IntWalk.i64_in _ (by have h9 := HL.out; omega)))) ?_
   refine QSeq.pure rfl _ (fun E => ex_move rfl (E.d 0 0)) ?_
   refine QSeq.nil (t' := [_, _]) rfl ?_
   obtain rfl := HA0.out
   clear HA0 oe10
   simp only [pz, Act.put, sIB, sCZ, sCS]
   go_wp2
   go_roundw
   case rel => exact ⟨k + 1, by go_num, by omega, by omega, HQ.out.widen (by intro b h1; (try dsimp only at h1 ⊢); omega) (by intro b h1; (try dsimp only at h1 ⊢); omega), ((HSL.out.mod Cx4.out (fun _ _ h => h)).mod Cx10.out (sN HBT)), ((HML.out.trans Cx4.out (fun _ _ h => h.elim)).trans Cx10.out (by intro k h1 h2; omega))⟩
   case measure => simp [intOf]; omega
  ·obtain rfl : l.length = k := by omega
   have hq := HAL.out
   rw [List.take_length] at hq
   have HQ := Lib.hid hq
   clear hq
   go_upto_region 3 with (fail)
   refine wp_region_U 22 [11] [0] (fun a0 HA0 => ?_)
   have oe9 := ev HA0 9 rfl
   have oe10 := ev HA0 10 rfl
   refine QSeq.pure rfl (.bool false) (fun E => ex_binE rfl (E.v oe10) (E.v oe9) (guard_ints _ _ _ _ _ _) (run_lss_i _ _ _ Tryz.underlying3) (congrArg Value.bool (decide_eq_false (by omega)))) ?_
   refine QSeq.nil (t' := [_]) rfl ?_
   obtain rfl := HA0.out
   clear HA0 oe9 oe10
   simp only [pz, Act.put, sIB, sCZ, sCS]
   go_upto_region 7 with (fail)
   refine wp_region_U 22 [21, 4] [0, 1] (fun a0 HA0 => ?_)
   have oe5 := ev HA0 5 rfl
   refine QSeq.pure rfl _ (fun E => ex_move rfl (E.v oe5)) ?_
   refine QSeq.pure rfl _ (fun E => ex_assign rfl (E.d 0 0)) ?_
   refine QSeq.nil (t' := [_, _]) rfl ?_
   obtain rfl := HA0.out
   clear HA0 oe5
   simp only [pz, Act.put, sIB, sCZ, sCS]
   go_wp2
   go_ret
   exact ⟨_, rfl, by rw [List.take_length]; exact HQ.out.rd.widen (by intro b h1; (try dsimp only at h1 ⊢); omega), HML.out⟩
set_option maxHeartbeats 4000000 in
theorem copied_Dn : CopL DnR cpNo 147 148 := by
 intro R2 l v w hs hB2 hl hP
 obtain ⟨ao, cap, rfl⟩ := hs.shape
 have HS := Lib.hid hs
 have HBT := Lib.hid hB2
 have HL := Lib.hid hl
 have HP := Lib.hid hP
 clear hs hB2 hl hP
 go_enter Tryz.func147, Tryz.ntmps147
 go_upto_region 2 with (fail)
 have HM0 := hid (Mod.refl (fun _ => False) w)
 go_upto_region 2 with (fail)
 refine wp_region_U 22 [8, 9, 10] [0, 1, 2] (fun a0 HA0 => ?_)
 have oe0 := ev HA0 0 rfl
 refine QSeq.pure rfl _ (fun E => ex_move rfl (E.v oe0)) ?_
 refine QSeq.pure rfl (.int .i64 l.length) (fun E => ex_lenS rfl (E.d 0 0) Tryz.underlying126) ?_
 refine QSeq.pure rfl (.int .i64 0) (fun E => ex_move rfl rfl) ?_
 refine QSeq.nil (t' := [_, _, _]) rfl ?_
 obtain rfl := HA0.out
 clear HA0 oe0
 simp only [pz, Act.put, sIB, sCZ, sCS]
 go_wp2
 go_loopw [5, 10] (fun ta ti wr => ∃ k : Nat, ti = .int .i64 (k : Int) ∧ k ≤ l.length ∧ w.heap.size ≤ wr.heap.size ∧ OwS DnR 56 (fun b => w.heap.size ≤ b ∧ b < wr.heap.size) (fun b => w.heap.size ≤ b ∧ b < wr.heap.size) wr ta (l.take k) ∧ RdS DnR R2 wr (.slice ao l.length cap) l ∧ Mod (fun _ => False) w wr) (fun _ ti _ => l.length - (intOf ti).toNat)
 case atStart => exact ⟨0, rfl, Nat.zero_le _, Nat.le_refl _, OwS.nil _ _ _ _ _, HS.out, HM0.out⟩
 case round =>
  obtain ⟨k, rfl, hk, hz, ha, hs, hm⟩ := hrel
  obtain ⟨wl, rfl⟩ : ∃ x, x = wr := ⟨_, rfl⟩
  obtain ⟨aol, capl, rfl⟩ := ha.shape
  have HAL := Lib.hid ha
  have HSL := Lib.hid hs
  have HML := Lib.hid hm
  clear ha hs hm HS HM0
  by_cases hlt : k < l.length
  ·skip
   go_upto_region 3 with (fail)
   refine wp_region_U 22 [11] [0] (fun a0 HA0 => ?_)
   have oe9 := ev HA0 9 rfl
   have oe10 := ev HA0 10 rfl
   refine QSeq.pure rfl (.bool true) (fun E => ex_binE rfl (E.v oe10) (E.v oe9) (guard_ints _ _ _ _ _ _) (run_lss_i _ _ _ Tryz.underlying3) (congrArg Value.bool (decide_eq_true (by omega)))) ?_
   refine QSeq.nil (t' := [_]) rfl ?_
   obtain rfl := HA0.out
   clear HA0 oe9 oe10
   simp only [pz, Act.put, sIB, sCZ, sCS]
   obtain ⟨g0, o0, cs, eao, hrg, hrd, hcs⟩ := HSL.out.at hlt
   subst eao
   have HCL := hid (show cs.length = 4 from DnR.len hrd)
   have HAT := hid (show CellsAt R2 wl g0 (o0 + k * 4) cs from ⟨hrg, hcs⟩)
   have HRD := Lib.hid hrd
   have HOC := hid (DnR.one hrd)
   have HPK := hid (HP.out _ (List.getElem_mem hlt))
   clear hrg hrd hcs
   go_upto_region 4 with (fail)
   refine wp_region_U 22 [12, 13, 7, 25] [0, 1, 2, 3] (fun a0 HA0 => ?_)
   have oe8 := ev HA0 8 rfl
   have oe10 := ev HA0 10 rfl
   refine QSeq.pure rfl (.pointer (some ⟨g0, o0 + k * 4, none⟩)) (fun E => ex_idxS (i := k) (s := 4) rfl Tryz.underlying126 (by kernel_rfl) (E.v oe8) (E.v oe10) (by omega)) ?_
   refine QSeq.pure rfl _ (fun E => ex_loadA rfl Tryz.underlying56 rfl (off := o0 + k * 4) (cs := cs) (by rw [HCL.out]; kernel_rfl) (E.d 0 0) (fun j u hu => (HAT.out).2 j u hu)) ?_
   refine QSeq.go fun act E => ?_
   refine qc_alloc rfl (wanted_none rfl) rfl (z := [.int .i64 0, .int .i64 0, .int .i64 0, .int .i64 0]) (by kernel_rfl) ?_
   intro u4_2 qq hm
   have zl4_2 := qq.lt
   have Hx1 := hid qq
   have zu4_2 := hm.size
   have Cx2 := hid (show Mod (fun _ => False) wl u4_2 from hm)
   clear hm
   clear act E qq
   refine QSeq.go fun act E => ?_
   have hlz : (cs).length = List.length ([.int .i64 0, .int .i64 0, .int .i64 0, .int .i64 0] : List Value) := (by rw [HCL.out]; rfl)
   refine qc_store rfl (wanted_none rfl) rfl Hx1.out (off := 0) (vs := cs) (by rw [hlz]; kernel_rfl) HOC.out (by rw [hlz]; exact Nat.le_of_eq (Nat.zero_add _)) (E.d 2 0) (ec (E.d 1 1)) ?_
   intro u4_3 qc0 hm
   have qq := qc0.eqv (b := (cs : List Value).toArray) (lay_whole #[.int .i64 0, .int .i64 0, .int .i64 0, .int .i64 0] _ (by rw [hlz]; rfl))
   clear qc0 hlz
   have Hx3 := hid qq
   have zu4_3 := hm.size
   have HMu4_3 := hid hm
   have Cx4 := hid (Mod.goS (S' := (fun _ => False)) Cx2.out hm (fun _ h => h) (by intro k h0 h2; omega))
   clear hm Cx2
   clear act E qq Hx1
   clear HMu4_3
   refine QSeq.nil (t' := [_, _, _, _]) rfl ?_
   obtain rfl := HA0.out
   clear HA0 oe8 oe10
   simp only [pz, Act.put, sIB, sCZ, sCS, List.set_nil]
   go_upto_region 5 with (fail)
   refine wp_region_U 22 [14, 15, 16, 17, 18, 19, 5] [0, 1, 2, 3, 4, 5, 6] (fun a0 HA0 => ?_)
   have oe1 := ev HA0 1 rfl
   have oe5 := ev HA0 5 rfl
   have oe7 := ev HA0 7 rfl
   refine QSeq.pure rfl _ (fun E => ex_move rfl (E.y 6 oe5)) ?_
   refine QSeq.pure rfl _ (fun E => ex_move rfl (E.v oe1)) ?_
   refine QSeq.pure rfl _ (fun E => ex_loadA rfl Tryz.underlying56 rfl (off := 0) (cs := cs) (by rw [HCL.out]; kernel_rfl) (E.v oe7) (Cs.whole Hx3.out)) ?_
   refine QSeq.go fun act E => ?_
   have ea16 : act.eval (.tmp 16) = .agg cs.toArray := (E.d 2 0)
   refine qc_call (args := #[.agg cs.toArray]) rfl (wanted_none rfl) (by rw [ex_callV rfl (E.d 1 1) Tryz.func148 (by kernel_rfl) (by kernel_rfl)]; exact congrArg (fun z => Result.ok (Next.enter _ z) _) (by simp only [List.map_toArray, List.map_cons, List.map_nil, ea16]; try rfl)) (same_Dn _ _ _ _ (HRD.out.mod Cx4.out (fun _ _ h => h)) (by intro k h1; have hb := HBT.out k h1; omega) HPK.out) ?_
   rintro e u5_3 ⟨cn, rfl, qnw, hm⟩
   have HCN := hid (DnR.len qnw)
   refine ⟨_, rfl, ?_⟩
   have Hx5 := hid qnw
   have zu5_3 := hm.size
   have Cx6 := hid (show Mod (fun _ => False) u4_3 u5_3 from hm)
   clear hm
   clear act E qnw ea16
   refine QSeq.go fun act E => ?_
   refine qc_buildS (e := 56) (cs := cn) (zc := [.int .i64 0, .int .i64 0, .int .i64 0, .int .i64 0]) (sz := 4) rfl (wanted_none rfl) rfl Tryz.underlying126 (by kernel_rfl) rfl (by decide) (by decide) (E.d 3 0) (DnR.len Hx5.out) ?_
   intro u5_4 qrow hm
   have zl5_4 := qrow.lt
   have Hx7 := hid qrow
   have zu5_4 := hm.size
   have HMu5_4 := hid hm
   have Cx8 := hid (Cx6.out.goE hm)
   clear hm Cx6
   clear act E qrow
   refine QSeq.go fun act E => ?_
   refine qc_appS (A := DnR) (e := 56) rfl (wanted_none rfl) rfl (.agg #[.int .i64 0, .int .i64 0, .int .i64 0, .int .i64 0]) 32 Tryz.underlying126 info_Dn (by rfl) (of_decide_eq_true (by kernel_rfl)) (E.d 0 4) (E.d 4 0) (((HAL.out.mod Cx4.out (fun _ _ h => h) (fun _ _ h => h)).mod Cx8.out (fun _ _ h => h) (fun _ _ h => h))) (RdS.single (R := (fun k => (New u4_3 u5_3 k) ∨ (k = u5_3.heap.size))) Hx7.out ((Hx5.out.mod HMu5_4.out (fun _ _ h => h)).widen (by intro k h1; first | omega | exact h1.elim | exact Or.inl h1 | exact Or.inr (h1))) (by right; rfl)) (by intro k h1 h2; omega) (by have h9 := HL.out; rw [List.length_take]; simp only [List.length_cons, List.length_nil]; omega) (by have h9 := HL.out; rw [List.length_take]; simp only [List.length_cons, List.length_nil]; rw [maxLen_val]; omega) ?_
   intro ao5 cap5 u5_5 qout hm
   have Hx9 := hid (qout.widen (R' := (fun k => (New w wl k) ∨ (New u5_4 u5_5 k))) (E' := (fun k => (New w wl k) ∨ (New u4_3 u5_3 k) ∨ (k = u5_3.heap.size))) (fun _ h => h) (by intro k h1; rcases h1 with h1 | (h1 | h1) <;> first | omega | exact h1.elim | exact Or.inl h1 | exact Or.inr (Or.inl h1) | exact Or.inr (Or.inr (h1))))
   have zu5_5 := hm.size
   have HMu5_5 := hid hm
   have Cx10 := hid (Mod.goS (S' := (fun k => (New w wl k))) Cx8.out hm (fun _ h => h.elim) (by intro k h0 h2; exact h2))
   clear hm Cx8
   clear act E qout HAL
   refine QSeq.pure rfl _ (fun E => ex_assign rfl (E.d 5 0)) ?_
   have Hx11 := hid ((Hx5.out.mod HMu5_4.out (fun _ _ h => h)).mod HMu5_5.out (by intro k h1 h2; omega))
   have Hx12 := hid (Hx7.out.mod HMu5_5.out (by intro h2; omega))
   clear Hx5 Hx7 HMu5_4 HMu5_5
   refine QSeq.nil (t' := [_, _, _, _, _, _, _]) rfl ?_
   obtain rfl := HA0.out
   clear HA0 oe1 oe5 oe7
   simp only [pz, Act.put, sIB, sCZ, sCS]
   have hq := Hx9.out
   rw [show l.take k ++ [l[k]] = l.take (k + 1) from (List.take_succ_eq_append_getElem hlt).symm] at hq
   have HQ := Lib.hid hq
   clear hq
   go_upto_region 6 with (fail)
   refine wp_region_U 22 [20, 10] [0, 1] (fun a0 HA0 => ?_)
   have oe10 := ev HA0 10 rfl
   refine QSeq.pure rfl (.int .i64 (((k : Nat) : Int) + 1)) (fun E => ex_binE rfl (E.y 1 oe10) rfl (guard_ints _ _ _ _ _ _) (run_add_i _ _ Tryz.underlying3) (congrArg (Value.int .i64) (IntWalk.i64_in _ (by have h9 := HL.out; omega)))) ?_
   refine QSeq.pure rfl _ (fun E => ex_move rfl (E.d 0 0)) ?_
   refine QSeq.nil (t' := [_, _]) rfl ?_
   obtain rfl := HA0.out
   clear HA0 oe10
   simp only [pz, Act.put, sIB, sCZ, sCS]
   go_wp2
   go_roundw
   case rel => exact ⟨k + 1, by go_num, by omega, by omega, HQ.out.widen (by intro b h1; (try dsimp only at h1 ⊢); omega) (by intro b h1; (try dsimp only at h1 ⊢); omega), ((HSL.out.mod Cx4.out (fun _ _ h => h)).mod Cx10.out (sN HBT)), ((HML.out.trans Cx4.out (fun _ _ h => h.elim)).trans Cx10.out (by intro k h1 h2; omega))⟩
   case measure => simp [intOf]; omega
  ·obtain rfl : l.length = k := by omega
   have hq := HAL.out
   rw [List.take_length] at hq
   have HQ := Lib.hid hq
   clear hq
   go_upto_region 3 with (fail)
   refine wp_region_U 22 [11] [0] (fun a0 HA0 => ?_)
   have oe9 := ev HA0 9 rfl
   have oe10 := ev HA0 10 rfl
   refine QSeq.pure rfl (.bool false) (fun E => ex_binE rfl (E.v oe10) (E.v oe9) (guard_ints _ _ _ _ _ _) (run_lss_i _ _ _ Tryz.underlying3) (congrArg Value.bool (decide_eq_false (by omega)))) ?_
   refine QSeq.nil (t' := [_]) rfl ?_
   obtain rfl := HA0.out
   clear HA0 oe9 oe10
   simp only [pz, Act.put, sIB, sCZ, sCS]
   go_upto_region 7 with (fail)
   refine wp_region_U 22 [21, 4] [0, 1] (fun a0 HA0 => ?_)
   have oe5 := ev HA0 5 rfl
   refine QSeq.pure rfl _ (fun E => ex_move rfl (E.v oe5)) ?_
   refine QSeq.pure rfl _ (fun E => ex_assign rfl (E.d 0 0)) ?_
   refine QSeq.nil (t' := [_, _]) rfl ?_
   obtain rfl := HA0.out
   clear HA0 oe5
   simp only [pz, Act.put, sIB, sCZ, sCS]
   go_wp2
   go_ret
   exact ⟨_, rfl, by rw [List.take_length]; exact HQ.out.rd.widen (by intro b h1; (try dsimp only at h1 ⊢); omega), HML.out⟩
set_option maxHeartbeats 4000000 in
theorem copied_Vt : CopL VtR cpNo 101 102 := by
 intro R2 l v w hs hB2 hl hP
 obtain ⟨ao, cap, rfl⟩ := hs.shape
 have HS := Lib.hid hs
 have HBT := Lib.hid hB2
 have HL := Lib.hid hl
 have HP := Lib.hid hP
 clear hs hB2 hl hP
 go_enter Tryz.func101, Tryz.ntmps101
 go_upto_region 2 with (fail)
 have HM0 := hid (Mod.refl (fun _ => False) w)
 go_upto_region 2 with (fail)
 refine wp_region_U 22 [8, 9, 10] [0, 1, 2] (fun a0 HA0 => ?_)
 have oe0 := ev HA0 0 rfl
 refine QSeq.pure rfl _ (fun E => ex_move rfl (E.v oe0)) ?_
 refine QSeq.pure rfl (.int .i64 l.length) (fun E => ex_lenS rfl (E.d 0 0) Tryz.underlying57) ?_
 refine QSeq.pure rfl (.int .i64 0) (fun E => ex_move rfl rfl) ?_
 refine QSeq.nil (t' := [_, _, _]) rfl ?_
 obtain rfl := HA0.out
 clear HA0 oe0
 simp only [pz, Act.put, sIB, sCZ, sCS]
 go_wp2
 go_loopw [5, 10] (fun ta ti wr => ∃ k : Nat, ti = .int .i64 (k : Int) ∧ k ≤ l.length ∧ w.heap.size ≤ wr.heap.size ∧ OwS VtR 49 (fun b => w.heap.size ≤ b ∧ b < wr.heap.size) (fun b => w.heap.size ≤ b ∧ b < wr.heap.size) wr ta (l.take k) ∧ RdS VtR R2 wr (.slice ao l.length cap) l ∧ Mod (fun _ => False) w wr) (fun _ ti _ => l.length - (intOf ti).toNat)
 case atStart => exact ⟨0, rfl, Nat.zero_le _, Nat.le_refl _, OwS.nil _ _ _ _ _, HS.out, HM0.out⟩
 case round =>
  obtain ⟨k, rfl, hk, hz, ha, hs, hm⟩ := hrel
  obtain ⟨wl, rfl⟩ : ∃ x, x = wr := ⟨_, rfl⟩
  obtain ⟨aol, capl, rfl⟩ := ha.shape
  have HAL := Lib.hid ha
  have HSL := Lib.hid hs
  have HML := Lib.hid hm
  clear ha hs hm HS HM0
  by_cases hlt : k < l.length
  ·skip
   go_upto_region 3 with (fail)
   refine wp_region_U 22 [11] [0] (fun a0 HA0 => ?_)
   have oe9 := ev HA0 9 rfl
   have oe10 := ev HA0 10 rfl
   refine QSeq.pure rfl (.bool true) (fun E => ex_binE rfl (E.v oe10) (E.v oe9) (guard_ints _ _ _ _ _ _) (run_lss_i _ _ _ Tryz.underlying3) (congrArg Value.bool (decide_eq_true (by omega)))) ?_
   refine QSeq.nil (t' := [_]) rfl ?_
   obtain rfl := HA0.out
   clear HA0 oe9 oe10
   simp only [pz, Act.put, sIB, sCZ, sCS]
   obtain ⟨g0, o0, cs, eao, hrg, hrd, hcs⟩ := HSL.out.at hlt
   subst eao
   have HCL := hid (show cs.length = 38 from VtR.len hrd)
   have HAT := hid (show CellsAt R2 wl g0 (o0 + k * 38) cs from ⟨hrg, hcs⟩)
   have HRD := Lib.hid hrd
   have HOC := hid (VtR.one hrd)
   have HPK := hid (HP.out _ (List.getElem_mem hlt))
   clear hrg hrd hcs
   go_upto_region 4 with (fail)
   refine wp_region_U 22 [12, 13, 7, 25] [0, 1, 2, 3] (fun a0 HA0 => ?_)
   have oe8 := ev HA0 8 rfl
   have oe10 := ev HA0 10 rfl
   refine QSeq.pure rfl (.pointer (some ⟨g0, o0 + k * 38, none⟩)) (fun E => ex_idxS (i := k) (s := 38) rfl Tryz.underlying57 (by kernel_rfl) (E.v oe8) (E.v oe10) (by omega)) ?_
   refine QSeq.pure rfl _ (fun E => ex_loadA rfl Tryz.underlying49 rfl (off := o0 + k * 38) (cs := cs) (by rw [HCL.out]; kernel_rfl) (E.d 0 0) (fun j u hu => (HAT.out).2 j u hu)) ?_
   refine QSeq.go fun act E => ?_
   refine qc_alloc rfl (wanted_none rfl) rfl (z := [.int .i64 0, .int .i64 0, .int .i64 0, .int .i64 0, .int .u8 0, .int .u8 0, .int .u8 0, .int .u8 0, .int .u8 0, .int .u8 0, .int .u8 0, .int .u8 0, .int .u8 0, .int .u8 0, .int .u8 0, .int .u8 0, .int .u8 0, .int .u8 0, .int .u8 0, .int .u8 0, .int .u8 0, .int .u8 0, .int .u8 0, .int .u8 0, .int .u8 0, .int .u8 0, .int .u8 0, .int .u8 0, .int .u8 0, .int .u8 0, .int .u8 0, .int .u8 0, .int .u8 0, .int .u8 0, .int .u8 0, .int .u8 0, .int .i64 0, .int .i64 0]) (by kernel_rfl) ?_
   intro u4_2 qq hm
   have zl4_2 := qq.lt
   have Hx1 := hid qq
   have zu4_2 := hm.size
   have Cx2 := hid (show Mod (fun _ => False) wl u4_2 from hm)
   clear hm
   clear act E qq
   refine QSeq.go fun act E => ?_
   have hlz : (cs).length = List.length ([.int .i64 0, .int .i64 0, .int .i64 0, .int .i64 0, .int .u8 0, .int .u8 0, .int .u8 0, .int .u8 0, .int .u8 0, .int .u8 0, .int .u8 0, .int .u8 0, .int .u8 0, .int .u8 0, .int .u8 0, .int .u8 0, .int .u8 0, .int .u8 0, .int .u8 0, .int .u8 0, .int .u8 0, .int .u8 0, .int .u8 0, .int .u8 0, .int .u8 0, .int .u8 0, .int .u8 0, .int .u8 0, .int .u8 0, .int .u8 0, .int .u8 0, .int .u8 0, .int .u8 0, .int .u8 0, .int .u8 0, .int .u8 0, .int .i64 0, .int .i64 0] : List Value) := (by rw [HCL.out]; rfl)
   refine qc_store rfl (wanted_none rfl) rfl Hx1.out (off := 0) (vs := cs) (by rw [hlz]; kernel_rfl) HOC.out (by rw [hlz]; exact Nat.le_of_eq (Nat.zero_add _)) (E.d 2 0) (ec (E.d 1 1)) ?_
   intro u4_3 qc0 hm
   have qq := qc0.eqv (b := (cs : List Value).toArray) (lay_whole #[.int .i64 0, .int .i64 0, .int .i64 0, .int .i64 0, .int .u8 0, .int .u8 0, .int .u8 0, .int .u8 0, .int .u8 0, .int .u8 0, .int .u8 0, .int .u8 0, .int .u8 0, .int .u8 0, .int .u8 0, .int .u8 0, .int .u8 0, .int .u8 0, .int .u8 0, .int .u8 0, .int .u8 0, .int .u8 0, .int .u8 0, .int .u8 0, .int .u8 0, .int .u8 0, .int .u8 0, .int .u8 0, .int .u8 0, .int .u8 0, .int .u8 0, .int .u8 0, .int .u8 0, .int .u8 0, .int .u8 0, .int .u8 0, .int .i64 0, .int .i64 0] _ (by rw [hlz]; rfl))
   clear qc0 hlz
   have Hx3 := hid qq
   have zu4_3 := hm.size
   have HMu4_3 := hid hm
   have Cx4 := hid (Mod.goS (S' := (fun _ => False)) Cx2.out hm (fun _ h => h) (by intro k h0 h2; omega))
   clear hm Cx2
   clear act E qq Hx1
   clear HMu4_3
   refine QSeq.nil (t' := [_, _, _, _]) rfl ?_
   obtain rfl := HA0.out
   clear HA0 oe8 oe10
   simp only [pz, Act.put, sIB, sCZ, sCS, List.set_nil]
   go_upto_region 5 with (fail)
   refine wp_region_U 22 [14, 15, 16, 17, 18, 19, 5] [0, 1, 2, 3, 4, 5, 6] (fun a0 HA0 => ?_)
   have oe1 := ev HA0 1 rfl
   have oe5 := ev HA0 5 rfl
   have oe7 := ev HA0 7 rfl
   refine QSeq.pure rfl _ (fun E => ex_move rfl (E.y 6 oe5)) ?_
   refine QSeq.pure rfl _ (fun E => ex_move rfl (E.v oe1)) ?_
   refine QSeq.pure rfl _ (fun E => ex_loadA rfl Tryz.underlying49 rfl (off := 0) (cs := cs) (by rw [HCL.out]; kernel_rfl) (E.v oe7) (Cs.whole Hx3.out)) ?_
   refine QSeq.go fun act E => ?_
   have ea16 : act.eval (.tmp 16) = .agg cs.toArray := (E.d 2 0)
   refine qc_call (args := #[.agg cs.toArray]) rfl (wanted_none rfl) (by rw [ex_callV rfl (E.d 1 1) Tryz.func102 (by kernel_rfl) (by kernel_rfl)]; exact congrArg (fun z => Result.ok (Next.enter _ z) _) (by simp only [List.map_toArray, List.map_cons, List.map_nil, ea16]; try rfl)) (same_Vt _ _ _ _ (HRD.out.mod Cx4.out (fun _ _ h => h)) (by intro k h1; have hb := HBT.out k h1; omega) HPK.out) ?_
   rintro e u5_3 ⟨cn, rfl, qnw, hm⟩
   have HCN := hid (VtR.len qnw)
   refine ⟨_, rfl, ?_⟩
   have Hx5 := hid qnw
   have zu5_3 := hm.size
   have Cx6 := hid (show Mod (fun _ => False) u4_3 u5_3 from hm)
   clear hm
   clear act E qnw ea16
   refine QSeq.go fun act E => ?_
   refine qc_buildS (e := 49) (cs := cn) (zc := [.int .i64 0, .int .i64 0, .int .i64 0, .int .i64 0, .int .u8 0, .int .u8 0, .int .u8 0, .int .u8 0, .int .u8 0, .int .u8 0, .int .u8 0, .int .u8 0, .int .u8 0, .int .u8 0, .int .u8 0, .int .u8 0, .int .u8 0, .int .u8 0, .int .u8 0, .int .u8 0, .int .u8 0, .int .u8 0, .int .u8 0, .int .u8 0, .int .u8 0, .int .u8 0, .int .u8 0, .int .u8 0, .int .u8 0, .int .u8 0, .int .u8 0, .int .u8 0, .int .u8 0, .int .u8 0, .int .u8 0, .int .u8 0, .int .i64 0, .int .i64 0]) (sz := 38) rfl (wanted_none rfl) rfl Tryz.underlying57 (by kernel_rfl) rfl (by decide) (by decide) (E.d 3 0) (VtR.len Hx5.out) ?_
   intro u5_4 qrow hm
   have zl5_4 := qrow.lt
   have Hx7 := hid qrow
   have zu5_4 := hm.size
   have HMu5_4 := hid hm
   have Cx8 := hid (Cx6.out.goE hm)
   clear hm Cx6
   clear act E qrow
   refine QSeq.go fun act E => ?_
   refine qc_appS (A := VtR) (e := 49) rfl (wanted_none rfl) rfl (.agg #[.int .i64 0, .int .i64 0, .int .i64 0, .int .i64 0, .int .u8 0, .int .u8 0, .int .u8 0, .int .u8 0, .int .u8 0, .int .u8 0, .int .u8 0, .int .u8 0, .int .u8 0, .int .u8 0, .int .u8 0, .int .u8 0, .int .u8 0, .int .u8 0, .int .u8 0, .int .u8 0, .int .u8 0, .int .u8 0, .int .u8 0, .int .u8 0, .int .u8 0, .int .u8 0, .int .u8 0, .int .u8 0, .int .u8 0, .int .u8 0, .int .u8 0, .int .u8 0, .int .u8 0, .int .u8 0, .int .u8 0, .int .u8 0, .int .i64 0, .int .i64 0]) 80 Tryz.underlying57 info_VtC (by rfl) (of_decide_eq_true (by kernel_rfl)) (E.d 0 4) (E.d 4 0) (((HAL.out.mod Cx4.out (fun _ _ h => h) (fun _ _ h => h)).mod Cx8.out (fun _ _ h => h) (fun _ _ h => h))) (RdS.single (R := (fun k => (New u4_3 u5_3 k) ∨ (k = u5_3.heap.size))) Hx7.out ((Hx5.out.mod HMu5_4.out (fun _ _ h => h)).widen (by intro k h1; first | omega | exact h1.elim | exact Or.inl h1 | exact Or.inr (h1))) (by right; rfl)) (by intro k h1 h2; omega) (by have h9 := HL.out; rw [List.length_take]; simp only [List.length_cons, List.length_nil]; omega) (by have h9 := HL.out; rw [List.length_take]; simp only [List.length_cons, List.length_nil]; rw [maxLen_val]; omega) ?_
   intro ao5 cap5 u5_5 qout hm
   have Hx9 := hid (qout.widen (R' := (fun k => (New w wl k) ∨ (New u5_4 u5_5 k))) (E' := (fun k => (New w wl k) ∨ (New u4_3 u5_3 k) ∨ (k = u5_3.heap.size))) (fun _ h => h) (by intro k h1; rcases h1 with h1 | (h1 | h1) <;> first | omega | exact h1.elim | exact Or.inl h1 | exact Or.inr (Or.inl h1) | exact Or.inr (Or.inr (h1))))
   have zu5_5 := hm.size
   have HMu5_5 := hid hm
   have Cx10 := hid (Mod.goS (S' := (fun k => (New w wl k))) Cx8.out hm (fun _ h => h.elim) (by intro k h0 h2; exact h2))
   clear hm Cx8
   clear act E qout HAL
   refine QSeq.pure rfl _ (fun E => ex_assign rfl (E.d 5 0)) ?_
   have Hx11 := hid ((Hx5.out.mod HMu5_4.out (fun _ _ h => h)).mod HMu5_5.out (by intro k h1 h2; omega))
   have Hx12 := hid (Hx7.out.mod HMu5_5.out (by intro h2; omega))
   clear Hx5 Hx7 HMu5_4 HMu5_5
   refine QSeq.nil (t' := [_, _, _, _, _, _, _]) rfl ?_
   obtain rfl := HA0.out
   clear HA0 oe1 oe5 oe7
   simp only [pz, Act.put, sIB, sCZ, sCS]
   have hq := Hx9.out
   rw [show l.take k ++ [l[k]] = l.take (k + 1) from (List.take_succ_eq_append_getElem hlt).symm] at hq
   have HQ := Lib.hid hq
   clear hq
   go_upto_region 6 with (fail)
   refine wp_region_U 22 [20, 10] [0, 1] (fun a0 HA0 => ?_)
   have oe10 := ev HA0 10 rfl
   refine QSeq.pure rfl (.int .i64 (((k : Nat) : Int) + 1)) (fun E => ex_binE rfl (E.y 1 oe10) rfl (guard_ints _ _ _ _ _ _) (run_add_i _ _ Tryz.underlying3) (congrArg (Value.int .i64) (IntWalk.i64_in _ (by have h9 := HL.out; omega)))) ?_
   refine QSeq.pure rfl _ (fun E => ex_move rfl (E.d 0 0)) ?_
   refine QSeq.nil (t' := [_, _]) rfl ?_
   obtain rfl := HA0.out
   clear HA0 oe10
   simp only [pz, Act.put, sIB, sCZ, sCS]
   go_wp2
   go_roundw
   case rel => exact ⟨k + 1, by go_num, by omega, by omega, HQ.out.widen (by intro b h1; (try dsimp only at h1 ⊢); omega) (by intro b h1; (try dsimp only at h1 ⊢); omega), ((HSL.out.mod Cx4.out (fun _ _ h => h)).mod Cx10.out (sN HBT)), ((HML.out.trans Cx4.out (fun _ _ h => h.elim)).trans Cx10.out (by intro k h1 h2; omega))⟩
   case measure => simp [intOf]; omega
  ·obtain rfl : l.length = k := by omega
   have hq := HAL.out
   rw [List.take_length] at hq
   have HQ := Lib.hid hq
   clear hq
   go_upto_region 3 with (fail)
   refine wp_region_U 22 [11] [0] (fun a0 HA0 => ?_)
   have oe9 := ev HA0 9 rfl
   have oe10 := ev HA0 10 rfl
   refine QSeq.pure rfl (.bool false) (fun E => ex_binE rfl (E.v oe10) (E.v oe9) (guard_ints _ _ _ _ _ _) (run_lss_i _ _ _ Tryz.underlying3) (congrArg Value.bool (decide_eq_false (by omega)))) ?_
   refine QSeq.nil (t' := [_]) rfl ?_
   obtain rfl := HA0.out
   clear HA0 oe9 oe10
   simp only [pz, Act.put, sIB, sCZ, sCS]
   go_upto_region 7 with (fail)
   refine wp_region_U 22 [21, 4] [0, 1] (fun a0 HA0 => ?_)
   have oe5 := ev HA0 5 rfl
   refine QSeq.pure rfl _ (fun E => ex_move rfl (E.v oe5)) ?_
   refine QSeq.pure rfl _ (fun E => ex_assign rfl (E.d 0 0)) ?_
   refine QSeq.nil (t' := [_, _]) rfl ?_
   obtain rfl := HA0.out
   clear HA0 oe5
   simp only [pz, Act.put, sIB, sCZ, sCS]
   go_wp2
   go_ret
   exact ⟨_, rfl, by rw [List.take_length]; exact HQ.out.rd.widen (by intro b h1; (try dsimp only at h1 ⊢); omega), HML.out⟩
set_option maxHeartbeats 4000000 in
theorem cop_Ce : CopR CeR cpCe 97 := by
 intro R2 x cs w hx hB2 hP
 obtain ⟨v_l, rfl, hok, hs0⟩ := hx
 obtain ⟨ao, cap, rfl⟩ := hs0.shape
 have HS := Lib.hid hs0
 have HBT := Lib.hid hB2
 have HOK := Lib.hid hok
 have HP := Lib.hid hP
 clear hs0 hB2 hok hP
 go_enter Tryz.func97, Tryz.ntmps97
 go_upto_region 1 with (fail)
 obtain ⟨w1, hw1⟩ : ∃ zz, zz = ((w.alloc (.cells (x.cells (.slice ao x.l.length cap) : List Value).toArray 35)).alloc (.cells #[.int .i64 0, .int .i64 0, .int .u8 0, .int .u8 0, .int .u8 0, .int .u8 0, .int .u8 0, .int .u8 0, .int .u8 0, .int .u8 0, .int .u8 0, .int .u8 0, .int .u8 0, .int .u8 0, .int .u8 0, .int .u8 0, .int .u8 0, .int .u8 0, .int .u8 0, .int .u8 0, .int .u8 0, .int .u8 0, .int .u8 0, .int .u8 0, .int .u8 0, .int .u8 0, .int .u8 0, .int .u8 0, .int .u8 0, .int .u8 0, .int .u8 0, .int .u8 0, .int .u8 0, .int .u8 0, .int .i64 0, .int .i64 0, .int .i64 0, .slice none 0 0] 35)) := ⟨_, rfl⟩
 change Code.wp _ _ _ _ ((w.alloc (.cells (x.cells (.slice ao x.l.length cap) : List Value).toArray 35)).alloc (.cells #[.int .i64 0, .int .i64 0, .int .u8 0, .int .u8 0, .int .u8 0, .int .u8 0, .int .u8 0, .int .u8 0, .int .u8 0, .int .u8 0, .int .u8 0, .int .u8 0, .int .u8 0, .int .u8 0, .int .u8 0, .int .u8 0, .int .u8 0, .int .u8 0, .int .u8 0, .int .u8 0, .int .u8 0, .int .u8 0, .int .u8 0, .int .u8 0, .int .u8 0, .int .u8 0, .int .u8 0, .int .u8 0, .int .u8 0, .int .u8 0, .int .u8 0, .int .u8 0, .int .u8 0, .int .u8 0, .int .i64 0, .int .i64 0, .int .i64 0, .slice none 0 0] 35))
 rw [← hw1]
 have HB1 := hid (show Cs w1 (w.heap.size) (x.cells (.slice ao x.l.length cap) : List Value).toArray 35 by rw [hw1]; exact (Cs.new _ _ _).alloc _)
 have HB2 := hid (show Cs w1 (w.heap.size + 1) #[.int .i64 0, .int .i64 0, .int .u8 0, .int .u8 0, .int .u8 0, .int .u8 0, .int .u8 0, .int .u8 0, .int .u8 0, .int .u8 0, .int .u8 0, .int .u8 0, .int .u8 0, .int .u8 0, .int .u8 0, .int .u8 0, .int .u8 0, .int .u8 0, .int .u8 0, .int .u8 0, .int .u8 0, .int .u8 0, .int .u8 0, .int .u8 0, .int .u8 0, .int .u8 0, .int .u8 0, .int .u8 0, .int .u8 0, .int .u8 0, .int .u8 0, .int .u8 0, .int .u8 0, .int .u8 0, .int .i64 0, .int .i64 0, .int .i64 0, .slice none 0 0] 35 by rw [hw1]; exact Cs_newN _ _ _ (by simp))
 have hm : Mod (fun _ => False) w w1 := by rw [hw1]; exact ((Mod.refl _ _).alloc _).alloc _
 have HM0 := hid (show Mod (fun _ => False) w w1 from hm.mono (fun _ _ h => h.elim))
 have hs1 : w1.heap.size = w.heap.size + 2 := by rw [hw1]; simp
 have Hx1 := hid (HS.out.mod hm (fun _ _ h => h))
 clear HS
 clear hw1 hm
 go_upto_region 1 with (fail)
 refine wp_region_U 8 [3, 4, 5, 6, 12] [0, 1, 2, 3, 4] (fun a0 HA0 => ?_)
 have oe1 := ev HA0 1 rfl
 refine QSeq.pure rfl (.pointer (some ⟨w.heap.size, 37, none⟩)) (fun E => ex_field rfl Tryz.underlying35 rfl (by kernel_rfl) (E.v oe1)) ?_
 refine QSeq.pure rfl _ (fun E => ex_load1 rfl Tryz.underlying33 rfl (E.d 0 0) (Cs.post1 (pre := []) (mid := x.c.cells) (post := [.slice ao x.l.length cap]) (m := 37) (k := 0) HB1.out (Cm.len HOK.out.2.1) rfl rfl)) ?_
 refine QSeq.call rfl rfl Tryz.func130 (copied_St _ x.l _ _ Hx1.out (by intro k h1; have hb := HBT.out k h1; omega) HP.out (fun _ _ => trivial)) (fun E => args2 (E.d 1 0) rfl) ?_
 rintro e u1_2 ⟨vo, rfl, qo, hm⟩
 obtain ⟨ao_o, cap_o, rfl⟩ := qo.shape
 refine ⟨_, rfl, ?_⟩
 have Hx2 := hid qo
 have zu1_2 := hm.size
 have Cx3 := hid (show Mod (fun _ => False) w1 u1_2 from hm)
 clear hm
 clear qo
 refine QSeq.pure rfl (.pointer (some ⟨w.heap.size, 37, none⟩)) (fun E => ex_field rfl Tryz.underlying35 rfl (by kernel_rfl) (E.v oe1)) ?_
 refine QSeq.go fun act E => ?_
 refine qc_store rfl (wanted_none rfl) rfl (HB1.out.mod Cx3.out (fun h => h)) (off := 37) (vs := [Value.slice ao_o x.l.length cap_o]) (by kernel_rfl) one1 (by simp [Ce.cells, Cm.len HOK.out.2.1]) (E.d 3 0) (ec (E.d 2 1)) ?_
 intro u1_4 qc0 hm
 have qB1 := qc0.eqv (b := ((x.c.cells ++ [Value.slice ao_o x.l.length cap_o]) : List Value).toArray) (lay_l x.c _ _ HOK.out.2.1)
 clear qc0
 have Hx4 := hid qB1
 have zu1_4 := hm.size
 have HMu1_4 := hid hm
 have Cx5 := hid (Mod.goS (S' := (fun k => (k = w.heap.size))) Cx3.out hm (fun _ h => h.elim) (by intro k h0 h2; exact h2))
 clear hm Cx3
 clear act E qB1 HB1
 have Hx6 := hid (Hx2.out.mod HMu1_4.out (by intro k h1 h2; omega))
 clear Hx2 HMu1_4
 refine QSeq.nil (t' := [_, _, _, _, _]) rfl ?_
 obtain rfl := HA0.out
 clear HA0 oe1
 simp only [pz, Act.put, sIB, sCZ, sCS, List.set_nil]
 go_upto_region 2 with (fail)
 refine wp_region_U 8 [7, 9] [0, 1] (fun a0 HA0 => ?_)
 have oe1 := ev HA0 1 rfl
 have oe2 := ev HA0 2 rfl
 refine QSeq.pure rfl _ (fun E => ex_loadA rfl Tryz.underlying35 rfl (off := 0) (cs := (x.c.cells ++ [Value.slice ao_o x.l.length cap_o])) (by rw [List.length_append, Cm.len HOK.out.2.1]; exact size_ce) (E.v oe1) (Cs.whole Hx4.out)) ?_
 refine QSeq.go fun act E => ?_
 refine qc_store rfl (wanted_none rfl) rfl (HB2.out.mod Cx5.out (by intro h2; omega)) (off := 0) (vs := (x.c.cells ++ [Value.slice ao_o x.l.length cap_o])) (by rw [List.length_append, Cm.len HOK.out.2.1]; exact size_ce) (one_ce _ _ rfl) (by simp [Cm.len HOK.out.2.1]) (E.v oe2) (ec (E.d 0 0)) ?_
 intro u2_1 qc0 hm
 have qB2 := qc0.eqv (b := ((x.c.cells ++ [Value.slice ao_o x.l.length cap_o]) : List Value).toArray) (lay_whole _ _ (by simp [Cm.len HOK.out.2.1]))
 clear qc0
 have Hx7 := hid qB2
 have zu2_1 := hm.size
 have Cx8 := hid (show Mod (fun k => (k = w.heap.size + 1)) u1_4 u2_1 from hm)
 clear hm
 clear act E qB2 HB2
 refine QSeq.nil (t' := [_, _]) rfl ?_
 obtain rfl := HA0.out
 clear HA0 oe1 oe2
 simp only [pz, Act.put, sIB, sCZ, sCS, List.set_nil]
 go_wp2
 exact bodyPost_ret (results_cellA rfl _ _ (w.heap.size + 1) (x.c.cells ++ [Value.slice ao_o x.l.length cap_o]) rfl (fun k u hu => by rw [Hx7.out.cell]; simpa using hu) Tryz.underlying35 rfl (by rw [List.length_append, Cm.len HOK.out.2.1]; exact size_ce)) rfl ⟨_, rfl, ⟨_, rfl, HOK.out, (Hx6.out.mod Cx8.out (by intro k h1 h2; omega)).widen (by intro k h1; omega)⟩, ((HM0.out.trans Cx5.out (by intro k h1 h2; omega)).trans Cx8.out (by intro k h1 h2; omega))⟩
set_option maxHeartbeats 4000000 in
theorem copied_Ce : CopL CeR cpCe 132 97 := by
 intro R2 l v w hs hB2 hl hP
 obtain ⟨ao, cap, rfl⟩ := hs.shape
 have HS := Lib.hid hs
 have HBT := Lib.hid hB2
 have HL := Lib.hid hl
 have HP := Lib.hid hP
 clear hs hB2 hl hP
 go_enter Tryz.func132, Tryz.ntmps132
 go_upto_region 2 with (fail)
 have HM0 := hid (Mod.refl (fun _ => False) w)
 go_upto_region 2 with (fail)
 refine wp_region_U 22 [8, 9, 10] [0, 1, 2] (fun a0 HA0 => ?_)
 have oe0 := ev HA0 0 rfl
 refine QSeq.pure rfl _ (fun E => ex_move rfl (E.v oe0)) ?_
 refine QSeq.pure rfl (.int .i64 l.length) (fun E => ex_lenS rfl (E.d 0 0) Tryz.underlying38) ?_
 refine QSeq.pure rfl (.int .i64 0) (fun E => ex_move rfl rfl) ?_
 refine QSeq.nil (t' := [_, _, _]) rfl ?_
 obtain rfl := HA0.out
 clear HA0 oe0
 simp only [pz, Act.put, sIB, sCZ, sCS]
 go_wp2
 go_loopw [5, 10] (fun ta ti wr => ∃ k : Nat, ti = .int .i64 (k : Int) ∧ k ≤ l.length ∧ w.heap.size ≤ wr.heap.size ∧ OwS CeR 35 (fun b => w.heap.size ≤ b ∧ b < wr.heap.size) (fun b => w.heap.size ≤ b ∧ b < wr.heap.size) wr ta (l.take k) ∧ RdS CeR R2 wr (.slice ao l.length cap) l ∧ Mod (fun _ => False) w wr) (fun _ ti _ => l.length - (intOf ti).toNat)
 case atStart => exact ⟨0, rfl, Nat.zero_le _, Nat.le_refl _, OwS.nil _ _ _ _ _, HS.out, HM0.out⟩
 case round =>
  obtain ⟨k, rfl, hk, hz, ha, hs, hm⟩ := hrel
  obtain ⟨wl, rfl⟩ : ∃ x, x = wr := ⟨_, rfl⟩
  obtain ⟨aol, capl, rfl⟩ := ha.shape
  have HAL := Lib.hid ha
  have HSL := Lib.hid hs
  have HML := Lib.hid hm
  clear ha hs hm HS HM0
  by_cases hlt : k < l.length
  ·skip
   go_upto_region 3 with (fail)
   refine wp_region_U 22 [11] [0] (fun a0 HA0 => ?_)
   have oe9 := ev HA0 9 rfl
   have oe10 := ev HA0 10 rfl
   refine QSeq.pure rfl (.bool true) (fun E => ex_binE rfl (E.v oe10) (E.v oe9) (guard_ints _ _ _ _ _ _) (run_lss_i _ _ _ Tryz.underlying3) (congrArg Value.bool (decide_eq_true (by omega)))) ?_
   refine QSeq.nil (t' := [_]) rfl ?_
   obtain rfl := HA0.out
   clear HA0 oe9 oe10
   simp only [pz, Act.put, sIB, sCZ, sCS]
   obtain ⟨g0, o0, cs, eao, hrg, hrd, hcs⟩ := HSL.out.at hlt
   subst eao
   have HCL := hid (show cs.length = 38 from CeR.len hrd)
   have HAT := hid (show CellsAt R2 wl g0 (o0 + k * 38) cs from ⟨hrg, hcs⟩)
   have HRD := Lib.hid hrd
   have HOC := hid (CeR.one hrd)
   have HPK := hid (HP.out _ (List.getElem_mem hlt))
   clear hrg hrd hcs
   go_upto_region 4 with (fail)
   refine wp_region_U 22 [12, 13, 7, 25] [0, 1, 2, 3] (fun a0 HA0 => ?_)
   have oe8 := ev HA0 8 rfl
   have oe10 := ev HA0 10 rfl
   refine QSeq.pure rfl (.pointer (some ⟨g0, o0 + k * 38, none⟩)) (fun E => ex_idxS (i := k) (s := 38) rfl Tryz.underlying38 (by kernel_rfl) (E.v oe8) (E.v oe10) (by omega)) ?_
   refine QSeq.pure rfl _ (fun E => ex_loadA rfl Tryz.underlying35 rfl (off := o0 + k * 38) (cs := cs) (by rw [HCL.out]; kernel_rfl) (E.d 0 0) (fun j u hu => (HAT.out).2 j u hu)) ?_
   refine QSeq.go fun act E => ?_
   refine qc_alloc rfl (wanted_none rfl) rfl (z := [.int .i64 0, .int .i64 0, .int .u8 0, .int .u8 0, .int .u8 0, .int .u8 0, .int .u8 0, .int .u8 0, .int .u8 0, .int .u8 0, .int .u8 0, .int .u8 0, .int .u8 0, .int .u8 0, .int .u8 0, .int .u8 0, .int .u8 0, .int .u8 0, .int .u8 0, .int .u8 0, .int .u8 0, .int .u8 0, .int .u8 0, .int .u8 0, .int .u8 0, .int .u8 0, .int .u8 0, .int .u8 0, .int .u8 0, .int .u8 0, .int .u8 0, .int .u8 0, .int .u8 0, .int .u8 0, .int .i64 0, .int .i64 0, .int .i64 0, .slice none 0 0]) (by kernel_rfl) ?_
   intro u4_2 qq hm
   have zl4_2 := qq.lt
   have Hx1 := hid qq
   have zu4_2 := hm.size
   have Cx2 := hid (show Mod (fun _ => False) wl u4_2 from hm)
   clear hm
   clear act E qq
   refine QSeq.go fun act E => ?_
   have hlz : (cs).length = List.length ([.int .i64 0, .int .i64 0, .int .u8 0, .int .u8 0, .int .u8 0, .int .u8 0, .int .u8 0, .int .u8 0, .int .u8 0, .int .u8 0, .int .u8 0, .int .u8 0, .int .u8 0, .int .u8 0, .int .u8 0, .int .u8 0, .int .u8 0, .int .u8 0, .int .u8 0, .int .u8 0, .int .u8 0, .int .u8 0, .int .u8 0, .int .u8 0, .int .u8 0, .int .u8 0, .int .u8 0, .int .u8 0, .int .u8 0, .int .u8 0, .int .u8 0, .int .u8 0, .int .u8 0, .int .u8 0, .int .i64 0, .int .i64 0, .int .i64 0, .slice none 0 0] : List Value) := (by rw [HCL.out]; rfl)
   refine qc_store rfl (wanted_none rfl) rfl Hx1.out (off := 0) (vs := cs) (by rw [hlz]; kernel_rfl) HOC.out (by rw [hlz]; exact Nat.le_of_eq (Nat.zero_add _)) (E.d 2 0) (ec (E.d 1 1)) ?_
   intro u4_3 qc0 hm
   have qq := qc0.eqv (b := (cs : List Value).toArray) (lay_whole #[.int .i64 0, .int .i64 0, .int .u8 0, .int .u8 0, .int .u8 0, .int .u8 0, .int .u8 0, .int .u8 0, .int .u8 0, .int .u8 0, .int .u8 0, .int .u8 0, .int .u8 0, .int .u8 0, .int .u8 0, .int .u8 0, .int .u8 0, .int .u8 0, .int .u8 0, .int .u8 0, .int .u8 0, .int .u8 0, .int .u8 0, .int .u8 0, .int .u8 0, .int .u8 0, .int .u8 0, .int .u8 0, .int .u8 0, .int .u8 0, .int .u8 0, .int .u8 0, .int .u8 0, .int .u8 0, .int .i64 0, .int .i64 0, .int .i64 0, .slice none 0 0] _ (by rw [hlz]; rfl))
   clear qc0 hlz
   have Hx3 := hid qq
   have zu4_3 := hm.size
   have HMu4_3 := hid hm
   have Cx4 := hid (Mod.goS (S' := (fun _ => False)) Cx2.out hm (fun _ h => h) (by intro k h0 h2; omega))
   clear hm Cx2
   clear act E qq Hx1
   clear HMu4_3
   refine QSeq.nil (t' := [_, _, _, _]) rfl ?_
   obtain rfl := HA0.out
   clear HA0 oe8 oe10
   simp only [pz, Act.put, sIB, sCZ, sCS, List.set_nil]
   go_upto_region 5 with (fail)
   refine wp_region_U 22 [14, 15, 16, 17, 18, 19, 5] [0, 1, 2, 3, 4, 5, 6] (fun a0 HA0 => ?_)
   have oe1 := ev HA0 1 rfl
   have oe5 := ev HA0 5 rfl
   have oe7 := ev HA0 7 rfl
   refine QSeq.pure rfl _ (fun E => ex_move rfl (E.y 6 oe5)) ?_
   refine QSeq.pure rfl _ (fun E => ex_move rfl (E.v oe1)) ?_
   refine QSeq.pure rfl _ (fun E => ex_loadA rfl Tryz.underlying35 rfl (off := 0) (cs := cs) (by rw [HCL.out]; kernel_rfl) (E.v oe7) (Cs.whole Hx3.out)) ?_
   refine QSeq.go fun act E => ?_
   have ea16 : act.eval (.tmp 16) = .agg cs.toArray := (E.d 2 0)
   refine qc_call (args := #[.agg cs.toArray]) rfl (wanted_none rfl) (by rw [ex_callV rfl (E.d 1 1) Tryz.func97 (by kernel_rfl) (by kernel_rfl)]; exact congrArg (fun z => Result.ok (Next.enter _ z) _) (by simp only [List.map_toArray, List.map_cons, List.map_nil, ea16]; try rfl)) (cop_Ce _ _ _ _ (HRD.out.mod Cx4.out (fun _ _ h => h)) (by intro k h1; have hb := HBT.out k h1; omega) HPK.out) ?_
   rintro e u5_3 ⟨cn, rfl, qnw, hm⟩
   have HCN := hid (CeR.len qnw)
   refine ⟨_, rfl, ?_⟩
   have Hx5 := hid qnw
   have zu5_3 := hm.size
   have Cx6 := hid (show Mod (fun _ => False) u4_3 u5_3 from hm)
   clear hm
   clear act E qnw ea16
   refine QSeq.go fun act E => ?_
   refine qc_buildS (e := 35) (cs := cn) (zc := [.int .i64 0, .int .i64 0, .int .u8 0, .int .u8 0, .int .u8 0, .int .u8 0, .int .u8 0, .int .u8 0, .int .u8 0, .int .u8 0, .int .u8 0, .int .u8 0, .int .u8 0, .int .u8 0, .int .u8 0, .int .u8 0, .int .u8 0, .int .u8 0, .int .u8 0, .int .u8 0, .int .u8 0, .int .u8 0, .int .u8 0, .int .u8 0, .int .u8 0, .int .u8 0, .int .u8 0, .int .u8 0, .int .u8 0, .int .u8 0, .int .u8 0, .int .u8 0, .int .u8 0, .int .u8 0, .int .i64 0, .int .i64 0, .int .i64 0, .slice none 0 0]) (sz := 38) rfl (wanted_none rfl) rfl Tryz.underlying38 (by kernel_rfl) rfl (by decide) (by decide) (E.d 3 0) (CeR.len Hx5.out) ?_
   intro u5_4 qrow hm
   have zl5_4 := qrow.lt
   have Hx7 := hid qrow
   have zu5_4 := hm.size
   have HMu5_4 := hid hm
   have Cx8 := hid (Cx6.out.goE hm)
   clear hm Cx6
   clear act E qrow
   refine QSeq.go fun act E => ?_
   refine qc_appS (A := CeR) (e := 35) rfl (wanted_none rfl) rfl (.agg #[.int .i64 0, .int .i64 0, .int .u8 0, .int .u8 0, .int .u8 0, .int .u8 0, .int .u8 0, .int .u8 0, .int .u8 0, .int .u8 0, .int .u8 0, .int .u8 0, .int .u8 0, .int .u8 0, .int .u8 0, .int .u8 0, .int .u8 0, .int .u8 0, .int .u8 0, .int .u8 0, .int .u8 0, .int .u8 0, .int .u8 0, .int .u8 0, .int .u8 0, .int .u8 0, .int .u8 0, .int .u8 0, .int .u8 0, .int .u8 0, .int .u8 0, .int .u8 0, .int .u8 0, .int .u8 0, .int .i64 0, .int .i64 0, .int .i64 0, .slice none 0 0]) 96 Tryz.underlying38 info_Ce (by rfl) (of_decide_eq_true (by kernel_rfl)) (E.d 0 4) (E.d 4 0) (((HAL.out.mod Cx4.out (fun _ _ h => h) (fun _ _ h => h)).mod Cx8.out (fun _ _ h => h) (fun _ _ h => h))) (RdS.single (R := (fun k => (New u4_3 u5_3 k) ∨ (k = u5_3.heap.size))) Hx7.out ((Hx5.out.mod HMu5_4.out (fun _ _ h => h)).widen (by intro k h1; first | omega | exact h1.elim | exact Or.inl h1 | exact Or.inr (h1))) (by right; rfl)) (by intro k h1 h2; omega) (by have h9 := HL.out; rw [List.length_take]; simp only [List.length_cons, List.length_nil]; omega) (by have h9 := HL.out; rw [List.length_take]; simp only [List.length_cons, List.length_nil]; rw [maxLen_val]; omega) ?_
   intro ao5 cap5 u5_5 qout hm
   have Hx9 := hid (qout.widen (R' := (fun k => (New w wl k) ∨ (New u5_4 u5_5 k))) (E' := (fun k => (New w wl k) ∨ (New u4_3 u5_3 k) ∨ (k = u5_3.heap.size))) (fun _ h => h) (by intro k h1; rcases h1 with h1 | (h1 | h1) <;> first | omega | exact h1.elim | exact Or.inl h1 | exact Or.inr (Or.inl h1) | exact Or.inr (Or.inr (h1))))
   have zu5_5 := hm.size
   have HMu5_5 := hid hm
   have Cx10 := hid (Mod.goS (S' := (fun k => (New w wl k))) Cx8.out hm (fun _ h => h.elim) (by intro k h0 h2; exact h2))
   clear hm Cx8
   clear act E qout HAL
   refine QSeq.pure rfl _ (fun E => ex_assign rfl (E.d 5 0)) ?_
   have Hx11 := hid ((Hx5.out.mod HMu5_4.out (fun _ _ h => h)).mod HMu5_5.out (by intro k h1 h2; omega))
   have Hx12 := hid (Hx7.out.mod HMu5_5.out (by intro h2; omega))
   clear Hx5 Hx7 HMu5_4 HMu5_5
   refine QSeq.nil (t' := [_, _, _, _, _, _, _]) rfl ?_
   obtain rfl := HA0.out
   clear HA0 oe1 oe5 oe7
   simp only [pz, Act.put, sIB, sCZ, sCS]
   have hq := Hx9.out
   rw [show l.take k ++ [l[k]] = l.take (k + 1) from (List.take_succ_eq_append_getElem hlt).symm] at hq
   have HQ := Lib.hid hq
   clear hq
   go_upto_region 6 with (fail)
   refine wp_region_U 22 [20, 10] [0, 1] (fun a0 HA0 => ?_)
   have oe10 := ev HA0 10 rfl
   refine QSeq.pure rfl (.int .i64 (((k : Nat) : Int) + 1)) (fun E => ex_binE rfl (E.y 1 oe10) rfl (guard_ints _ _ _ _ _ _) (run_add_i _ _ Tryz.underlying3) (congrArg (Value.int .i64) (IntWalk.i64_in _ (by have h9 := HL.out; omega)))) ?_
   refine QSeq.pure rfl _ (fun E => ex_move rfl (E.d 0 0)) ?_
   refine QSeq.nil (t' := [_, _]) rfl ?_
   obtain rfl := HA0.out
   clear HA0 oe10
   simp only [pz, Act.put, sIB, sCZ, sCS]
   go_wp2
   go_roundw
   case rel => exact ⟨k + 1, by go_num, by omega, by omega, HQ.out.widen (by intro b h1; (try dsimp only at h1 ⊢); omega) (by intro b h1; (try dsimp only at h1 ⊢); omega), ((HSL.out.mod Cx4.out (fun _ _ h => h)).mod Cx10.out (sN HBT)), ((HML.out.trans Cx4.out (fun _ _ h => h.elim)).trans Cx10.out (by intro k h1 h2; omega))⟩
   case measure => simp [intOf]; omega
  ·obtain rfl : l.length = k := by omega
   have hq := HAL.out
   rw [List.take_length] at hq
   have HQ := Lib.hid hq
   clear hq
   go_upto_region 3 with (fail)
   refine wp_region_U 22 [11] [0] (fun a0 HA0 => ?_)
   have oe9 := ev HA0 9 rfl
   have oe10 := ev HA0 10 rfl
   refine QSeq.pure rfl (.bool false) (fun E => ex_binE rfl (E.v oe10) (E.v oe9) (guard_ints _ _ _ _ _ _) (run_lss_i _ _ _ Tryz.underlying3) (congrArg Value.bool (decide_eq_false (by omega)))) ?_
   refine QSeq.nil (t' := [_]) rfl ?_
   obtain rfl := HA0.out
   clear HA0 oe9 oe10
   simp only [pz, Act.put, sIB, sCZ, sCS]
   go_upto_region 7 with (fail)
   refine wp_region_U 22 [21, 4] [0, 1] (fun a0 HA0 => ?_)
   have oe5 := ev HA0 5 rfl
   refine QSeq.pure rfl _ (fun E => ex_move rfl (E.v oe5)) ?_
   refine QSeq.pure rfl _ (fun E => ex_assign rfl (E.d 0 0)) ?_
   refine QSeq.nil (t' := [_, _]) rfl ?_
   obtain rfl := HA0.out
   clear HA0 oe5
   simp only [pz, Act.put, sIB, sCZ, sCS]
   go_wp2
   go_ret
   exact ⟨_, rfl, by rw [List.take_length]; exact HQ.out.rd.widen (by intro b h1; (try dsimp only at h1 ⊢); omega), HML.out⟩
set_option maxHeartbeats 4000000 in
theorem cop_Pm : CopR PmR cpPm 98 := by
 intro R2 x cs w hx hB2 hP
 obtain ⟨v_l, rfl, hok, hs0⟩ := hx
 obtain ⟨ao, cap, rfl⟩ := hs0.shape
 have HS := Lib.hid hs0
 have HBT := Lib.hid hB2
 have HOK := Lib.hid hok
 have HP := Lib.hid hP
 clear hs0 hB2 hok hP
 go_enter Tryz.func98, Tryz.ntmps98
 go_upto_region 1 with (fail)
 obtain ⟨w1, hw1⟩ : ∃ zz, zz = ((w.alloc (.cells (x.cells (.slice ao x.l.length cap) : List Value).toArray 40)).alloc (.cells #[.int .i64 0, .int .i64 0, .int .u64 0, .slice none 0 0, .int .i64 0, .int .i64 0] 40)) := ⟨_, rfl⟩
 change Code.wp _ _ _ _ ((w.alloc (.cells (x.cells (.slice ao x.l.length cap) : List Value).toArray 40)).alloc (.cells #[.int .i64 0, .int .i64 0, .int .u64 0, .slice none 0 0, .int .i64 0, .int .i64 0] 40))
 rw [← hw1]
 have HB1 := hid (show Cs w1 (w.heap.size) (x.cells (.slice ao x.l.length cap) : List Value).toArray 40 by rw [hw1]; exact (Cs.new _ _ _).alloc _)
 have HB2 := hid (show Cs w1 (w.heap.size + 1) #[.int .i64 0, .int .i64 0, .int .u64 0, .slice none 0 0, .int .i64 0, .int .i64 0] 40 by rw [hw1]; exact Cs_newN _ _ _ (by simp))
 have hm : Mod (fun _ => False) w w1 := by rw [hw1]; exact ((Mod.refl _ _).alloc _).alloc _
 have HM0 := hid (show Mod (fun _ => False) w w1 from hm.mono (fun _ _ h => h.elim))
 have hs1 : w1.heap.size = w.heap.size + 2 := by rw [hw1]; simp
 have Hx1 := hid (HS.out.mod hm (fun _ _ h => h))
 clear HS
 clear hw1 hm
 go_upto_region 1 with (fail)
 refine wp_region_U 8 [3, 4, 5, 6, 12] [0, 1, 2, 3, 4] (fun a0 HA0 => ?_)
 have oe1 := ev HA0 1 rfl
 refine QSeq.pure rfl (.pointer (some ⟨w.heap.size, 3, none⟩)) (fun E => ex_field rfl Tryz.underlying40 rfl (by kernel_rfl) (E.v oe1)) ?_
 refine QSeq.pure rfl _ (fun E => ex_load1 rfl Tryz.underlying38 rfl (E.d 0 0) (Cs.lit1 HB1.out rfl)) ?_
 refine QSeq.call rfl rfl Tryz.func132 (copied_Ce _ x.l _ _ Hx1.out (by intro k h1; have hb := HBT.out k h1; omega) HP.out.1 HP.out.2) (fun E => args2 (E.d 1 0) rfl) ?_
 rintro e u1_2 ⟨vo, rfl, qo, hm⟩
 obtain ⟨ao_o, cap_o, rfl⟩ := qo.shape
 refine ⟨_, rfl, ?_⟩
 have Hx2 := hid qo
 have zu1_2 := hm.size
 have Cx3 := hid (show Mod (fun _ => False) w1 u1_2 from hm)
 clear hm
 clear qo
 refine QSeq.pure rfl (.pointer (some ⟨w.heap.size, 3, none⟩)) (fun E => ex_field rfl Tryz.underlying40 rfl (by kernel_rfl) (E.v oe1)) ?_
 refine QSeq.go fun act E => ?_
 refine qc_store rfl (wanted_none rfl) rfl (HB1.out.mod Cx3.out (fun h => h)) (off := 3) (vs := [Value.slice ao_o x.l.length cap_o]) (by kernel_rfl) one1 (by show 3 + 1 ≤ 6; decide) (E.d 3 0) (ec (E.d 2 1)) ?_
 intro u1_4 qc0 hm
 have qB1 := qc0.eqv (b := (([.int .i64 x.rp, .int .i64 x.ep, .int .u64 (x.fl : Nat), Value.slice ao_o x.l.length cap_o, .int .i64 x.sb, .int .i64 x.mr]) : List Value).toArray) rfl
 clear qc0
 have Hx4 := hid qB1
 have zu1_4 := hm.size
 have HMu1_4 := hid hm
 have Cx5 := hid (Mod.goS (S' := (fun k => (k = w.heap.size))) Cx3.out hm (fun _ h => h.elim) (by intro k h0 h2; exact h2))
 clear hm Cx3
 clear act E qB1 HB1
 have Hx6 := hid (Hx2.out.mod HMu1_4.out (by intro k h1 h2; omega))
 clear Hx2 HMu1_4
 refine QSeq.nil (t' := [_, _, _, _, _]) rfl ?_
 obtain rfl := HA0.out
 clear HA0 oe1
 simp only [pz, Act.put, sIB, sCZ, sCS, List.set_nil]
 go_upto_region 2 with (fail)
 refine wp_region_U 8 [7, 9] [0, 1] (fun a0 HA0 => ?_)
 have oe1 := ev HA0 1 rfl
 have oe2 := ev HA0 2 rfl
 refine QSeq.pure rfl _ (fun E => ex_loadA rfl Tryz.underlying40 rfl (off := 0) (cs := ([.int .i64 x.rp, .int .i64 x.ep, .int .u64 (x.fl : Nat), Value.slice ao_o x.l.length cap_o, .int .i64 x.sb, .int .i64 x.mr])) (by kernel_rfl) (E.v oe1) (Cs.whole Hx4.out)) ?_
 refine QSeq.go fun act E => ?_
 refine qc_store rfl (wanted_none rfl) rfl (HB2.out.mod Cx5.out (by intro h2; omega)) (off := 0) (vs := ([.int .i64 x.rp, .int .i64 x.ep, .int .u64 (x.fl : Nat), Value.slice ao_o x.l.length cap_o, .int .i64 x.sb, .int .i64 x.mr])) (by kernel_rfl) (by intro u hu; simp only [List.mem_cons, List.not_mem_nil, or_false] at hu; rcases hu with rfl | rfl | rfl | rfl | rfl | rfl <;> rfl) (by show 0 + 6 ≤ 6; decide) (E.v oe2) (ec (E.d 0 0)) ?_
 intro u2_1 qc0 hm
 have qB2 := qc0.eqv (b := (([.int .i64 x.rp, .int .i64 x.ep, .int .u64 (x.fl : Nat), Value.slice ao_o x.l.length cap_o, .int .i64 x.sb, .int .i64 x.mr]) : List Value).toArray) (lay_whole _ _ rfl)
 clear qc0
 have Hx7 := hid qB2
 have zu2_1 := hm.size
 have Cx8 := hid (show Mod (fun k => (k = w.heap.size + 1)) u1_4 u2_1 from hm)
 clear hm
 clear act E qB2 HB2
 refine QSeq.nil (t' := [_, _]) rfl ?_
 obtain rfl := HA0.out
 clear HA0 oe1 oe2
 simp only [pz, Act.put, sIB, sCZ, sCS, List.set_nil]
 go_wp2
 exact bodyPost_ret (results_cellA rfl _ _ (w.heap.size + 1) ([.int .i64 x.rp, .int .i64 x.ep, .int .u64 (x.fl : Nat), Value.slice ao_o x.l.length cap_o, .int .i64 x.sb, .int .i64 x.mr]) rfl (fun k u hu => by rw [Hx7.out.cell]; simpa using hu) Tryz.underlying40 rfl (by kernel_rfl)) rfl ⟨_, rfl, ⟨_, rfl, HOK.out, (Hx6.out.mod Cx8.out (by intro k h1 h2; omega)).widen (by intro k h1; omega)⟩, ((HM0.out.trans Cx5.out (by intro k h1 h2; omega)).trans Cx8.out (by intro k h1 h2; omega))⟩
set_option maxHeartbeats 4000000 in
theorem copied_Pm : CopL PmR cpPm 133 98 := by
 intro R2 l v w hs hB2 hl hP
 obtain ⟨ao, cap, rfl⟩ := hs.shape
 have HS := Lib.hid hs
 have HBT := Lib.hid hB2
 have HL := Lib.hid hl
 have HP := Lib.hid hP
 clear hs hB2 hl hP
 go_enter Tryz.func133, Tryz.ntmps133
 go_upto_region 2 with (fail)
 have HM0 := hid (Mod.refl (fun _ => False) w)
 go_upto_region 2 with (fail)
 refine wp_region_U 22 [8, 9, 10] [0, 1, 2] (fun a0 HA0 => ?_)
 have oe0 := ev HA0 0 rfl
 refine QSeq.pure rfl _ (fun E => ex_move rfl (E.v oe0)) ?_
 refine QSeq.pure rfl (.int .i64 l.length) (fun E => ex_lenS rfl (E.d 0 0) Tryz.underlying41) ?_
 refine QSeq.pure rfl (.int .i64 0) (fun E => ex_move rfl rfl) ?_
 refine QSeq.nil (t' := [_, _, _]) rfl ?_
 obtain rfl := HA0.out
 clear HA0 oe0
 simp only [pz, Act.put, sIB, sCZ, sCS]
 go_wp2
 go_loopw [5, 10] (fun ta ti wr => ∃ k : Nat, ti = .int .i64 (k : Int) ∧ k ≤ l.length ∧ w.heap.size ≤ wr.heap.size ∧ OwS PmR 40 (fun b => w.heap.size ≤ b ∧ b < wr.heap.size) (fun b => w.heap.size ≤ b ∧ b < wr.heap.size) wr ta (l.take k) ∧ RdS PmR R2 wr (.slice ao l.length cap) l ∧ Mod (fun _ => False) w wr) (fun _ ti _ => l.length - (intOf ti).toNat)
 case atStart => exact ⟨0, rfl, Nat.zero_le _, Nat.le_refl _, OwS.nil _ _ _ _ _, HS.out, HM0.out⟩
 case round =>
  obtain ⟨k, rfl, hk, hz, ha, hs, hm⟩ := hrel
  obtain ⟨wl, rfl⟩ : ∃ x, x = wr := ⟨_, rfl⟩
  obtain ⟨aol, capl, rfl⟩ := ha.shape
  have HAL := Lib.hid ha
  have HSL := Lib.hid hs
  have HML := Lib.hid hm
  clear ha hs hm HS HM0
  by_cases hlt : k < l.length
  ·skip
   go_upto_region 3 with (fail)
   refine wp_region_U 22 [11] [0] (fun a0 HA0 => ?_)
   have oe9 := ev HA0 9 rfl
   have oe10 := ev HA0 10 rfl
   refine QSeq.pure rfl (.bool true) (fun E => ex_binE rfl (E.v oe10) (E.v oe9) (guard_ints _ _ _ _ _ _) (run_lss_i _ _ _ Tryz.underlying3) (congrArg Value.bool (decide_eq_true (by omega)))) ?_
   refine QSeq.nil (t' := [_]) rfl ?_
   obtain rfl := HA0.out
   clear HA0 oe9 oe10
   simp only [pz, Act.put, sIB, sCZ, sCS]
   obtain ⟨g0, o0, cs, eao, hrg, hrd, hcs⟩ := HSL.out.at hlt
   subst eao
   have HCL := hid (show cs.length = 6 from PmR.len hrd)
   have HAT := hid (show CellsAt R2 wl g0 (o0 + k * 6) cs from ⟨hrg, hcs⟩)
   have HRD := Lib.hid hrd
   have HOC := hid (PmR.one hrd)
   have HPK := hid (HP.out _ (List.getElem_mem hlt))
   clear hrg hrd hcs
   go_upto_region 4 with (fail)
   refine wp_region_U 22 [12, 13, 7, 25] [0, 1, 2, 3] (fun a0 HA0 => ?_)
   have oe8 := ev HA0 8 rfl
   have oe10 := ev HA0 10 rfl
   refine QSeq.pure rfl (.pointer (some ⟨g0, o0 + k * 6, none⟩)) (fun E => ex_idxS (i := k) (s := 6) rfl Tryz.underlying41 (by kernel_rfl) (E.v oe8) (E.v oe10) (by omega)) ?_
   refine QSeq.pure rfl _ (fun E => ex_loadA rfl Tryz.underlying40 rfl (off := o0 + k * 6) (cs := cs) (by rw [HCL.out]; kernel_rfl) (E.d 0 0) (fun j u hu => (HAT.out).2 j u hu)) ?_
   refine QSeq.go fun act E => ?_
   refine qc_alloc rfl (wanted_none rfl) rfl (z := [.int .i64 0, .int .i64 0, .int .u64 0, .slice none 0 0, .int .i64 0, .int .i64 0]) (by kernel_rfl) ?_
   intro u4_2 qq hm
   have zl4_2 := qq.lt
   have Hx1 := hid qq
   have zu4_2 := hm.size
   have Cx2 := hid (show Mod (fun _ => False) wl u4_2 from hm)
   clear hm
   clear act E qq
   refine QSeq.go fun act E => ?_
   have hlz : (cs).length = List.length ([.int .i64 0, .int .i64 0, .int .u64 0, .slice none 0 0, .int .i64 0, .int .i64 0] : List Value) := (by rw [HCL.out]; rfl)
   refine qc_store rfl (wanted_none rfl) rfl Hx1.out (off := 0) (vs := cs) (by rw [hlz]; kernel_rfl) HOC.out (by rw [hlz]; exact Nat.le_of_eq (Nat.zero_add _)) (E.d 2 0) (ec (E.d 1 1)) ?_
   intro u4_3 qc0 hm
   have qq := qc0.eqv (b := (cs : List Value).toArray) (lay_whole #[.int .i64 0, .int .i64 0, .int .u64 0, .slice none 0 0, .int .i64 0, .int .i64 0] _ (by rw [hlz]; rfl))
   clear qc0 hlz
   have Hx3 := hid qq
   have zu4_3 := hm.size
   have HMu4_3 := hid hm
   have Cx4 := hid (Mod.goS (S' := (fun _ => False)) Cx2.out hm (fun _ h => h) (by intro k h0 h2; omega))
   clear hm Cx2
   clear act E qq Hx1
   clear HMu4_3
   refine QSeq.nil (t' := [_, _, _, _]) rfl ?_
   obtain rfl := HA0.out
   clear HA0 oe8 oe10
   simp only [pz, Act.put, sIB, sCZ, sCS, List.set_nil]
   go_upto_region 5 with (fail)
   refine wp_region_U 22 [14, 15, 16, 17, 18, 19, 5] [0, 1, 2, 3, 4, 5, 6] (fun a0 HA0 => ?_)
   have oe1 := ev HA0 1 rfl
   have oe5 := ev HA0 5 rfl
   have oe7 := ev HA0 7 rfl
   refine QSeq.pure rfl _ (fun E => ex_move rfl (E.y 6 oe5)) ?_
   refine QSeq.pure rfl _ (fun E => ex_move rfl (E.v oe1)) ?_
   refine QSeq.pure rfl _ (fun E => ex_loadA rfl Tryz.underlying40 rfl (off := 0) (cs := cs) (by rw [HCL.out]; kernel_rfl) (E.v oe7) (Cs.whole Hx3.out)) ?_
   refine QSeq.go fun act E => ?_
   have ea16 : act.eval (.tmp 16) = .agg cs.toArray := (E.d 2 0)
   refine qc_call (args := #[.agg cs.toArray]) rfl (wanted_none rfl) (by rw [ex_callV rfl (E.d 1 1) Tryz.func98 (by kernel_rfl) (by kernel_rfl)]; exact congrArg (fun z => Result.ok (Next.enter _ z) _) (by simp only [List.map_toArray, List.map_cons, List.map_nil, ea16]; try rfl)) (cop_Pm _ _ _ _ (HRD.out.mod Cx4.out (fun _ _ h => h)) (by intro k h1; have hb := HBT.out k h1; omega) HPK.out) ?_
   rintro e u5_3 ⟨cn, rfl, qnw, hm⟩
   have HCN := hid (PmR.len qnw)
   refine ⟨_, rfl, ?_⟩
   have Hx5 := hid qnw
   have zu5_3 := hm.size
   have Cx6 := hid (show Mod (fun _ => False) u4_3 u5_3 from hm)
   clear hm
   clear act E qnw ea16
   refine QSeq.go fun act E => ?_
   refine qc_buildS (e := 40) (cs := cn) (zc := [.int .i64 0, .int .i64 0, .int .u64 0, .slice none 0 0, .int .i64 0, .int .i64 0]) (sz := 6) rfl (wanted_none rfl) rfl Tryz.underlying41 (by kernel_rfl) rfl (by decide) (by decide) (E.d 3 0) (PmR.len Hx5.out) ?_
   intro u5_4 qrow hm
   have zl5_4 := qrow.lt
   have Hx7 := hid qrow
   have zu5_4 := hm.size
   have HMu5_4 := hid hm
   have Cx8 := hid (Cx6.out.goE hm)
   clear hm Cx6
   clear act E qrow
   refine QSeq.go fun act E => ?_
   refine qc_appS (A := PmR) (e := 40) rfl (wanted_none rfl) rfl (.agg #[.int .i64 0, .int .i64 0, .int .u64 0, .slice none 0 0, .int .i64 0, .int .i64 0]) 64 Tryz.underlying41 info_Pm (by rfl) (of_decide_eq_true (by kernel_rfl)) (E.d 0 4) (E.d 4 0) (((HAL.out.mod Cx4.out (fun _ _ h => h) (fun _ _ h => h)).mod Cx8.out (fun _ _ h => h) (fun _ _ h => h))) (RdS.single (R := (fun k => (New u4_3 u5_3 k) ∨ (k = u5_3.heap.size))) Hx7.out ((Hx5.out.mod HMu5_4.out (fun _ _ h => h)).widen (by intro k h1; first | omega | exact h1.elim | exact Or.inl h1 | exact Or.inr (h1))) (by right; rfl)) (by intro k h1 h2; omega) (by have h9 := HL.out; rw [List.length_take]; simp only [List.length_cons, List.length_nil]; omega) (by have h9 := HL.out; rw [List.length_take]; simp only [List.length_cons, List.length_nil]; rw [maxLen_val]; omega) ?_
   intro ao5 cap5 u5_5 qout hm
   have Hx9 := hid (qout.widen (R' := (fun k => (New w wl k) ∨ (New u5_4 u5_5 k))) (E' := (fun k => (New w wl k) ∨ (New u4_3 u5_3 k) ∨ (k = u5_3.heap.size))) (fun _ h => h) (by intro k h1; rcases h1 with h1 | (h1 | h1) <;> first | omega | exact h1.elim | exact Or.inl h1 | exact Or.inr (Or.inl h1) | exact Or.inr (Or.inr (h1))))
   have zu5_5 := hm.size
   have HMu5_5 := hid hm
   have Cx10 := hid (Mod.goS (S' := (fun k => (New w wl k))) Cx8.out hm (fun _ h => h.elim) (by intro k h0 h2; exact h2))
   clear hm Cx8
   clear act E qout HAL
   refine QSeq.pure rfl _ (fun E => ex_assign rfl (E.d 5 0)) ?_
   have Hx11 := hid ((Hx5.out.mod HMu5_4.out (fun _ _ h => h)).mod HMu5_5.out (by intro k h1 h2; omega))
   have Hx12 := hid (Hx7.out.mod HMu5_5.out (by intro h2; omega))
   clear Hx5 Hx7 HMu5_4 HMu5_5
   refine QSeq.nil (t' := [_, _, _, _, _, _, _]) rfl ?_
   obtain rfl := HA0.out
   clear HA0 oe1 oe5 oe7
   simp only [pz, Act.put, sIB, sCZ, sCS]
   have hq := Hx9.out
   rw [show l.take k ++ [l[k]] = l.take (k + 1) from (List.take_succ_eq_append_getElem hlt).symm] at hq
   have HQ := Lib.hid hq
   clear hq
   go_upto_region 6 with (fail)
   refine wp_region_U 22 [20, 10] [0, 1] (fun a0 HA0 => ?_)
   have oe10 := ev HA0 10 rfl
   refine QSeq.pure rfl (.int .i64 (((k : Nat) : Int) + 1)) (fun E => ex_binE rfl (E.y 1 oe10) rfl (guard_ints _ _ _ _ _ _) (run_add_i _ _ Tryz.underlying3) (congrArg (Value.int .i64) (IntWalk.i64_in _ (by have h9 := HL.out; omega)))) ?_
   refine QSeq.pure rfl _ (fun E => ex_move rfl (E.d 0 0)) ?_
   refine QSeq.nil (t' := [_, _]) rfl ?_
   obtain rfl := HA0.out
   clear HA0 oe10
   simp only [pz, Act.put, sIB, sCZ, sCS]
   go_wp2
   go_roundw
   case rel => exact ⟨k + 1, by go_num, by omega, by omega, HQ.out.widen (by intro b h1; (try dsimp only at h1 ⊢); omega) (by intro b h1; (try dsimp only at h1 ⊢); omega), ((HSL.out.mod Cx4.out (fun _ _ h => h)).mod Cx10.out (sN HBT)), ((HML.out.trans Cx4.out (fun _ _ h => h.elim)).trans Cx10.out (by intro k h1 h2; omega))⟩
   case measure => simp [intOf]; omega
  ·obtain rfl : l.length = k := by omega
   have hq := HAL.out
   rw [List.take_length] at hq
   have HQ := Lib.hid hq
   clear hq
   go_upto_region 3 with (fail)
   refine wp_region_U 22 [11] [0] (fun a0 HA0 => ?_)
   have oe9 := ev HA0 9 rfl
   have oe10 := ev HA0 10 rfl
   refine QSeq.pure rfl (.bool false) (fun E => ex_binE rfl (E.v oe10) (E.v oe9) (guard_ints _ _ _ _ _ _) (run_lss_i _ _ _ Tryz.underlying3) (congrArg Value.bool (decide_eq_false (by omega)))) ?_
   refine QSeq.nil (t' := [_]) rfl ?_
   obtain rfl := HA0.out
   clear HA0 oe9 oe10
   simp only [pz, Act.put, sIB, sCZ, sCS]
   go_upto_region 7 with (fail)
   refine wp_region_U 22 [21, 4] [0, 1] (fun a0 HA0 => ?_)
   have oe5 := ev HA0 5 rfl
   refine QSeq.pure rfl _ (fun E => ex_move rfl (E.v oe5)) ?_
   refine QSeq.pure rfl _ (fun E => ex_assign rfl (E.d 0 0)) ?_
   refine QSeq.nil (t' := [_, _]) rfl ?_
   obtain rfl := HA0.out
   clear HA0 oe5
   simp only [pz, Act.put, sIB, sCZ, sCS]
   go_wp2
   go_ret
   exact ⟨_, rfl, by rw [List.take_length]; exact HQ.out.rd.widen (by intro b h1; (try dsimp only at h1 ⊢); omega), HML.out⟩
set_option maxHeartbeats 4000000 in
theorem cop_Tb : CopR TbR cpTb 136 := by
 intro R2 x cs w hx hB2 hP
 obtain ⟨v_l, rfl, hok, hs0⟩ := hx
 obtain ⟨ao, cap, rfl⟩ := hs0.shape
 have HS := Lib.hid hs0
 have HBT := Lib.hid hB2
 have HOK := Lib.hid hok
 have HP := Lib.hid hP
 clear hs0 hB2 hok hP
 go_enter Tryz.func136, Tryz.ntmps136
 go_upto_region 1 with (fail)
 obtain ⟨w1, hw1⟩ : ∃ zz, zz = ((w.alloc (.cells (x.cells (.slice ao x.l.length cap) : List Value).toArray 128)).alloc (.cells #[.int .i64 0, .slice none 0 0] 128)) := ⟨_, rfl⟩
 change Code.wp _ _ _ _ ((w.alloc (.cells (x.cells (.slice ao x.l.length cap) : List Value).toArray 128)).alloc (.cells #[.int .i64 0, .slice none 0 0] 128))
 rw [← hw1]
 have HB1 := hid (show Cs w1 (w.heap.size) (x.cells (.slice ao x.l.length cap) : List Value).toArray 128 by rw [hw1]; exact (Cs.new _ _ _).alloc _)
 have HB2 := hid (show Cs w1 (w.heap.size + 1) #[.int .i64 0, .slice none 0 0] 128 by rw [hw1]; exact Cs_newN _ _ _ (by simp))
 have hm : Mod (fun _ => False) w w1 := by rw [hw1]; exact ((Mod.refl _ _).alloc _).alloc _
 have HM0 := hid (show Mod (fun _ => False) w w1 from hm.mono (fun _ _ h => h.elim))
 have hs1 : w1.heap.size = w.heap.size + 2 := by rw [hw1]; simp
 have Hx1 := hid (HS.out.mod hm (fun _ _ h => h))
 clear HS
 clear hw1 hm
 go_upto_region 1 with (fail)
 refine wp_region_U 8 [3, 4, 5, 6, 12] [0, 1, 2, 3, 4] (fun a0 HA0 => ?_)
 have oe1 := ev HA0 1 rfl
 refine QSeq.pure rfl (.pointer (some ⟨w.heap.size, 1, none⟩)) (fun E => ex_field rfl Tryz.underlying128 rfl (by kernel_rfl) (E.v oe1)) ?_
 refine QSeq.pure rfl _ (fun E => ex_load1 rfl Tryz.underlying126 rfl (E.d 0 0) (Cs.lit1 HB1.out rfl)) ?_
 refine QSeq.call rfl rfl Tryz.func147 (copied_Dn _ x.l _ _ Hx1.out (by intro k h1; have hb := HBT.out k h1; omega) HP.out (fun _ _ => trivial)) (fun E => args2 (E.d 1 0) rfl) ?_
 rintro e u1_2 ⟨vo, rfl, qo, hm⟩
 obtain ⟨ao_o, cap_o, rfl⟩ := qo.shape
 refine ⟨_, rfl, ?_⟩
 have Hx2 := hid qo
 have zu1_2 := hm.size
 have Cx3 := hid (show Mod (fun _ => False) w1 u1_2 from hm)
 clear hm
 clear qo
 refine QSeq.pure rfl (.pointer (some ⟨w.heap.size, 1, none⟩)) (fun E => ex_field rfl Tryz.underlying128 rfl (by kernel_rfl) (E.v oe1)) ?_
 refine QSeq.go fun act E => ?_
 refine qc_store rfl (wanted_none rfl) rfl (HB1.out.mod Cx3.out (fun h => h)) (off := 1) (vs := [Value.slice ao_o x.l.length cap_o]) (by kernel_rfl) one1 (by show 1 + 1 ≤ 2; decide) (E.d 3 0) (ec (E.d 2 1)) ?_
 intro u1_4 qc0 hm
 have qB1 := qc0.eqv (b := (([.int .i64 x.ix, Value.slice ao_o x.l.length cap_o]) : List Value).toArray) rfl
 clear qc0
 have Hx4 := hid qB1
 have zu1_4 := hm.size
 have HMu1_4 := hid hm
 have Cx5 := hid (Mod.goS (S' := (fun k => (k = w.heap.size))) Cx3.out hm (fun _ h => h.elim) (by intro k h0 h2; exact h2))
 clear hm Cx3
 clear act E qB1 HB1
 have Hx6 := hid (Hx2.out.mod HMu1_4.out (by intro k h1 h2; omega))
 clear Hx2 HMu1_4
 refine QSeq.nil (t' := [_, _, _, _, _]) rfl ?_
 obtain rfl := HA0.out
 clear HA0 oe1
 simp only [pz, Act.put, sIB, sCZ, sCS, List.set_nil]
 go_upto_region 2 with (fail)
 refine wp_region_U 8 [7, 9] [0, 1] (fun a0 HA0 => ?_)
 have oe1 := ev HA0 1 rfl
 have oe2 := ev HA0 2 rfl
 refine QSeq.pure rfl _ (fun E => ex_loadA rfl Tryz.underlying128 rfl (off := 0) (cs := ([.int .i64 x.ix, Value.slice ao_o x.l.length cap_o])) (by kernel_rfl) (E.v oe1) (Cs.whole Hx4.out)) ?_
 refine QSeq.go fun act E => ?_
 refine qc_store rfl (wanted_none rfl) rfl (HB2.out.mod Cx5.out (by intro h2; omega)) (off := 0) (vs := ([.int .i64 x.ix, Value.slice ao_o x.l.length cap_o])) (by kernel_rfl) (by intro u hu; simp only [List.mem_cons, List.not_mem_nil, or_false] at hu; rcases hu with rfl | rfl <;> rfl) (by show 0 + 2 ≤ 2; decide) (E.v oe2) (ec (E.d 0 0)) ?_
 intro u2_1 qc0 hm
 have qB2 := qc0.eqv (b := (([.int .i64 x.ix, Value.slice ao_o x.l.length cap_o]) : List Value).toArray) (lay_whole _ _ rfl)
 clear qc0
 have Hx7 := hid qB2
 have zu2_1 := hm.size
 have Cx8 := hid (show Mod (fun k => (k = w.heap.size + 1)) u1_4 u2_1 from hm)
 clear hm
 clear act E qB2 HB2
 refine QSeq.nil (t' := [_, _]) rfl ?_
 obtain rfl := HA0.out
 clear HA0 oe1 oe2
 simp only [pz, Act.put, sIB, sCZ, sCS, List.set_nil]
 go_wp2
 exact bodyPost_ret (results_cellA rfl _ _ (w.heap.size + 1) ([.int .i64 x.ix, Value.slice ao_o x.l.length cap_o]) rfl (fun k u hu => by rw [Hx7.out.cell]; simpa using hu) Tryz.underlying128 rfl (by kernel_rfl)) rfl ⟨_, rfl, ⟨_, rfl, HOK.out, (Hx6.out.mod Cx8.out (by intro k h1 h2; omega)).widen (by intro k h1; omega)⟩, ((HM0.out.trans Cx5.out (by intro k h1 h2; omega)).trans Cx8.out (by intro k h1 h2; omega))⟩
set_option maxHeartbeats 4000000 in
theorem copied_Tb : CopL TbR cpTb 135 136 := by
 intro R2 l v w hs hB2 hl hP
 obtain ⟨ao, cap, rfl⟩ := hs.shape
 have HS := Lib.hid hs
 have HBT := Lib.hid hB2
 have HL := Lib.hid hl
 have HP := Lib.hid hP
 clear hs hB2 hl hP
 go_enter Tryz.func135, Tryz.ntmps135
 go_upto_region 2 with (fail)
 have HM0 := hid (Mod.refl (fun _ => False) w)
 go_upto_region 2 with (fail)
 refine wp_region_U 22 [8, 9, 10] [0, 1, 2] (fun a0 HA0 => ?_)
 have oe0 := ev HA0 0 rfl
 refine QSeq.pure rfl _ (fun E => ex_move rfl (E.v oe0)) ?_
 refine QSeq.pure rfl (.int .i64 l.length) (fun E => ex_lenS rfl (E.d 0 0) Tryz.underlying43) ?_
 refine QSeq.pure rfl (.int .i64 0) (fun E => ex_move rfl rfl) ?_
 refine QSeq.nil (t' := [_, _, _]) rfl ?_
 obtain rfl := HA0.out
 clear HA0 oe0
 simp only [pz, Act.put, sIB, sCZ, sCS]
 go_wp2
 go_loopw [5, 10] (fun ta ti wr => ∃ k : Nat, ti = .int .i64 (k : Int) ∧ k ≤ l.length ∧ w.heap.size ≤ wr.heap.size ∧ OwS TbR 128 (fun b => w.heap.size ≤ b ∧ b < wr.heap.size) (fun b => w.heap.size ≤ b ∧ b < wr.heap.size) wr ta (l.take k) ∧ RdS TbR R2 wr (.slice ao l.length cap) l ∧ Mod (fun _ => False) w wr) (fun _ ti _ => l.length - (intOf ti).toNat)
 case atStart => exact ⟨0, rfl, Nat.zero_le _, Nat.le_refl _, OwS.nil _ _ _ _ _, HS.out, HM0.out⟩
 case round =>
  obtain ⟨k, rfl, hk, hz, ha, hs, hm⟩ := hrel
  obtain ⟨wl, rfl⟩ : ∃ x, x = wr := ⟨_, rfl⟩
  obtain ⟨aol, capl, rfl⟩ := ha.shape
  have HAL := Lib.hid ha
  have HSL := Lib.hid hs
  have HML := Lib.hid hm
  clear ha hs hm HS HM0
  by_cases hlt : k < l.length
  ·skip
   go_upto_region 3 with (fail)
   refine wp_region_U 22 [11] [0] (fun a0 HA0 => ?_)
   have oe9 := ev HA0 9 rfl
   have oe10 := ev HA0 10 rfl
   refine QSeq.pure rfl (.bool true) (fun E => ex_binE rfl (E.v oe10) (E.v oe9) (guard_ints _ _ _ _ _ _) (run_lss_i _ _ _ Tryz.underlying3) (congrArg Value.bool (decide_eq_true (by omega)))) ?_
   refine QSeq.nil (t' := [_]) rfl ?_
   obtain rfl := HA0.out
   clear HA0 oe9 oe10
   simp only [pz, Act.put, sIB, sCZ, sCS]
   obtain ⟨g0, o0, cs, eao, hrg, hrd, hcs⟩ := HSL.out.at hlt
   subst eao
   have HCL := hid (show cs.length = 2 from TbR.len hrd)
   have HAT := hid (show CellsAt R2 wl g0 (o0 + k * 2) cs from ⟨hrg, hcs⟩)
   have HRD := Lib.hid hrd
   have HOC := hid (TbR.one hrd)
   have HPK := hid (HP.out _ (List.getElem_mem hlt))
   clear hrg hrd hcs
   go_upto_region 4 with (fail)
   refine wp_region_U 22 [12, 13, 7, 25] [0, 1, 2, 3] (fun a0 HA0 => ?_)
   have oe8 := ev HA0 8 rfl
   have oe10 := ev HA0 10 rfl
   refine QSeq.pure rfl (.pointer (some ⟨g0, o0 + k * 2, none⟩)) (fun E => ex_idxS (i := k) (s := 2) rfl Tryz.underlying43 (by kernel_rfl) (E.v oe8) (E.v oe10) (by omega)) ?_
   refine QSeq.pure rfl _ (fun E => ex_loadA rfl Tryz.underlying128 rfl (off := o0 + k * 2) (cs := cs) (by rw [HCL.out]; kernel_rfl) (E.d 0 0) (fun j u hu => (HAT.out).2 j u hu)) ?_
   refine QSeq.go fun act E => ?_
   refine qc_alloc rfl (wanted_none rfl) rfl (z := [.int .i64 0, .slice none 0 0]) (by kernel_rfl) ?_
   intro u4_2 qq hm
   have zl4_2 := qq.lt
   have Hx1 := hid qq
   have zu4_2 := hm.size
   have Cx2 := hid (show Mod (fun _ => False) wl u4_2 from hm)
   clear hm
   clear act E qq
   refine QSeq.go fun act E => ?_
   have hlz : (cs).length = List.length ([.int .i64 0, .slice none 0 0] : List Value) := (by rw [HCL.out]; rfl)
   refine qc_store rfl (wanted_none rfl) rfl Hx1.out (off := 0) (vs := cs) (by rw [hlz]; kernel_rfl) HOC.out (by rw [hlz]; exact Nat.le_of_eq (Nat.zero_add _)) (E.d 2 0) (ec (E.d 1 1)) ?_
   intro u4_3 qc0 hm
   have qq := qc0.eqv (b := (cs : List Value).toArray) (lay_whole #[.int .i64 0, .slice none 0 0] _ (by rw [hlz]; rfl))
   clear qc0 hlz
   have Hx3 := hid qq
   have zu4_3 := hm.size
   have HMu4_3 := hid hm
   have Cx4 := hid (Mod.goS (S' := (fun _ => False)) Cx2.out hm (fun _ h => h) (by intro k h0 h2; omega))
   clear hm Cx2
   clear act E qq Hx1
   clear HMu4_3
   refine QSeq.nil (t' := [_, _, _, _]) rfl ?_
   obtain rfl := HA0.out
   clear HA0 oe8 oe10
   simp only [pz, Act.put, sIB, sCZ, sCS, List.set_nil]
   go_upto_region 5 with (fail)
   refine wp_region_U 22 [14, 15, 16, 17, 18, 19, 5] [0, 1, 2, 3, 4, 5, 6] (fun a0 HA0 => ?_)
   have oe1 := ev HA0 1 rfl
   have oe5 := ev HA0 5 rfl
   have oe7 := ev HA0 7 rfl
   refine QSeq.pure rfl _ (fun E => ex_move rfl (E.y 6 oe5)) ?_
   refine QSeq.pure rfl _ (fun E => ex_move rfl (E.v oe1)) ?_
   refine QSeq.pure rfl _ (fun E => ex_loadA rfl Tryz.underlying128 rfl (off := 0) (cs := cs) (by rw [HCL.out]; kernel_rfl) (E.v oe7) (Cs.whole Hx3.out)) ?_
   refine QSeq.go fun act E => ?_
   have ea16 : act.eval (.tmp 16) = .agg cs.toArray := (E.d 2 0)
   refine qc_call (args := #[.agg cs.toArray]) rfl (wanted_none rfl) (by rw [ex_callV rfl (E.d 1 1) Tryz.func136 (by kernel_rfl) (by kernel_rfl)]; exact congrArg (fun z => Result.ok (Next.enter _ z) _) (by simp only [List.map_toArray, List.map_cons, List.map_nil, ea16]; try rfl)) (cop_Tb _ _ _ _ (HRD.out.mod Cx4.out (fun _ _ h => h)) (by intro k h1; have hb := HBT.out k h1; omega) HPK.out) ?_
   rintro e u5_3 ⟨cn, rfl, qnw, hm⟩
   have HCN := hid (TbR.len qnw)
   refine ⟨_, rfl, ?_⟩
   have Hx5 := hid qnw
   have zu5_3 := hm.size
   have Cx6 := hid (show Mod (fun _ => False) u4_3 u5_3 from hm)
   clear hm
   clear act E qnw ea16
   refine QSeq.go fun act E => ?_
   refine qc_buildS (e := 128) (cs := cn) (zc := [.int .i64 0, .slice none 0 0]) (sz := 2) rfl (wanted_none rfl) rfl Tryz.underlying43 (by kernel_rfl) rfl (by decide) (by decide) (E.d 3 0) (TbR.len Hx5.out) ?_
   intro u5_4 qrow hm
   have zl5_4 := qrow.lt
   have Hx7 := hid qrow
   have zu5_4 := hm.size
   have HMu5_4 := hid hm
   have Cx8 := hid (Cx6.out.goE hm)
   clear hm Cx6
   clear act E qrow
   refine QSeq.go fun act E => ?_
   refine qc_appS (A := TbR) (e := 128) rfl (wanted_none rfl) rfl (.agg #[.int .i64 0, .slice none 0 0]) 32 Tryz.underlying43 info_Tb (by rfl) (of_decide_eq_true (by kernel_rfl)) (E.d 0 4) (E.d 4 0) (((HAL.out.mod Cx4.out (fun _ _ h => h) (fun _ _ h => h)).mod Cx8.out (fun _ _ h => h) (fun _ _ h => h))) (RdS.single (R := (fun k => (New u4_3 u5_3 k) ∨ (k = u5_3.heap.size))) Hx7.out ((Hx5.out.mod HMu5_4.out (fun _ _ h => h)).widen (by intro k h1; first | omega | exact h1.elim | exact Or.inl h1 | exact Or.inr (h1))) (by right; rfl)) (by intro k h1 h2; omega) (by have h9 := HL.out; rw [List.length_take]; simp only [List.length_cons, List.length_nil]; omega) (by have h9 := HL.out; rw [List.length_take]; simp only [List.length_cons, List.length_nil]; rw [maxLen_val]; omega) ?_
   intro ao5 cap5 u5_5 qout hm
   have Hx9 := hid (qout.widen (R' := (fun k => (New w wl k) ∨ (New u5_4 u5_5 k))) (E' := (fun k => (New w wl k) ∨ (New u4_3 u5_3 k) ∨ (k = u5_3.heap.size))) (fun _ h => h) (by intro k h1; rcases h1 with h1 | (h1 | h1) <;> first | omega | exact h1.elim | exact Or.inl h1 | exact Or.inr (Or.inl h1) | exact Or.inr (Or.inr (h1))))
   have zu5_5 := hm.size
   have HMu5_5 := hid hm
   have Cx10 := hid (Mod.goS (S' := (fun k => (New w wl k))) Cx8.out hm (fun _ h => h.elim) (by intro k h0 h2; exact h2))
   clear hm Cx8
   clear act E qout HAL
   refine QSeq.pure rfl _ (fun E => ex_assign rfl (E.d 5 0)) ?_
   have Hx11 := hid ((Hx5.out.mod HMu5_4.out (fun _ _ h => h)).mod HMu5_5.out (by intro k h1 h2; omega))
   have Hx12 := hid (Hx7.out.mod HMu5_5.out (by intro h2; omega))
   clear Hx5 Hx7 HMu5_4 HMu5_5
   refine QSeq.nil (t' := [_, _, _, _, _, _, _]) rfl ?_
   obtain rfl := HA0.out
   clear HA0 oe1 oe5 oe7
   simp only [pz, Act.put, sIB, sCZ, sCS]
   have hq := Hx9.out
   rw [show l.take k ++ [l[k]] = l.take (k + 1) from (List.take_succ_eq_append_getElem hlt).symm] at hq
   have HQ := Lib.hid hq
   clear hq
   go_upto_region 6 with (fail)
   refine wp_region_U 22 [20, 10] [0, 1] (fun a0 HA0 => ?_)
   have oe10 := ev HA0 10 rfl
   refine QSeq.pure rfl (.int .i64 (((k : Nat) : Int) + 1)) (fun E => ex_binE rfl (E.y 1 oe10) rfl (guard_ints _ _ _ _ _ _) (run_add_i _ _ Tryz.underlying3) (congrArg (Value.int .i64) (IntWalk.i64_in _ (by have h9 := HL.out; omega)))) ?_
   refine QSeq.pure rfl _ (fun E => ex_move rfl (E.d 0 0)) ?_
   refine QSeq.nil (t' := [_, _]) rfl ?_
   obtain rfl := HA0.out
   clear HA0 oe10
   simp only [pz, Act.put, sIB, sCZ, sCS]
   go_wp2
   go_roundw
   case rel => exact ⟨k + 1, by go_num, by omega, by omega, HQ.out.widen (by intro b h1; (try dsimp only at h1 ⊢); omega) (by intro b h1; (try dsimp only at h1 ⊢); omega), ((HSL.out.mod Cx4.out (fun _ _ h => h)).mod Cx10.out (sN HBT)), ((HML.out.trans Cx4.out (fun _ _ h => h.elim)).trans Cx10.out (by intro k h1 h2; omega))⟩
   case measure => simp [intOf]; omega
  ·obtain rfl : l.length = k := by omega
   have hq := HAL.out
   rw [List.take_length] at hq
   have HQ := Lib.hid hq
   clear hq
   go_upto_region 3 with (fail)
   refine wp_region_U 22 [11] [0] (fun a0 HA0 => ?_)
   have oe9 := ev HA0 9 rfl
   have oe10 := ev HA0 10 rfl
   refine QSeq.pure rfl (.bool false) (fun E => ex_binE rfl (E.v oe10) (E.v oe9) (guard_ints _ _ _ _ _ _) (run_lss_i _ _ _ Tryz.underlying3) (congrArg Value.bool (decide_eq_false (by omega)))) ?_
   refine QSeq.nil (t' := [_]) rfl ?_
   obtain rfl := HA0.out
   clear HA0 oe9 oe10
   simp only [pz, Act.put, sIB, sCZ, sCS]
   go_upto_region 7 with (fail)
   refine wp_region_U 22 [21, 4] [0, 1] (fun a0 HA0 => ?_)
   have oe5 := ev HA0 5 rfl
   refine QSeq.pure rfl _ (fun E => ex_move rfl (E.v oe5)) ?_
   refine QSeq.pure rfl _ (fun E => ex_assign rfl (E.d 0 0)) ?_
   refine QSeq.nil (t' := [_, _]) rfl ?_
   obtain rfl := HA0.out
   clear HA0 oe5
   simp only [pz, Act.put, sIB, sCZ, sCS]
   go_wp2
   go_ret
   exact ⟨_, rfl, by rw [List.take_length]; exact HQ.out.rd.widen (by intro b h1; (try dsimp only at h1 ⊢); omega), HML.out⟩
theorem lay_pl1 (x : Op) (u v : Value) (h : x.nc.length = 32) : lay (x.cells u).toArray 1 [v] = (([.int .i64 x.ix, v] ++ x.nc.map bv : List Value)).toArray := by simp [lay, Op.cells, h]
theorem RdR_lenx {R : Nat → Prop} {N : Nat} {w : World} {ao : Option Addr} {n cap : Nat} {bs : List Int} (h : RdR R N w (.slice ao n cap) bs) (hn : n = bs.length) : RdR R bs.length w (.slice ao n cap) bs := ⟨h.1, h.2.1, Nat.le_refl _⟩
set_option maxHeartbeats 4000000 in
theorem cop_Op : CopR OpR cpOp 99 := by
 intro R2 x cs w hx hB2 hP
 obtain ⟨v_l, rfl, hok, hs0⟩ := hx
 obtain ⟨ao, cap, rfl⟩ := hs0.shape
 have HS := Lib.hid hs0
 have HBT := Lib.hid hB2
 have HOK := Lib.hid hok
 have HP := Lib.hid hP
 have HNB := hid (show OwR (fun k => False) 900000 w (.slice none 0 0) [] from ⟨Own.nil _ _ _ _, (fun g h => by cases h), Nat.zero_le _⟩)
 clear hs0 hB2 hok hP
 go_enter Tryz.func99, Tryz.ntmps99
 go_upto_region 1 with (fail)
 obtain ⟨w1, hw1⟩ : ∃ zz, zz = ((w.alloc (.cells (x.cells (.slice ao x.pl.length cap) : List Value).toArray 54)).alloc (.cells #[.int .i64 0, .slice none 0 0, .int .u8 0, .int .u8 0, .int .u8 0, .int .u8 0, .int .u8 0, .int .u8 0, .int .u8 0, .int .u8 0, .int .u8 0, .int .u8 0, .int .u8 0, .int .u8 0, .int .u8 0, .int .u8 0, .int .u8 0, .int .u8 0, .int .u8 0, .int .u8 0, .int .u8 0, .int .u8 0, .int .u8 0, .int .u8 0, .int .u8 0, .int .u8 0, .int .u8 0, .int .u8 0, .int .u8 0, .int .u8 0, .int .u8 0, .int .u8 0, .int .u8 0, .int .u8 0] 54)) := ⟨_, rfl⟩
 change Code.wp _ _ _ _ ((w.alloc (.cells (x.cells (.slice ao x.pl.length cap) : List Value).toArray 54)).alloc (.cells #[.int .i64 0, .slice none 0 0, .int .u8 0, .int .u8 0, .int .u8 0, .int .u8 0, .int .u8 0, .int .u8 0, .int .u8 0, .int .u8 0, .int .u8 0, .int .u8 0, .int .u8 0, .int .u8 0, .int .u8 0, .int .u8 0, .int .u8 0, .int .u8 0, .int .u8 0, .int .u8 0, .int .u8 0, .int .u8 0, .int .u8 0, .int .u8 0, .int .u8 0, .int .u8 0, .int .u8 0, .int .u8 0, .int .u8 0, .int .u8 0, .int .u8 0, .int .u8 0, .int .u8 0, .int .u8 0] 54))
 rw [← hw1]
 have HB1 := hid (show Cs w1 (w.heap.size) (x.cells (.slice ao x.pl.length cap) : List Value).toArray 54 by rw [hw1]; exact (Cs.new _ _ _).alloc _)
 have HB2 := hid (show Cs w1 (w.heap.size + 1) #[.int .i64 0, .slice none 0 0, .int .u8 0, .int .u8 0, .int .u8 0, .int .u8 0, .int .u8 0, .int .u8 0, .int .u8 0, .int .u8 0, .int .u8 0, .int .u8 0, .int .u8 0, .int .u8 0, .int .u8 0, .int .u8 0, .int .u8 0, .int .u8 0, .int .u8 0, .int .u8 0, .int .u8 0, .int .u8 0, .int .u8 0, .int .u8 0, .int .u8 0, .int .u8 0, .int .u8 0, .int .u8 0, .int .u8 0, .int .u8 0, .int .u8 0, .int .u8 0, .int .u8 0, .int .u8 0] 54 by rw [hw1]; exact Cs_newN _ _ _ (by simp))
 have hm : Mod (fun _ => False) w w1 := by rw [hw1]; exact ((Mod.refl _ _).alloc _).alloc _
 have HM0 := hid (show Mod (fun _ => False) w w1 from hm.mono (fun _ _ h => h.elim))
 have hs1 : w1.heap.size = w.heap.size + 2 := by rw [hw1]; simp
 have Hx1 := hid (HS.out.mod hm (fun _ _ h => h))
 clear HS
 have Hx2 := hid (HNB.out.mod hm (fun _ _ h => h))
 clear HNB
 clear hw1 hm
 go_upto_region 1 with (fail)
 refine wp_region_U 8 [3, 4, 5, 6, 12] [0, 1, 2, 3, 4] (fun a0 HA0 => ?_)
 have oe1 := ev HA0 1 rfl
 refine QSeq.pure rfl (.pointer (some ⟨w.heap.size, 1, none⟩)) (fun E => ex_field rfl Tryz.underlying54 rfl (by kernel_rfl) (E.v oe1)) ?_
 refine QSeq.pure rfl _ (fun E => ex_load1 rfl Tryz.underlying52 rfl (E.d 0 0) (Cs.hd1 HB1.out rfl)) ?_
 refine QSeq.go fun act E => ?_
 refine qc_appR rfl (wanted_none rfl) rfl rfl (E.d 1 0) Hx2.out Hx1.out (by have h9 := HP.out; unfold cpOp at h9; simpa using h9) ?_
 intro ao1 cap1 u1_2 qnb hm
 have Hx3 := hid (qnb.widen (R' := (fun k => (False) ∨ (New w1 u1_2 k))) (fun _ h => h) (Nat.le_refl _))
 have zu1_2 := hm.size
 have Cx4 := hid (show Mod (fun k => (False)) w1 u1_2 from hm)
 clear hm
 clear act E qnb Hx2
 refine QSeq.pure rfl (.pointer (some ⟨w.heap.size, 1, none⟩)) (fun E => ex_field rfl Tryz.underlying54 rfl (by kernel_rfl) (E.v oe1)) ?_
 refine QSeq.go fun act E => ?_
 refine qc_store rfl (wanted_none rfl) rfl (HB1.out.mod Cx4.out (by intro h2; (try simp only [false_or] at h2) <;> omega)) (off := 1) (vs := [Value.slice ao1 (([] : List Int).length + x.pl.length) cap1]) (by kernel_rfl) one1 (by simp only [List.size_toArray, Op.cells, List.length_append, List.length_map, List.length_cons, List.length_nil, HOK.out.2.1] <;> omega) (E.d 3 0) (ec (E.d 2 1)) ?_
 intro u1_4 qc0 hm
 have qB1 := qc0.eqv (b := (([.int .i64 x.ix, Value.slice ao1 (([] : List Int).length + x.pl.length) cap1] ++ x.nc.map bv) : List Value).toArray) (lay_pl1 x _ _ HOK.out.2.1)
 clear qc0
 have Hx5 := hid qB1
 have zu1_4 := hm.size
 have HMu1_4 := hid hm
 have Cx6 := hid (Mod.goS (S' := (fun k => (False) ∨ (k = w.heap.size))) Cx4.out hm (fun _ h => Or.inl h) (by intro k h0 h2; exact Or.inr (h2)))
 clear hm Cx4
 clear act E qB1 HB1
 have Hx7 := hid (Hx3.out.mod HMu1_4.out (by intro k h1 h2; (try simp only [false_or] at h1 h2) <;> omega))
 clear Hx3 HMu1_4
 refine QSeq.nil (t' := [_, _, _, _, _]) rfl ?_
 obtain rfl := HA0.out
 clear HA0 oe1
 simp only [pz, Act.put, sIB, sCZ, sCS, List.set_nil]
 go_upto_region 2 with (fail)
 refine wp_region_U 8 [7, 9] [0, 1] (fun a0 HA0 => ?_)
 have oe1 := ev HA0 1 rfl
 have oe2 := ev HA0 2 rfl
 refine QSeq.pure rfl _ (fun E => ex_loadA rfl Tryz.underlying54 rfl (off := 0) (cs := ([.int .i64 x.ix, Value.slice ao1 (([] : List Int).length + x.pl.length) cap1] ++ x.nc.map bv)) (by simp only [List.length_append, List.length_map, HOK.out.2.1]; kernel_rfl) (E.v oe1) (Cs.whole Hx5.out)) ?_
 refine QSeq.go fun act E => ?_
 refine qc_store rfl (wanted_none rfl) rfl (HB2.out.mod Cx6.out (by intro h2; (try simp only [false_or] at h2) <;> omega)) (off := 0) (vs := ([.int .i64 x.ix, Value.slice ao1 (([] : List Int).length + x.pl.length) cap1] ++ x.nc.map bv)) (by simp only [List.length_append, List.length_map, HOK.out.2.1]; kernel_rfl) (by intro u hu; simp only [List.mem_append, List.mem_cons, List.not_mem_nil, or_false, List.mem_map] at hu; rcases hu with (rfl | rfl) | ⟨y, -, rfl⟩ <;> rfl) (by simp only [List.size_toArray, List.length_append, List.length_map, List.length_cons, List.length_nil, HOK.out.2.1]; decide) (E.v oe2) (ec (E.d 0 0)) ?_
 intro u2_1 qc0 hm
 have qB2 := qc0.eqv (b := (([.int .i64 x.ix, Value.slice ao1 (([] : List Int).length + x.pl.length) cap1] ++ x.nc.map bv) : List Value).toArray) (lay_whole _ _ (by simp only [List.length_append, List.length_map, HOK.out.2.1]; rfl))
 clear qc0
 have Hx8 := hid qB2
 have zu2_1 := hm.size
 have Cx9 := hid (show Mod (fun k => (k = w.heap.size + 1)) u1_4 u2_1 from hm)
 clear hm
 clear act E qB2 HB2
 refine QSeq.nil (t' := [_, _]) rfl ?_
 obtain rfl := HA0.out
 clear HA0 oe1 oe2
 simp only [pz, Act.put, sIB, sCZ, sCS, List.set_nil]
 have hq := (Hx7.out.mod Cx9.out (by intro k h1 h2; (try simp only [false_or] at h1 h2) <;> omega))
 rw [List.nil_append] at hq
 go_wp2
 exact bodyPost_ret (results_cellA rfl _ _ (w.heap.size + 1) ([.int .i64 x.ix, Value.slice ao1 (([] : List Int).length + x.pl.length) cap1] ++ x.nc.map bv) rfl (fun k u hu => by rw [Hx8.out.cell]; simpa using hu) Tryz.underlying54 rfl (by simp only [List.length_append, List.length_map, HOK.out.2.1]; kernel_rfl)) rfl ⟨_, rfl, ⟨_, rfl, HOK.out, RdR_lenx (hq.rd.widen (by intro k h1; rcases h1 with h1 | h1 <;> first | exact h1.elim | omega) (Nat.le_refl _)) (by simp)⟩, ((HM0.out.trans Cx6.out (by intro k h1 h2; (try simp only [false_or] at h1 h2) <;> omega)).trans Cx9.out (by intro k h1 h2; (try simp only [false_or] at h1 h2) <;> omega))⟩
set_option maxHeartbeats 4000000 in
theorem copied_Op : CopL OpR cpOp 134 99 := by
 intro R2 l v w hs hB2 hl hP
 obtain ⟨ao, cap, rfl⟩ := hs.shape
 have HS := Lib.hid hs
 have HBT := Lib.hid hB2
 have HL := Lib.hid hl
 have HP := Lib.hid hP
 clear hs hB2 hl hP
 go_enter Tryz.func134, Tryz.ntmps134
 go_upto_region 2 with (fail)
 have HM0 := hid (Mod.refl (fun _ => False) w)
 go_upto_region 2 with (fail)
 refine wp_region_U 22 [8, 9, 10] [0, 1, 2] (fun a0 HA0 => ?_)
 have oe0 := ev HA0 0 rfl
 refine QSeq.pure rfl _ (fun E => ex_move rfl (E.v oe0)) ?_
 refine QSeq.pure rfl (.int .i64 l.length) (fun E => ex_lenS rfl (E.d 0 0) Tryz.underlying42) ?_
 refine QSeq.pure rfl (.int .i64 0) (fun E => ex_move rfl rfl) ?_
 refine QSeq.nil (t' := [_, _, _]) rfl ?_
 obtain rfl := HA0.out
 clear HA0 oe0
 simp only [pz, Act.put, sIB, sCZ, sCS]
 go_wp2
 go_loopw [5, 10] (fun ta ti wr => ∃ k : Nat, ti = .int .i64 (k : Int) ∧ k ≤ l.length ∧ w.heap.size ≤ wr.heap.size ∧ OwS OpR 54 (fun b => w.heap.size ≤ b ∧ b < wr.heap.size) (fun b => w.heap.size ≤ b ∧ b < wr.heap.size) wr ta (l.take k) ∧ RdS OpR R2 wr (.slice ao l.length cap) l ∧ Mod (fun _ => False) w wr) (fun _ ti _ => l.length - (intOf ti).toNat)
 case atStart => exact ⟨0, rfl, Nat.zero_le _, Nat.le_refl _, OwS.nil _ _ _ _ _, HS.out, HM0.out⟩
 case round =>
  obtain ⟨k, rfl, hk, hz, ha, hs, hm⟩ := hrel
  obtain ⟨wl, rfl⟩ : ∃ x, x = wr := ⟨_, rfl⟩
  obtain ⟨aol, capl, rfl⟩ := ha.shape
  have HAL := Lib.hid ha
  have HSL := Lib.hid hs
  have HML := Lib.hid hm
  clear ha hs hm HS HM0
  by_cases hlt : k < l.length
  ·skip
   go_upto_region 3 with (fail)
   refine wp_region_U 22 [11] [0] (fun a0 HA0 => ?_)
   have oe9 := ev HA0 9 rfl
   have oe10 := ev HA0 10 rfl
   refine QSeq.pure rfl (.bool true) (fun E => ex_binE rfl (E.v oe10) (E.v oe9) (guard_ints _ _ _ _ _ _) (run_lss_i _ _ _ Tryz.underlying3) (congrArg Value.bool (decide_eq_true (by omega)))) ?_
   refine QSeq.nil (t' := [_]) rfl ?_
   obtain rfl := HA0.out
   clear HA0 oe9 oe10
   simp only [pz, Act.put, sIB, sCZ, sCS]
   obtain ⟨g0, o0, cs, eao, hrg, hrd, hcs⟩ := HSL.out.at hlt
   subst eao
   have HCL := hid (show cs.length = 34 from OpR.len hrd)
   have HAT := hid (show CellsAt R2 wl g0 (o0 + k * 34) cs from ⟨hrg, hcs⟩)
   have HRD := Lib.hid hrd
   have HOC := hid (OpR.one hrd)
   have HPK := hid (HP.out _ (List.getElem_mem hlt))
   clear hrg hrd hcs
   go_upto_region 4 with (fail)
   refine wp_region_U 22 [12, 13, 7, 25] [0, 1, 2, 3] (fun a0 HA0 => ?_)
   have oe8 := ev HA0 8 rfl
   have oe10 := ev HA0 10 rfl
   refine QSeq.pure rfl (.pointer (some ⟨g0, o0 + k * 34, none⟩)) (fun E => ex_idxS (i := k) (s := 34) rfl Tryz.underlying42 (by kernel_rfl) (E.v oe8) (E.v oe10) (by omega)) ?_
   refine QSeq.pure rfl _ (fun E => ex_loadA rfl Tryz.underlying54 rfl (off := o0 + k * 34) (cs := cs) (by rw [HCL.out]; kernel_rfl) (E.d 0 0) (fun j u hu => (HAT.out).2 j u hu)) ?_
   refine QSeq.go fun act E => ?_
   refine qc_alloc rfl (wanted_none rfl) rfl (z := [.int .i64 0, .slice none 0 0, .int .u8 0, .int .u8 0, .int .u8 0, .int .u8 0, .int .u8 0, .int .u8 0, .int .u8 0, .int .u8 0, .int .u8 0, .int .u8 0, .int .u8 0, .int .u8 0, .int .u8 0, .int .u8 0, .int .u8 0, .int .u8 0, .int .u8 0, .int .u8 0, .int .u8 0, .int .u8 0, .int .u8 0, .int .u8 0, .int .u8 0, .int .u8 0, .int .u8 0, .int .u8 0, .int .u8 0, .int .u8 0, .int .u8 0, .int .u8 0, .int .u8 0, .int .u8 0]) (by kernel_rfl) ?_
   intro u4_2 qq hm
   have zl4_2 := qq.lt
   have Hx1 := hid qq
   have zu4_2 := hm.size
   have Cx2 := hid (show Mod (fun _ => False) wl u4_2 from hm)
   clear hm
   clear act E qq
   refine QSeq.go fun act E => ?_
   have hlz : (cs).length = List.length ([.int .i64 0, .slice none 0 0, .int .u8 0, .int .u8 0, .int .u8 0, .int .u8 0, .int .u8 0, .int .u8 0, .int .u8 0, .int .u8 0, .int .u8 0, .int .u8 0, .int .u8 0, .int .u8 0, .int .u8 0, .int .u8 0, .int .u8 0, .int .u8 0, .int .u8 0, .int .u8 0, .int .u8 0, .int .u8 0, .int .u8 0, .int .u8 0, .int .u8 0, .int .u8 0, .int .u8 0, .int .u8 0, .int .u8 0, .int .u8 0, .int .u8 0, .int .u8 0, .int .u8 0, .int .u8 0] : List Value) := (by rw [HCL.out]; rfl)
   refine qc_store rfl (wanted_none rfl) rfl Hx1.out (off := 0) (vs := cs) (by rw [hlz]; kernel_rfl) HOC.out (by rw [hlz]; exact Nat.le_of_eq (Nat.zero_add _)) (E.d 2 0) (ec (E.d 1 1)) ?_
   intro u4_3 qc0 hm
   have qq := qc0.eqv (b := (cs : List Value).toArray) (lay_whole #[.int .i64 0, .slice none 0 0, .int .u8 0, .int .u8 0, .int .u8 0, .int .u8 0, .int .u8 0, .int .u8 0, .int .u8 0, .int .u8 0, .int .u8 0, .int .u8 0, .int .u8 0, .int .u8 0, .int .u8 0, .int .u8 0, .int .u8 0, .int .u8 0, .int .u8 0, .int .u8 0, .int .u8 0, .int .u8 0, .int .u8 0, .int .u8 0, .int .u8 0, .int .u8 0, .int .u8 0, .int .u8 0, .int .u8 0, .int .u8 0, .int .u8 0, .int .u8 0, .int .u8 0, .int .u8 0] _ (by rw [hlz]; rfl))
   clear qc0 hlz
   have Hx3 := hid qq
   have zu4_3 := hm.size
   have HMu4_3 := hid hm
   have Cx4 := hid (Mod.goS (S' := (fun _ => False)) Cx2.out hm (fun _ h => h) (by intro k h0 h2; omega))
   clear hm Cx2
   clear act E qq Hx1
   clear HMu4_3
   refine QSeq.nil (t' := [_, _, _, _]) rfl ?_
   obtain rfl := HA0.out
   clear HA0 oe8 oe10
   simp only [pz, Act.put, sIB, sCZ, sCS, List.set_nil]
   go_upto_region 5 with (fail)
   refine wp_region_U 22 [14, 15, 16, 17, 18, 19, 5] [0, 1, 2, 3, 4, 5, 6] (fun a0 HA0 => ?_)
   have oe1 := ev HA0 1 rfl
   have oe5 := ev HA0 5 rfl
   have oe7 := ev HA0 7 rfl
   refine QSeq.pure rfl _ (fun E => ex_move rfl (E.y 6 oe5)) ?_
   refine QSeq.pure rfl _ (fun E => ex_move rfl (E.v oe1)) ?_
   refine QSeq.pure rfl _ (fun E => ex_loadA rfl Tryz.underlying54 rfl (off := 0) (cs := cs) (by rw [HCL.out]; kernel_rfl) (E.v oe7) (Cs.whole Hx3.out)) ?_
   refine QSeq.go fun act E => ?_
   have ea16 : act.eval (.tmp 16) = .agg cs.toArray := (E.d 2 0)
   refine qc_call (args := #[.agg cs.toArray]) rfl (wanted_none rfl) (by rw [ex_callV rfl (E.d 1 1) Tryz.func99 (by kernel_rfl) (by kernel_rfl)]; exact congrArg (fun z => Result.ok (Next.enter _ z) _) (by simp only [List.map_toArray, List.map_cons, List.map_nil, ea16]; try rfl)) (cop_Op _ _ _ _ (HRD.out.mod Cx4.out (fun _ _ h => h)) (by intro k h1; have hb := HBT.out k h1; omega) HPK.out) ?_
   rintro e u5_3 ⟨cn, rfl, qnw, hm⟩
   have HCN := hid (OpR.len qnw)
   refine ⟨_, rfl, ?_⟩
   have Hx5 := hid qnw
   have zu5_3 := hm.size
   have Cx6 := hid (show Mod (fun _ => False) u4_3 u5_3 from hm)
   clear hm
   clear act E qnw ea16
   refine QSeq.go fun act E => ?_
   refine qc_buildS (e := 54) (cs := cn) (zc := [.int .i64 0, .slice none 0 0, .int .u8 0, .int .u8 0, .int .u8 0, .int .u8 0, .int .u8 0, .int .u8 0, .int .u8 0, .int .u8 0, .int .u8 0, .int .u8 0, .int .u8 0, .int .u8 0, .int .u8 0, .int .u8 0, .int .u8 0, .int .u8 0, .int .u8 0, .int .u8 0, .int .u8 0, .int .u8 0, .int .u8 0, .int .u8 0, .int .u8 0, .int .u8 0, .int .u8 0, .int .u8 0, .int .u8 0, .int .u8 0, .int .u8 0, .int .u8 0, .int .u8 0, .int .u8 0]) (sz := 34) rfl (wanted_none rfl) rfl Tryz.underlying42 (by kernel_rfl) rfl (by decide) (by decide) (E.d 3 0) (OpR.len Hx5.out) ?_
   intro u5_4 qrow hm
   have zl5_4 := qrow.lt
   have Hx7 := hid qrow
   have zu5_4 := hm.size
   have HMu5_4 := hid hm
   have Cx8 := hid (Cx6.out.goE hm)
   clear hm Cx6
   clear act E qrow
   refine QSeq.go fun act E => ?_
   refine qc_appS (A := OpR) (e := 54) rfl (wanted_none rfl) rfl (.agg #[.int .i64 0, .slice none 0 0, .int .u8 0, .int .u8 0, .int .u8 0, .int .u8 0, .int .u8 0, .int .u8 0, .int .u8 0, .int .u8 0, .int .u8 0, .int .u8 0, .int .u8 0, .int .u8 0, .int .u8 0, .int .u8 0, .int .u8 0, .int .u8 0, .int .u8 0, .int .u8 0, .int .u8 0, .int .u8 0, .int .u8 0, .int .u8 0, .int .u8 0, .int .u8 0, .int .u8 0, .int .u8 0, .int .u8 0, .int .u8 0, .int .u8 0, .int .u8 0, .int .u8 0, .int .u8 0]) 64 Tryz.underlying42 info_Op (by rfl) (of_decide_eq_true (by kernel_rfl)) (E.d 0 4) (E.d 4 0) (((HAL.out.mod Cx4.out (fun _ _ h => h) (fun _ _ h => h)).mod Cx8.out (fun _ _ h => h) (fun _ _ h => h))) (RdS.single (R := (fun k => (New u4_3 u5_3 k) ∨ (k = u5_3.heap.size))) Hx7.out ((Hx5.out.mod HMu5_4.out (fun _ _ h => h)).widen (by intro k h1; first | omega | exact h1.elim | exact Or.inl h1 | exact Or.inr (h1))) (by right; rfl)) (by intro k h1 h2; omega) (by have h9 := HL.out; rw [List.length_take]; simp only [List.length_cons, List.length_nil]; omega) (by have h9 := HL.out; rw [List.length_take]; simp only [List.length_cons, List.length_nil]; rw [maxLen_val]; omega) ?_
   intro ao5 cap5 u5_5 qout hm
   have Hx9 := hid (qout.widen (R' := (fun k => (New w wl k) ∨ (New u5_4 u5_5 k))) (E' := (fun k => (New w wl k) ∨ (New u4_3 u5_3 k) ∨ (k = u5_3.heap.size))) (fun _ h => h) (by intro k h1; rcases h1 with h1 | (h1 | h1) <;> first | omega | exact h1.elim | exact Or.inl h1 | exact Or.inr (Or.inl h1) | exact Or.inr (Or.inr (h1))))
   have zu5_5 := hm.size
   have HMu5_5 := hid hm
   have Cx10 := hid (Mod.goS (S' := (fun k => (New w wl k))) Cx8.out hm (fun _ h => h.elim) (by intro k h0 h2; exact h2))
   clear hm Cx8
   clear act E qout HAL
   refine QSeq.pure rfl _ (fun E => ex_assign rfl (E.d 5 0)) ?_
   have Hx11 := hid ((Hx5.out.mod HMu5_4.out (fun _ _ h => h)).mod HMu5_5.out (by intro k h1 h2; omega))
   have Hx12 := hid (Hx7.out.mod HMu5_5.out (by intro h2; omega))
   clear Hx5 Hx7 HMu5_4 HMu5_5
   refine QSeq.nil (t' := [_, _, _, _, _, _, _]) rfl ?_
   obtain rfl := HA0.out
   clear HA0 oe1 oe5 oe7
   simp only [pz, Act.put, sIB, sCZ, sCS]
   have hq := Hx9.out
   rw [show l.take k ++ [l[k]] = l.take (k + 1) from (List.take_succ_eq_append_getElem hlt).symm] at hq
   have HQ := Lib.hid hq
   clear hq
   go_upto_region 6 with (fail)
   refine wp_region_U 22 [20, 10] [0, 1] (fun a0 HA0 => ?_)
   have oe10 := ev HA0 10 rfl
   refine QSeq.pure rfl (.int .i64 (((k : Nat) : Int) + 1)) (fun E => ex_binE rfl (E.y 1 oe10) rfl (guard_ints _ _ _ _ _ _) (run_add_i _ _ Tryz.underlying3) (congrArg (Value.int .i64) (IntWalk.i64_in _ (by have h9 := HL.out; omega)))) ?_
   refine QSeq.pure rfl _ (fun E => ex_move rfl (E.d 0 0)) ?_
   refine QSeq.nil (t' := [_, _]) rfl ?_
   obtain rfl := HA0.out
   clear HA0 oe10
   simp only [pz, Act.put, sIB, sCZ, sCS]
   go_wp2
   go_roundw
   case rel => exact ⟨k + 1, by go_num, by omega, by omega, HQ.out.widen (by intro b h1; (try dsimp only at h1 ⊢); omega) (by intro b h1; (try dsimp only at h1 ⊢); omega), ((HSL.out.mod Cx4.out (fun _ _ h => h)).mod Cx10.out (sN HBT)), ((HML.out.trans Cx4.out (fun _ _ h => h.elim)).trans Cx10.out (by intro k h1 h2; omega))⟩
   case measure => simp [intOf]; omega
  ·obtain rfl : l.length = k := by omega
   have hq := HAL.out
   rw [List.take_length] at hq
   have HQ := Lib.hid hq
   clear hq
   go_upto_region 3 with (fail)
   refine wp_region_U 22 [11] [0] (fun a0 HA0 => ?_)
   have oe9 := ev HA0 9 rfl
   have oe10 := ev HA0 10 rfl
   refine QSeq.pure rfl (.bool false) (fun E => ex_binE rfl (E.v oe10) (E.v oe9) (guard_ints _ _ _ _ _ _) (run_lss_i _ _ _ Tryz.underlying3) (congrArg Value.bool (decide_eq_false (by omega)))) ?_
   refine QSeq.nil (t' := [_]) rfl ?_
   obtain rfl := HA0.out
   clear HA0 oe9 oe10
   simp only [pz, Act.put, sIB, sCZ, sCS]
   go_upto_region 7 with (fail)
   refine wp_region_U 22 [21, 4] [0, 1] (fun a0 HA0 => ?_)
   have oe5 := ev HA0 5 rfl
   refine QSeq.pure rfl _ (fun E => ex_move rfl (E.v oe5)) ?_
   refine QSeq.pure rfl _ (fun E => ex_assign rfl (E.d 0 0)) ?_
   refine QSeq.nil (t' := [_, _]) rfl ?_
   obtain rfl := HA0.out
   clear HA0 oe5
   simp only [pz, Act.put, sIB, sCZ, sCS]
   go_wp2
   go_ret
   exact ⟨_, rfl, by rw [List.take_length]; exact HQ.out.rd.widen (by intro b h1; (try dsimp only at h1 ⊢); omega), HML.out⟩
set_option maxHeartbeats 4000000 in
theorem cop_Ba : CopR BaR cpBa 100 := by
 intro R2 x cs w hx hB2 hP
 obtain ⟨v_ps, v_os, v_ts, rfl, hok, hs0, hs1, hs2⟩ := hx
 obtain ⟨ao_ps, cap_ps, rfl⟩ := hs0.shape
 obtain ⟨ao_os, cap_os, rfl⟩ := hs1.shape
 obtain ⟨ao_ts, cap_ts, rfl⟩ := hs2.shape
 have HS0 := Lib.hid hs0
 have HS1 := Lib.hid hs1
 have HS2 := Lib.hid hs2
 have HBT := Lib.hid hB2
 have HOK := Lib.hid hok
 have HP := Lib.hid hP
 clear hs0 hs1 hs2 hB2 hok hP
 go_enter Tryz.func100, Tryz.ntmps100
 go_upto_region 1 with (fail)
 obtain ⟨w1, hw1⟩ : ∃ zz, zz = ((w.alloc (.cells #[.int .i64 x.ep, .int .u64 (x.tm : Nat), Value.slice ao_ps x.ps.length cap_ps, Value.slice ao_os x.os.length cap_os, Value.slice ao_ts x.ts.length cap_ts] 45)).alloc (.cells #[.int .i64 0, .int .u64 0, .slice none 0 0, .slice none 0 0, .slice none 0 0] 45)) := ⟨_, rfl⟩
 change Code.wp _ _ _ _ ((w.alloc (.cells #[.int .i64 x.ep, .int .u64 (x.tm : Nat), Value.slice ao_ps x.ps.length cap_ps, Value.slice ao_os x.os.length cap_os, Value.slice ao_ts x.ts.length cap_ts] 45)).alloc (.cells #[.int .i64 0, .int .u64 0, .slice none 0 0, .slice none 0 0, .slice none 0 0] 45))
 rw [← hw1]
 have HB1 := hid (show Cs w1 (w.heap.size) #[.int .i64 x.ep, .int .u64 (x.tm : Nat), Value.slice ao_ps x.ps.length cap_ps, Value.slice ao_os x.os.length cap_os, Value.slice ao_ts x.ts.length cap_ts] 45 by rw [hw1]; exact (Cs.new _ _ _).alloc _)
 have HB2 := hid (show Cs w1 (w.heap.size + 1) #[.int .i64 0, .int .u64 0, .slice none 0 0, .slice none 0 0, .slice none 0 0] 45 by rw [hw1]; exact Cs_newN _ _ _ (by simp))
 have hm : Mod (fun _ => False) w w1 := by rw [hw1]; exact ((Mod.refl _ _).alloc _).alloc _
 have HM0 := hid (show Mod (fun _ => False) w w1 from hm.mono (fun _ _ h => h.elim))
 have hs1 : w1.heap.size = w.heap.size + 2 := by rw [hw1]; simp
 have Hx1 := hid (HS0.out.mod hm (fun _ _ h => h))
 clear HS0
 have Hx2 := hid (HS1.out.mod hm (fun _ _ h => h))
 clear HS1
 have Hx3 := hid (HS2.out.mod hm (fun _ _ h => h))
 clear HS2
 clear hw1 hm
 go_upto_region 1 with (fail)
 generalize ha0 : Act.mk _ _ = a0
 have oe1 : a0.eval (.tmp 1) = .pointer (some ⟨w.heap.size, 0, none⟩) := by rw [← ha0]; rfl
 have hsz0 : a0.tmps.size = 16 := by rw [← ha0]; rfl
 have HA0 := hid ha0
 clear ha0
 refine wp_region_Q1 16 hsz0 [3, 4, 5, 6, 7, 8, 9, 10, 11, 12, 26, 13, 28, 14, 30] (fun k => (k = w.heap.size)) (fun k j => (k = 3 ∧ ((j = w.heap.size))) ∨ (k = 4 ∧ ((j = w.heap.size))) ∨ (k = 5 ∧ ((j = w.heap.size)))) (by intro k j h; (try dsimp only at h ⊢); omega) [qi (.pointer (some ⟨w.heap.size, 2, none⟩)), qi (.slice ao_ps x.ps.length cap_ps), qv 0, qi (.pointer (some ⟨w.heap.size, 3, none⟩)), qi (.slice ao_os x.os.length cap_os), qv 1, qi (.pointer (some ⟨w.heap.size, 4, none⟩)), qi (.slice ao_ts x.ts.length cap_ts), qv 2, qi (.pointer (some ⟨w.heap.size, 2, none⟩)), qv 3, qi (.pointer (some ⟨w.heap.size, 3, none⟩)), qv 4, qi (.pointer (some ⟨w.heap.size, 4, none⟩)), qv 5] ⟨qi_stable, qi_stable, qv_stable, qi_stable, qi_stable, qv_stable, qi_stable, qi_stable, qv_stable, qi_stable, qv_stable, qi_stable, qv_stable, qi_stable, qv_stable, trivial⟩ [2, 5, 8, 10, 12, 14] ⟨?_, ?_, ?_, ?_, ?_, ?_, ?_, ?_, ?_, ?_, ?_, ?_, ?_, ?_, ?_, trivial⟩ ?_
 ·exact stq (fun E => ex_field rfl Tryz.underlying45 rfl (by kernel_rfl) (E.v oe1))
 ·refine stepq_env rfl rfl rfl fun _ _ _ _ _ _ hm0 _ _ hd hub _ => ?_
  have h0 := hd ⟨0, .data⟩ (by simp) rfl _ rfl
  refine qe_run rfl (wanted_none rfl) (ex_load1 rfl Tryz.underlying41 rfl h0 (Cs.lit1 (HB1.out.mod hm0 (by intro h2; have hu := hub 3 10 rfl (by kernel_rfl); rcases h2 with ⟨h0, kk, hk, h2⟩ | h2 <;> omega)) rfl)) QE.refl ?_
  rfl
 ·exact stepq_chain rfl
 ·exact stq (fun E => ex_field rfl Tryz.underlying45 rfl (by kernel_rfl) (E.v oe1))
 ·refine stepq_env rfl rfl rfl fun _ _ _ _ _ _ hm0 _ _ hd hub _ => ?_
  have h3 := hd ⟨3, .data⟩ (by simp) rfl _ rfl
  refine qe_run rfl (wanted_none rfl) (ex_load1 rfl Tryz.underlying42 rfl h3 (Cs.lit1 (HB1.out.mod hm0 (by intro h2; have hu := hub 3 10 rfl (by kernel_rfl); rcases h2 with ⟨h0, kk, hk, h2⟩ | h2 <;> omega)) rfl)) QE.refl ?_
  rfl
 ·exact stepq_chain rfl
 ·exact stq (fun E => ex_field rfl Tryz.underlying45 rfl (by kernel_rfl) (E.v oe1))
 ·refine stepq_env rfl rfl rfl fun _ _ _ _ _ _ hm0 _ _ hd hub _ => ?_
  have h6 := hd ⟨6, .data⟩ (by simp) rfl _ rfl
  refine qe_run rfl (wanted_none rfl) (ex_load1 rfl Tryz.underlying43 rfl h6 (Cs.lit1 (HB1.out.mod hm0 (by intro h2; have hu := hub 3 10 rfl (by kernel_rfl); rcases h2 with ⟨h0, kk, hk, h2⟩ | h2 <;> omega)) rfl)) QE.refl ?_
  rfl
 ·exact stepq_chain rfl
 ·exact stq (fun E => ex_field rfl Tryz.underlying45 rfl (by kernel_rfl) (E.v oe1))
 ·exact stepq_chain rfl
 ·exact stq (fun E => ex_field rfl Tryz.underlying45 rfl (by kernel_rfl) (E.v oe1))
 ·exact stepq_chain rfl
 ·exact stq (fun E => ex_field rfl Tryz.underlying45 rfl (by kernel_rfl) (E.v oe1))
 ·exact stepq_chain rfl
 intro u1_0 hr
 have zu1_0 := hr.size
 have Cx4 := hid (hr.new (S := (fun k => (k = w.heap.size))))
 have Hx5 := hid (HB1.out.mod hr (by intro h2; omega))
 clear HB1
 clear hr
 refine QChain.go fun Z act E => ?_
 refine qc_callF (args := #[.slice ao_ps x.ps.length cap_ps, .func (.func 98) #[] #[]]) rfl (wanted_none rfl) rfl Tryz.func133 (args2 (E.d 1) rfl) (copied_Pm _ x.ps _ _ (Hx1.out.mod Cx4.out (sB HBT)) (by intro k h1; have hb := HBT.out k h1; omega) HP.out.1.1 HP.out.1.2) ?_
 rintro e u1_1a ⟨vops, rfl, qops, hm⟩
 obtain ⟨ao_ops, cap_ops, rfl⟩ := qops.shape
 have zu1_1a := hm.size
 refine ⟨_, rfl, hm.mono (fun _ _ h => h.elim), (fun _ => rfl), ?_⟩
 intro u1_1 hr
 have zu1_1 := hr.size
 have Hx6 := hid ((qops.widen (R' := (fun k => (New u1_0 u1_1a k))) (fun _ h => h)).mod hr (by intro k h1 h2; omega))
 have hmr := Mod.after hm hr
 have Hx7 := hid (Hx5.out.mod hmr (by intro h2; omega))
 clear Hx5
 clear hmr
 have Cx8 := hid (Cx4.out.go hm hr)
 clear Cx4 hm hr Z act E qops
 refine QChain.go fun Z act E => ?_
 refine qc_callF (args := #[.slice ao_os x.os.length cap_os, .func (.func 99) #[] #[]]) rfl (wanted_none rfl) rfl Tryz.func134 (args2 (E.d 4) rfl) (copied_Op _ x.os _ _ (Hx2.out.mod Cx8.out (sB HBT)) (by intro k h1; have hb := HBT.out k h1; omega) HP.out.2.1.1 HP.out.2.1.2) ?_
 rintro e u1_2a ⟨voos, rfl, qoos, hm⟩
 obtain ⟨ao_oos, cap_oos, rfl⟩ := qoos.shape
 have zu1_2a := hm.size
 refine ⟨_, rfl, hm.mono (fun _ _ h => h.elim), (fun _ => rfl), ?_⟩
 intro u1_2 hr
 have zu1_2 := hr.size
 have Hx9 := hid ((qoos.widen (R' := (fun k => (New u1_1 u1_2a k))) (fun _ h => h)).mod hr (by intro k h1 h2; omega))
 have hmr := Mod.after hm hr
 have Hx10 := hid (Hx7.out.mod hmr (by intro h2; omega))
 have Hx11 := hid (Hx6.out.mod hmr (by intro k h1 h2; omega))
 clear Hx7 Hx6
 clear hmr
 have Cx12 := hid (Cx8.out.go hm hr)
 clear Cx8 hm hr Z act E qoos
 refine QChain.go fun Z act E => ?_
 refine qc_callF (args := #[.slice ao_ts x.ts.length cap_ts, .func (.func 136) #[] #[]]) rfl (wanted_none rfl) rfl Tryz.func135 (args2 (E.d 7) rfl) (copied_Tb _ x.ts _ _ (Hx3.out.mod Cx12.out (sB HBT)) (by intro k h1; have hb := HBT.out k h1; omega) HP.out.2.2.1 HP.out.2.2.2) ?_
 rintro e u1_3a ⟨vots, rfl, qots, hm⟩
 obtain ⟨ao_ots, cap_ots, rfl⟩ := qots.shape
 have zu1_3a := hm.size
 refine ⟨_, rfl, hm.mono (fun _ _ h => h.elim), (fun _ => rfl), ?_⟩
 intro u1_3 hr
 have zu1_3 := hr.size
 have Hx13 := hid ((qots.widen (R' := (fun k => (New u1_2 u1_3a k))) (fun _ h => h)).mod hr (by intro k h1 h2; omega))
 have hmr := Mod.after hm hr
 have Hx14 := hid (Hx10.out.mod hmr (by intro h2; omega))
 have Hx15 := hid (Hx11.out.mod hmr (by intro k h1 h2; omega))
 have Hx16 := hid (Hx9.out.mod hmr (by intro k h1 h2; omega))
 clear Hx10 Hx11 Hx9
 clear hmr
 have Cx17 := hid (Cx12.out.go hm hr)
 clear Cx12 hm hr Z act E qots
 refine QChain.go fun Z act E => ?_
 refine qc_store rfl (wanted_none rfl) rfl Hx14.out (off := 2) (vs := [Value.slice ao_ops x.ps.length cap_ops]) (by kernel_rfl) one1 (by show 2 + 1 ≤ 5; decide) (E.d 9) (ec (chv (v := .slice ao_ops x.ps.length cap_ops) (E.d 2))) ?_
 intro u1_4a qc0 hm
 have qB1 := qc0.eqv (b := #[.int .i64 x.ep, .int .u64 (x.tm : Nat), Value.slice ao_ops x.ps.length cap_ops, Value.slice ao_os x.os.length cap_os, Value.slice ao_ts x.ts.length cap_ts]) rfl
 clear qc0
 have zu1_4a := hm.size
 refine ⟨hm.mono (by intro k hk h; omega), (fun _ => rfl), ?_⟩
 intro u1_4 hr
 have zu1_4 := hr.size
 have Hx18 := hid (qB1.mod hr (by intro h2; omega))
 have hmr := hm.two hr
 have Hx19 := hid (Hx15.out.mod hmr (by intro k h1 h2; omega))
 have Hx20 := hid (Hx16.out.mod hmr (by intro k h1 h2; omega))
 have Hx21 := hid (Hx13.out.mod hmr (by intro k h1 h2; omega))
 clear Hx15 Hx16 Hx13
 clear hmr
 have Cx22 := hid (Cx17.out.goM hm hr (fun _ _ h => h))
 clear Cx17 hm hr Z act E qB1 Hx14
 refine QChain.go fun Z act E => ?_
 refine qc_store rfl (wanted_none rfl) rfl Hx18.out (off := 3) (vs := [Value.slice ao_oos x.os.length cap_oos]) (by kernel_rfl) one1 (by show 3 + 1 ≤ 5; decide) (E.d 11) (ec (chv (v := .slice ao_oos x.os.length cap_oos) (E.d 5))) ?_
 intro u1_5a qc0 hm
 have qB1 := qc0.eqv (b := #[.int .i64 x.ep, .int .u64 (x.tm : Nat), Value.slice ao_ops x.ps.length cap_ops, Value.slice ao_oos x.os.length cap_oos, Value.slice ao_ts x.ts.length cap_ts]) rfl
 clear qc0
 have zu1_5a := hm.size
 refine ⟨hm.mono (by intro k hk h; omega), (fun _ => rfl), ?_⟩
 intro u1_5 hr
 have zu1_5 := hr.size
 have Hx23 := hid (qB1.mod hr (by intro h2; omega))
 have hmr := hm.two hr
 have Hx24 := hid (Hx19.out.mod hmr (by intro k h1 h2; omega))
 have Hx25 := hid (Hx20.out.mod hmr (by intro k h1 h2; omega))
 have Hx26 := hid (Hx21.out.mod hmr (by intro k h1 h2; omega))
 clear Hx19 Hx20 Hx21
 clear hmr
 have Cx27 := hid (Cx22.out.goM hm hr (fun _ _ h => h))
 clear Cx22 hm hr Z act E qB1 Hx18
 refine QChain.go fun Z act E => ?_
 refine qc_store rfl (wanted_none rfl) rfl Hx23.out (off := 4) (vs := [Value.slice ao_ots x.ts.length cap_ots]) (by kernel_rfl) one1 (by show 4 + 1 ≤ 5; decide) (E.d 13) (ec (chv (v := .slice ao_ots x.ts.length cap_ots) (E.d 8))) ?_
 intro u1_6a qc0 hm
 have qB1 := qc0.eqv (b := #[.int .i64 x.ep, .int .u64 (x.tm : Nat), Value.slice ao_ops x.ps.length cap_ops, Value.slice ao_oos x.os.length cap_oos, Value.slice ao_ots x.ts.length cap_ots]) rfl
 clear qc0
 have zu1_6a := hm.size
 refine ⟨hm.mono (by intro k hk h; omega), (fun _ => rfl), ?_⟩
 intro u1_6 hr
 have zu1_6 := hr.size
 have Hx28 := hid (qB1.mod hr (by intro h2; omega))
 have hmr := hm.two hr
 have Hx29 := hid (Hx24.out.mod hmr (by intro k h1 h2; omega))
 have Hx30 := hid (Hx25.out.mod hmr (by intro k h1 h2; omega))
 have Hx31 := hid (Hx26.out.mod hmr (by intro k h1 h2; omega))
 clear Hx24 Hx25 Hx26
 clear hmr
 have Cx32 := hid (Cx27.out.goM hm hr (fun _ _ h => h))
 clear Cx27 hm hr Z act E qB1 Hx23
 refine QChain.nil fun vs hl hzz hrows hne => ?_
 obtain ⟨Z, hYZ, hZb, hV⟩ := hzz
 have f2 := fvc hV hl 2
 have f5 := fvc hV hl 5
 have f8 := fvc hV hl 8
 rw [show vs = [gw vs 0, gw vs 1, gw vs 2, gw vs 3, gw vs 4, gw vs 5, gw vs 6, gw vs 7, gw vs 8, gw vs 9, gw vs 10, gw vs 11, gw vs 12, gw vs 13, gw vs 14] from (gw_eta hl).trans rfl]
 have ha0 := HA0.out
 subst ha0
 clear HA0 hV hYZ hZb hsz0 hrows hne oe1
 simp only [putAll, Act.put, sIB, sCZ, sCS, List.set_nil, f2, f5, f8]
 clear hl f2 f5 f8
 go_upto_region 2 with (fail)
 refine wp_region_U 16 [15, 17] [0, 1] (fun a0 HA0 => ?_)
 have oe1 := ev HA0 1 rfl
 have oe2 := ev HA0 2 rfl
 refine QSeq.pure rfl _ (fun E => ex_loadA rfl Tryz.underlying45 rfl (off := 0) (cs := [.int .i64 x.ep, .int .u64 (x.tm : Nat), Value.slice ao_ops x.ps.length cap_ops, Value.slice ao_oos x.os.length cap_oos, Value.slice ao_ots x.ts.length cap_ots]) (by kernel_rfl) (E.v oe1) (Cs.whole Hx28.out)) ?_
 refine QSeq.go fun act E => ?_
 refine qc_store rfl (wanted_none rfl) rfl (HB2.out.mod Cx32.out (by intro h2; omega)) (off := 0) (vs := [.int .i64 x.ep, .int .u64 (x.tm : Nat), Value.slice ao_ops x.ps.length cap_ops, Value.slice ao_oos x.os.length cap_oos, Value.slice ao_ots x.ts.length cap_ots]) (by kernel_rfl) (by intro u hu; simp only [List.mem_cons, List.not_mem_nil, or_false] at hu; rcases hu with rfl | rfl | rfl | rfl | rfl <;> rfl) (by show 0 + 5 ≤ 5; decide) (E.v oe2) (ec (E.d 0 0)) ?_
 intro u2_1 qc0 hm
 have qB2 := qc0.eqv (b := #[.int .i64 x.ep, .int .u64 (x.tm : Nat), Value.slice ao_ops x.ps.length cap_ops, Value.slice ao_oos x.os.length cap_oos, Value.slice ao_ots x.ts.length cap_ots]) (lay_whole _ _ rfl)
 clear qc0
 have Hx33 := hid qB2
 have zu2_1 := hm.size
 have Cx34 := hid (show Mod (fun k => (k = w.heap.size + 1)) u1_6 u2_1 from hm)
 clear hm
 clear act E qB2 HB2
 refine QSeq.nil (t' := [_, _]) rfl ?_
 obtain rfl := HA0.out
 clear HA0 oe1 oe2
 simp only [pz, Act.put, sIB, sCZ, sCS, List.set_nil]
 go_wp2
 exact bodyPost_ret (results_cellA rfl _ _ (w.heap.size + 1) ([.int .i64 x.ep, .int .u64 (x.tm : Nat), Value.slice ao_ops x.ps.length cap_ops, Value.slice ao_oos x.os.length cap_oos, Value.slice ao_ots x.ts.length cap_ots]) rfl (fun k u hu => by rw [Hx33.out.cell]; simpa using hu) Tryz.underlying45 rfl (by kernel_rfl)) rfl ⟨_, rfl, ⟨_, _, _, rfl, HOK.out, (Hx29.out.mod Cx34.out (by intro k h1 h2; omega)).widen (by intro k h1; omega), (Hx30.out.mod Cx34.out (by intro k h1 h2; omega)).widen (by intro k h1; omega), (Hx31.out.mod Cx34.out (by intro k h1 h2; omega)).widen (by intro k h1; omega)⟩, ((HM0.out.trans Cx32.out (by intro k h1 h2; omega)).trans Cx34.out (by intro k h1 h2; omega))⟩
end Go.Proofs.YtpnikilkcifncaaGreat

/- Things that are nothing. No walk here. -/
namespace Go.Proofs.YtpnikilkcifncaaGreat
open Go Go.RowKit Go.Gv

def zCe : Ce := ⟨⟨0, 0, List.replicate 32 0, 0, 0, 0⟩, []⟩
def zPm : Pm := ⟨0, 0, 0, [], 0, 0⟩
def zBa : Ba := ⟨0, 0, [], [], []⟩
theorem HK_zero : HK (List.replicate 32 0) := by
 refine ⟨by simp, ?_⟩
 intro x hx
 simp at hx
 subst hx
 decide
theorem I64_0 : I64 0 := by unfold I64; decide
theorem U64_0 : 0 < U64 := by unfold U64; decide
theorem zCe_OK : zCe.OK := ⟨⟨I64_0, I64_0, I64_0, I64_0, I64_0⟩, HK_zero⟩
theorem zPm_OK : zPm.OK := ⟨I64_0, I64_0, U64_0, I64_0, I64_0⟩
theorem zBa_OK : zBa.OK := ⟨I64_0, U64_0⟩
theorem zCe_rd (R : Nat → Prop) (w : World) : CeR.rd R w (zCe.cells (.slice none 0 0)) zCe := ⟨_, rfl, zCe_OK, RdS.nil _ _ _⟩
theorem zPm_rd (R : Nat → Prop) (w : World) : PmR.rd R w (zPm.cells (.slice none 0 0)) zPm := ⟨_, rfl, zPm_OK, RdS.nil _ _ _⟩
end Go.Proofs.YtpnikilkcifncaaGreat

/- More parts of messages, put as bytes. -/
namespace Go.Proofs.YtpnikilkcifncaaGreat
open Go Go.RowKit Go.Gv


def prB (x : Pr) : List Int := encI x.ep ++ (encI x.rn ++ (encI (IntKind.i64.wrap (x.vl + 1)) ++ (encI x.rp ++ (baB x.ba ++ sigB x.sb x.mr))))
theorem I64_wrap (n : Int) : I64 (IntKind.i64.wrap n) := by
 have := bounds_i64 (wf_wrap .i64 n)
 unfold I64
 omega
set_option maxHeartbeats 4000000 in
theorem PutAk_Q : Puts StR 107 stB := by
 intro R R2 g bs cs x w hW hB hx hB2 hD hl
 obtain ⟨rfl, hok⟩ := hx
 have HW := Lib.hid hW
 have HBR := Lib.hid hB
 have HBT := Lib.hid hB2
 have HDJ := Lib.hid hD
 have HOK := Lib.hid hok
 have HL := Lib.hid hl
 clear hW hB hB2 hD hl hok
 unfold stB at HL
 go_enter Tryz.func107, Tryz.ntmps107
 go_upto_region 1 with (fail)
 obtain ⟨w1, hw1⟩ : ∃ zz, zz = (w.alloc (.cells (x.cells : List Value).toArray 37)) := ⟨_, rfl⟩
 change Code.wp _ _ _ _ (w.alloc (.cells (x.cells : List Value).toArray 37))
 rw [← hw1]
 have HB3 := hid (show Cs w1 (w.heap.size) (x.cells : List Value).toArray 37 by rw [hw1]; exact Cs.new _ _ _)
 have hm : Mod (fun _ => False) w w1 := by rw [hw1]; exact (Mod.refl _ _).alloc _
 have HM0 := hid (show Mod (fun k => (R k)) w w1 from hm.mono (fun _ _ h => h.elim))
 have hs1 : w1.heap.size = w.heap.size + 1 := by rw [hw1]; simp
 have Hx1 := hid (HW.out.mod hm (fun _ _ h => h))
 clear HW
 clear hw1 hm
 go_upto_region 1 with (fail)
 refine wp_region_U 23 [4, 5, 6, 7] [0, 1, 2, 3] (fun a0 HA0 => ?_)
 have oe0 := ev HA0 0 rfl
 have oe3 := ev HA0 3 rfl
 refine QSeq.pure rfl _ (fun E => ex_move rfl (E.v oe0)) ?_
 refine QSeq.pure rfl (.pointer (some ⟨w.heap.size, 0, none⟩)) (fun E => ex_field rfl Tryz.underlying37 rfl (by kernel_rfl) (E.v oe3)) ?_
 refine QSeq.pure rfl _ (fun E => ex_load1 rfl Tryz.underlying3 rfl (E.d 1 0) (Cs.pre1 HB3.out rfl)) ?_
 refine QSeq.call rfl rfl Tryz.func69 (WInt_Q Hx1.out HOK.out.rp (by have := HL.out; simp only [List.length_append] at this ⊢; omega)) (fun E => args2 (E.d 0 2) (E.d 2 0)) ?_
 rintro e u1_3 ⟨rfl, qwr, hm⟩
 refine ⟨_, rfl, ?_⟩
 have Hx2 := hid (qwr.widen (R' := (fun k => (R k) ∨ (New w1 u1_3 k))) (fun _ h => h) (Nat.le_refl _))
 have zu1_3 := hm.size
 have Cx3 := hid (show Mod (fun k => (R k)) w1 u1_3 from hm)
 clear hm
 clear qwr Hx1
 refine QSeq.nil (t' := [_, _, _, _]) rfl ?_
 obtain rfl := HA0.out
 clear HA0 oe0 oe3
 simp only [pz, Act.put, sIB, sCZ, sCS]
 go_upto_region 2 with (fail)
 refine wp_region_U 23 [8, 9, 10, 11] [0, 1, 2, 3] (fun a0 HA0 => ?_)
 have oe0 := ev HA0 0 rfl
 have oe3 := ev HA0 3 rfl
 refine QSeq.pure rfl _ (fun E => ex_move rfl (E.v oe0)) ?_
 refine QSeq.pure rfl (.pointer (some ⟨w.heap.size, 1, none⟩)) (fun E => ex_field rfl Tryz.underlying37 rfl (by kernel_rfl) (E.v oe3)) ?_
 refine QSeq.pure rfl _ (fun E => ex_loadA rfl Tryz.underlying23 rfl (off := 1) (cs := [.int .i64 x.cl, .int .i64 x.sq]) (by kernel_rfl) (E.d 1 0) (Cs.preA (HB3.out.mod Cx3.out (by intro h2; first | omega | (have hb := HBR.out _ h2; omega))) rfl)) ?_
 refine QSeq.call rfl rfl Tryz.func137 (PutName_Q Hx2.out (by intro k h1; rcases h1 with h1 | h1 <;> first | omega | (have hb := HBR.out k h1; omega)) HOK.out.cl HOK.out.sq (by have := HL.out; simp only [List.length_append] at this ⊢; omega)) (fun E => args2 (E.d 0 2) (E.d 2 0)) ?_
 rintro e u2_3 ⟨rfl, qwr, hm⟩
 refine ⟨_, rfl, ?_⟩
 have Hx4 := hid (qwr.widen (R' := (fun k => (R k) ∨ (New w1 u1_3 k) ∨ (New u1_3 u2_3 k))) (by intro k h1; simp only [or_assoc] at h1 ⊢; exact h1) (Nat.le_refl _))
 have zu2_3 := hm.size
 have Cx5 := hid (show Mod (fun k => (R k) ∨ (New w1 u1_3 k)) u1_3 u2_3 from hm)
 clear hm
 clear qwr Hx2
 refine QSeq.nil (t' := [_, _, _, _]) rfl ?_
 obtain rfl := HA0.out
 clear HA0 oe0 oe3
 simp only [pz, Act.put, sIB, sCZ, sCS]
 go_upto_region 3 with (fail)
 generalize ha0 : Act.mk _ _ = a0
 have oe0 : a0.eval (.tmp 0) = .pointer (some ⟨g, 0, none⟩) := by rw [← ha0]; rfl
 have oe3 : a0.eval (.tmp 3) = .pointer (some ⟨w.heap.size, 0, none⟩) := by rw [← ha0]; rfl
 have hsz0 : a0.tmps.size = 23 := by rw [← ha0]; rfl
 have HA0 := hid ha0
 clear ha0
 refine wp_region_Q1 23 hsz0 [12, 13, 14, 15, 16, 17, 18] (fun k => (R k) ∨ (New w1 u1_3 k) ∨ (New u1_3 u2_3 k)) (fun k j => (k = 0 ∧ ((R j) ∨ (New w1 u1_3 j) ∨ (New u1_3 u2_3 j))) ∨ (k = 1 ∧ ((R j) ∨ (New w1 u1_3 j) ∨ (New u1_3 u2_3 j)))) (by intro k j h; (try dsimp only at h ⊢); rcases h with ⟨-, h | h | h⟩ | ⟨-, h | h | h⟩; (exact Or.inl (h)); (exact Or.inr (Or.inl (h))); (exact Or.inr (Or.inr (h))); (exact Or.inl (h)); (exact Or.inr (Or.inl (h))); (exact Or.inr (Or.inr (h)))) [qi (.pointer (some ⟨g, 0, none⟩)), qi (.pointer (some ⟨w.heap.size, 3, none⟩)), qi (hv x.h), qi (.pointer (some ⟨g, 0, none⟩)), qi (.pointer (some ⟨w.heap.size, 35, none⟩)), qi (.int .u64 (x.tm : Nat)), qi (.pointer (some ⟨g, 0, none⟩))] ⟨qi_stable, qi_stable, qi_stable, qi_stable, qi_stable, qi_stable, qi_stable, trivial⟩ [3, 6] ⟨?_, ?_, ?_, ?_, ?_, ?_, ?_, trivial⟩ ?_
 ·exact stq (fun E => ex_move rfl (E.v oe0))
 ·exact stq (fun E => ex_field rfl Tryz.underlying37 rfl (by kernel_rfl) (E.v oe3))
 ·exact stq (fun E => ex_loadA rfl Tryz.underlying25 rfl (off := 3) (cs := x.h.map bv) (by rw [List.length_map, HOK.out.h.1]; exact size_hash) (E.d 1) (Cs.midA (((HB3.out.mod Cx3.out (by intro h2; first | omega | (have hb := HBR.out _ h2; omega))).mod Cx5.out (by intro h2; rcases h2 with h2 | h2 <;> first | omega | (have hb := HBR.out _ h2; omega))).mod E.m (by intro h2; rcases h2 with ⟨h0, h2 | h2 | h2⟩ | h2 <;> first | omega | (have hb := HBR.out _ h2; omega))) rfl))
 ·exact stepq_chain rfl
 ·exact stq (fun E => ex_field rfl Tryz.underlying37 rfl (by kernel_rfl) (E.v oe3))
 ·exact stq (fun E => ex_load1 rfl Tryz.underlying30 rfl (E.d 4) (Cs.post1 (m := 32) (k := 0) (((HB3.out.mod Cx3.out (by intro h2; first | omega | (have hb := HBR.out _ h2; omega))).mod Cx5.out (by intro h2; rcases h2 with h2 | h2 <;> first | omega | (have hb := HBR.out _ h2; omega))).mod E.m (by intro h2; rcases h2 with ⟨h0, h2 | h2 | h2⟩ | h2 <;> first | omega | (have hb := HBR.out _ h2; omega))) (by rw [List.length_map]; exact HOK.out.h.1) rfl rfl))
 ·exact stepq_chain rfl
 intro u3_0 hr
 have zu3_0 := hr.size
 have Cx6 := hid (hr.new (S := (fun k => (R k) ∨ (New w1 u1_3 k) ∨ (New u1_3 u2_3 k))))
 have Hx7 := hid (Hx4.out.mod hr (by intro k h1 h2; rcases h1 with h1 | h1 | h1 <;> first | omega | (have hb := HBR.out k h1; omega)))
 clear Hx4
 clear hr
 refine QChain.go fun Z act E => ?_
 refine qc_callF (args := #[.pointer (some ⟨g, 0, none⟩), hv x.h]) rfl (wanted_none rfl) rfl Tryz.func138 (args2 (E.d 0) (E.d 2)) (WHash_Q Hx7.out HOK.out.h (by have := HL.out; simp only [List.length_append] at this ⊢; omega)) ?_
 rintro e u3_1a ⟨rfl, qwr, hm⟩
 have zu3_1a := hm.size
 refine ⟨_, rfl, hm.mono (by intro k hk h; rcases h with h | h | h <;> first | omega | exact Or.inl ⟨(by have hb := HBR.out k h; omega), Or.inl ⟨rfl, Or.inl h⟩⟩), (fun _ => rfl), ?_⟩
 intro u3_1 hr
 have zu3_1 := hr.size
 have Hx8 := hid ((qwr.widen (R' := (fun k => (R k) ∨ (New w1 u1_3 k) ∨ (New u1_3 u2_3 k) ∨ (New u3_0 u3_1a k))) (by intro k h1; simp only [or_assoc] at h1 ⊢; exact h1) (Nat.le_refl _)).mod hr (by intro k h1 h2; rcases h1 with h1 | h1 | h1 | h1 <;> first | omega | (have hb := HBR.out k h1; omega)))
 have Cx9 := hid (Cx6.out.goM hm hr (fun _ _ h => h))
 clear Cx6 hm hr Z act E qwr Hx7
 refine QChain.go fun Z act E => ?_
 refine qc_callF (args := #[.pointer (some ⟨g, 0, none⟩), .int .u64 (x.tm : Nat)]) rfl (wanted_none rfl) rfl Tryz.func103 (args2 (E.d 3) (E.d 5)) (WNum_Q Hx8.out HOK.out.tm (by have := HL.out; simp only [List.length_append] at this ⊢; omega)) ?_
 rintro e u3_2a ⟨rfl, qwr, hm⟩
 have zu3_2a := hm.size
 refine ⟨_, rfl, hm.mono (by intro k hk h; rcases h with h | h | h | h <;> first | omega | exact Or.inl ⟨(by have hb := HBR.out k h; omega), Or.inr (⟨rfl, Or.inl h⟩)⟩), (fun _ => rfl), ?_⟩
 intro u3_2 hr
 have zu3_2 := hr.size
 have Hx10 := hid ((qwr.widen (R' := (fun k => (R k) ∨ (New w1 u1_3 k) ∨ (New u1_3 u2_3 k) ∨ (New u3_0 u3_1a k) ∨ (New u3_1 u3_2a k))) (by intro k h1; simp only [or_assoc] at h1 ⊢; exact h1) (Nat.le_refl _)).mod hr (by intro k h1 h2; rcases h1 with h1 | h1 | h1 | h1 | h1 <;> first | omega | (have hb := HBR.out k h1; omega)))
 have Cx11 := hid (Cx9.out.goM hm hr (by intro k h0 h2; rcases h2 with h2 | h2 | h2 | h2 <;> first | omega | exact Or.inl h2 | exact Or.inr (Or.inl h2) | exact Or.inr (Or.inr (h2))))
 clear Cx9 hm hr Z act E qwr Hx8
 refine QChain.nil fun vs hl hzz hrows hne => ?_
 obtain ⟨Z, hYZ, hZb, hV⟩ := hzz
 have f0 := fvi hV hl 0
 have f3 := fvi hV hl 3
 have f6 := fvi hV hl 6
 rw [show vs = [gw vs 0, gw vs 1, gw vs 2, gw vs 3, gw vs 4, gw vs 5, gw vs 6] from (gw_eta hl).trans rfl]
 have ha0 := HA0.out
 subst ha0
 clear HA0 hV hYZ hZb hsz0 hrows hne oe0 oe3
 simp only [putAll, Act.put, sIB, sCZ, sCS, f0, f3, f6]
 clear hl f0 f3 f6
 go_upto_region 4 with (fail)
 refine wp_region_U 23 [19, 20, 21, 22] [0, 1, 2, 3] (fun a0 HA0 => ?_)
 have oe0 := ev HA0 0 rfl
 have oe3 := ev HA0 3 rfl
 refine QSeq.pure rfl _ (fun E => ex_move rfl (E.v oe0)) ?_
 refine QSeq.pure rfl (.pointer (some ⟨w.heap.size, 36, none⟩)) (fun E => ex_field rfl Tryz.underlying37 rfl (by kernel_rfl) (E.v oe3)) ?_
 refine QSeq.pure rfl _ (fun E => ex_loadA rfl Tryz.underlying27 rfl (off := 36) (cs := [.int .i64 x.sb, .int .i64 x.mr]) (by kernel_rfl) (E.d 1 0) (Cs.postA (m := 32) (k := 1) (((HB3.out.mod Cx3.out (by intro h2; first | omega | (have hb := HBR.out _ h2; omega))).mod Cx5.out (by intro h2; rcases h2 with h2 | h2 <;> first | omega | (have hb := HBR.out _ h2; omega))).mod Cx11.out (by intro h2; rcases h2 with h2 | h2 | h2 <;> first | omega | (have hb := HBR.out _ h2; omega))) (by rw [List.length_map]; exact HOK.out.h.1) rfl rfl)) ?_
 refine QSeq.call rfl rfl Tryz.func139 (PutSig_Q Hx10.out (by intro k h1; rcases h1 with h1 | h1 | h1 | h1 | h1 <;> first | omega | (have hb := HBR.out k h1; omega)) HOK.out.sb HOK.out.mr (by have := HL.out; simp only [List.length_append] at this ⊢; omega)) (fun E => args2 (E.d 0 2) (E.d 2 0)) ?_
 rintro e u4_3 ⟨rfl, qwr, hm⟩
 refine ⟨_, rfl, ?_⟩
 have Hx12 := hid (qwr.widen (R' := (fun k => (R k) ∨ (New w1 u1_3 k) ∨ (New u1_3 u2_3 k) ∨ (New u3_0 u3_1a k) ∨ (New u3_1 u3_2a k) ∨ (New u3_2 u4_3 k))) (by intro k h1; simp only [or_assoc] at h1 ⊢; exact h1) (Nat.le_refl _))
 have zu4_3 := hm.size
 have Cx13 := hid (show Mod (fun k => (R k) ∨ (New w1 u1_3 k) ∨ (New u1_3 u2_3 k) ∨ (New u3_0 u3_1a k) ∨ (New u3_1 u3_2a k)) u3_2 u4_3 from hm)
 clear hm
 clear qwr Hx10
 refine QSeq.nil (t' := [_, _, _, _]) rfl ?_
 obtain rfl := HA0.out
 clear HA0 oe0 oe3
 simp only [pz, Act.put, sIB, sCZ, sCS]
 go_wp2
 go_end0
 have hq := (Hx12.out.widen (R' := (fun k => R k ∨ New w u4_3 k)) (by intro k h1; rcases h1 with h1 | h1 | h1 | h1 | h1 | h1 <;> first | exact Or.inl h1 | (right; omega)) (Nat.le_refl _))
 simp only [List.append_assoc] at hq
 exact ⟨rfl, by simpa only [stB, List.append_assoc] using hq, ((((HM0.out.trans Cx3.out (fun _ _ h => h)).trans Cx5.out (by intro k h1 h2; rcases h2 with h2 | h2 <;> first | exact h2 | omega | (have hb := HBR.out k h2; omega))).trans Cx11.out (by intro k h1 h2; rcases h2 with h2 | h2 | h2 <;> first | exact h2 | omega | (have hb := HBR.out k h2; omega))).trans Cx13.out (by intro k h1 h2; rcases h2 with h2 | h2 | h2 | h2 | h2 <;> first | exact h2 | omega | (have hb := HBR.out k h2; omega)))⟩
set_option maxHeartbeats 4000000 in
theorem PutVt_Q : Puts VtR 110 vtB := by
 intro R R2 g bs cs x w hW hB hx hB2 hD hl
 obtain ⟨rfl, hok⟩ := hx
 have HW := Lib.hid hW
 have HBR := Lib.hid hB
 have HBT := Lib.hid hB2
 have HDJ := Lib.hid hD
 have HOK := Lib.hid hok
 have HL := Lib.hid hl
 clear hW hB hB2 hD hl hok
 unfold vtB at HL
 go_enter Tryz.func110, Tryz.ntmps110
 go_upto_region 1 with (fail)
 obtain ⟨w1, hw1⟩ : ∃ zz, zz = (w.alloc (.cells (x.cells : List Value).toArray 49)) := ⟨_, rfl⟩
 change Code.wp _ _ _ _ (w.alloc (.cells (x.cells : List Value).toArray 49))
 rw [← hw1]
 have HB3 := hid (show Cs w1 (w.heap.size) (x.cells : List Value).toArray 49 by rw [hw1]; exact Cs.new _ _ _)
 have hm : Mod (fun _ => False) w w1 := by rw [hw1]; exact (Mod.refl _ _).alloc _
 have HM0 := hid (show Mod (fun k => (R k)) w w1 from hm.mono (fun _ _ h => h.elim))
 have hs1 : w1.heap.size = w.heap.size + 1 := by rw [hw1]; simp
 have Hx1 := hid (HW.out.mod hm (fun _ _ h => h))
 clear HW
 clear hw1 hm
 go_upto_region 1 with (fail)
 generalize ha0 : Act.mk _ _ = a0
 have oe0 : a0.eval (.tmp 0) = .pointer (some ⟨g, 0, none⟩) := by rw [← ha0]; rfl
 have oe3 : a0.eval (.tmp 3) = .pointer (some ⟨w.heap.size, 0, none⟩) := by rw [← ha0]; rfl
 have hsz0 : a0.tmps.size = 24 := by rw [← ha0]; rfl
 have HA0 := hid ha0
 clear ha0
 refine wp_region_Q1 24 hsz0 [4, 5, 6, 7, 8, 9, 10, 11, 12, 13, 14, 15, 16, 17, 18, 19] (fun k => (R k)) (fun k j => (k = 0 ∧ ((R j))) ∨ (k = 1 ∧ ((R j))) ∨ (k = 2 ∧ ((R j))) ∨ (k = 3 ∧ ((R j))) ∨ (k = 4 ∧ ((R j)))) (by intro k j h; (try dsimp only at h ⊢); rcases h with ⟨-, h⟩ | ⟨-, h⟩ | ⟨-, h⟩ | ⟨-, h⟩ | ⟨-, h⟩; (exact h); (exact h); (exact h); (exact h); (exact h)) [qi (.pointer (some ⟨g, 0, none⟩)), qi (.pointer (some ⟨w.heap.size, 0, none⟩)), qi (.int .i64 x.kd), qi (.pointer (some ⟨g, 0, none⟩)), qi (.pointer (some ⟨w.heap.size, 1, none⟩)), qi (.int .i64 x.ep), qi (.pointer (some ⟨g, 0, none⟩)), qi (.pointer (some ⟨w.heap.size, 2, none⟩)), qi (.int .i64 x.rd), qi (.pointer (some ⟨g, 0, none⟩)), qi (.pointer (some ⟨w.heap.size, 3, none⟩)), qi (.int .i64 x.rp), qi (.pointer (some ⟨g, 0, none⟩)), qi (.pointer (some ⟨w.heap.size, 4, none⟩)), qi (hv x.h), qi (.pointer (some ⟨g, 0, none⟩))] ⟨qi_stable, qi_stable, qi_stable, qi_stable, qi_stable, qi_stable, qi_stable, qi_stable, qi_stable, qi_stable, qi_stable, qi_stable, qi_stable, qi_stable, qi_stable, qi_stable, trivial⟩ [3, 6, 9, 12, 15] ⟨?_, ?_, ?_, ?_, ?_, ?_, ?_, ?_, ?_, ?_, ?_, ?_, ?_, ?_, ?_, ?_, trivial⟩ ?_
 ·exact stq (fun E => ex_move rfl (E.v oe0))
 ·exact stq (fun E => ex_field rfl Tryz.underlying49 rfl (by kernel_rfl) (E.v oe3))
 ·exact stq (fun E => ex_load1 rfl Tryz.underlying3 rfl (E.d 1) (Cs.pre1 (HB3.out.mod E.m (by intro h2; rcases h2 with ⟨h0, h2⟩ | h2 <;> first | omega | (have hb := HBR.out _ h2; omega))) rfl))
 ·exact stepq_chain rfl
 ·exact stq (fun E => ex_field rfl Tryz.underlying49 rfl (by kernel_rfl) (E.v oe3))
 ·exact stq (fun E => ex_load1 rfl Tryz.underlying3 rfl (E.d 4) (Cs.pre1 (HB3.out.mod E.m (by intro h2; rcases h2 with ⟨h0, h2⟩ | h2 <;> first | omega | (have hb := HBR.out _ h2; omega))) rfl))
 ·exact stepq_chain rfl
 ·exact stq (fun E => ex_field rfl Tryz.underlying49 rfl (by kernel_rfl) (E.v oe3))
 ·exact stq (fun E => ex_load1 rfl Tryz.underlying3 rfl (E.d 7) (Cs.pre1 (HB3.out.mod E.m (by intro h2; rcases h2 with ⟨h0, h2⟩ | h2 <;> first | omega | (have hb := HBR.out _ h2; omega))) rfl))
 ·exact stepq_chain rfl
 ·exact stq (fun E => ex_field rfl Tryz.underlying49 rfl (by kernel_rfl) (E.v oe3))
 ·exact stq (fun E => ex_load1 rfl Tryz.underlying3 rfl (E.d 10) (Cs.pre1 (HB3.out.mod E.m (by intro h2; rcases h2 with ⟨h0, h2⟩ | h2 <;> first | omega | (have hb := HBR.out _ h2; omega))) rfl))
 ·exact stepq_chain rfl
 ·exact stq (fun E => ex_field rfl Tryz.underlying49 rfl (by kernel_rfl) (E.v oe3))
 ·exact stq (fun E => ex_loadA rfl Tryz.underlying25 rfl (off := 4) (cs := x.h.map bv) (by rw [List.length_map, HOK.out.h.1]; exact size_hash) (E.d 13) (Cs.midA (HB3.out.mod E.m (by intro h2; rcases h2 with ⟨h0, h2⟩ | h2 <;> first | omega | (have hb := HBR.out _ h2; omega))) rfl))
 ·exact stepq_chain rfl
 intro u1_0 hr
 have zu1_0 := hr.size
 have Cx2 := hid (hr.new (S := (fun k => (R k))))
 have Hx3 := hid (Hx1.out.mod hr (by intro k h1 h2; have hb := HBR.out k h1; omega))
 clear Hx1
 clear hr
 refine QChain.go fun Z act E => ?_
 refine qc_callF (args := #[.pointer (some ⟨g, 0, none⟩), .int .i64 x.kd]) rfl (wanted_none rfl) rfl Tryz.func69 (args2 (E.d 0) (E.d 2)) (WInt_Q Hx3.out HOK.out.kd (by have := HL.out; simp only [List.length_append] at this ⊢; omega)) ?_
 rintro e u1_1a ⟨rfl, qwr, hm⟩
 have zu1_1a := hm.size
 refine ⟨_, rfl, hm.mono (by intro k hk h; first | omega | exact Or.inl ⟨(by have hb := HBR.out k h; omega), Or.inl ⟨rfl, h⟩⟩), (fun _ => rfl), ?_⟩
 intro u1_1 hr
 have zu1_1 := hr.size
 have Hx4 := hid ((qwr.widen (R' := (fun k => (R k) ∨ (New u1_0 u1_1a k))) (fun _ h => h) (Nat.le_refl _)).mod hr (by intro k h1 h2; rcases h1 with h1 | h1 <;> first | omega | (have hb := HBR.out k h1; omega)))
 have Cx5 := hid (Cx2.out.goM hm hr (fun _ _ h => h))
 clear Cx2 hm hr Z act E qwr Hx3
 refine QChain.go fun Z act E => ?_
 refine qc_callF (args := #[.pointer (some ⟨g, 0, none⟩), .int .i64 x.ep]) rfl (wanted_none rfl) rfl Tryz.func69 (args2 (E.d 3) (E.d 5)) (WInt_Q Hx4.out HOK.out.ep (by have := HL.out; simp only [List.length_append] at this ⊢; omega)) ?_
 rintro e u1_2a ⟨rfl, qwr, hm⟩
 have zu1_2a := hm.size
 refine ⟨_, rfl, hm.mono (by intro k hk h; rcases h with h | h <;> first | omega | exact Or.inl ⟨(by have hb := HBR.out k h; omega), Or.inr (Or.inl ⟨rfl, h⟩)⟩), (fun _ => rfl), ?_⟩
 intro u1_2 hr
 have zu1_2 := hr.size
 have Hx6 := hid ((qwr.widen (R' := (fun k => (R k) ∨ (New u1_0 u1_1a k) ∨ (New u1_1 u1_2a k))) (by intro k h1; simp only [or_assoc] at h1 ⊢; exact h1) (Nat.le_refl _)).mod hr (by intro k h1 h2; rcases h1 with h1 | h1 | h1 <;> first | omega | (have hb := HBR.out k h1; omega)))
 have Cx7 := hid (Cx5.out.goM hm hr (by intro k h0 h2; rcases h2 with h2 | h2 <;> first | omega | exact h2))
 clear Cx5 hm hr Z act E qwr Hx4
 refine QChain.go fun Z act E => ?_
 refine qc_callF (args := #[.pointer (some ⟨g, 0, none⟩), .int .i64 x.rd]) rfl (wanted_none rfl) rfl Tryz.func69 (args2 (E.d 6) (E.d 8)) (WInt_Q Hx6.out HOK.out.rd (by have := HL.out; simp only [List.length_append] at this ⊢; omega)) ?_
 rintro e u1_3a ⟨rfl, qwr, hm⟩
 have zu1_3a := hm.size
 refine ⟨_, rfl, hm.mono (by intro k hk h; rcases h with h | h | h <;> first | omega | exact Or.inl ⟨(by have hb := HBR.out k h; omega), Or.inr (Or.inr (Or.inl ⟨rfl, h⟩))⟩), (fun _ => rfl), ?_⟩
 intro u1_3 hr
 have zu1_3 := hr.size
 have Hx8 := hid ((qwr.widen (R' := (fun k => (R k) ∨ (New u1_0 u1_1a k) ∨ (New u1_1 u1_2a k) ∨ (New u1_2 u1_3a k))) (by intro k h1; simp only [or_assoc] at h1 ⊢; exact h1) (Nat.le_refl _)).mod hr (by intro k h1 h2; rcases h1 with h1 | h1 | h1 | h1 <;> first | omega | (have hb := HBR.out k h1; omega)))
 have Cx9 := hid (Cx7.out.goM hm hr (by intro k h0 h2; rcases h2 with h2 | h2 | h2 <;> first | omega | exact h2))
 clear Cx7 hm hr Z act E qwr Hx6
 refine QChain.go fun Z act E => ?_
 refine qc_callF (args := #[.pointer (some ⟨g, 0, none⟩), .int .i64 x.rp]) rfl (wanted_none rfl) rfl Tryz.func69 (args2 (E.d 9) (E.d 11)) (WInt_Q Hx8.out HOK.out.rp (by have := HL.out; simp only [List.length_append] at this ⊢; omega)) ?_
 rintro e u1_4a ⟨rfl, qwr, hm⟩
 have zu1_4a := hm.size
 refine ⟨_, rfl, hm.mono (by intro k hk h; rcases h with h | h | h | h <;> first | omega | exact Or.inl ⟨(by have hb := HBR.out k h; omega), Or.inr (Or.inr (Or.inr (Or.inl ⟨rfl, h⟩)))⟩), (fun _ => rfl), ?_⟩
 intro u1_4 hr
 have zu1_4 := hr.size
 have Hx10 := hid ((qwr.widen (R' := (fun k => (R k) ∨ (New u1_0 u1_1a k) ∨ (New u1_1 u1_2a k) ∨ (New u1_2 u1_3a k) ∨ (New u1_3 u1_4a k))) (by intro k h1; simp only [or_assoc] at h1 ⊢; exact h1) (Nat.le_refl _)).mod hr (by intro k h1 h2; rcases h1 with h1 | h1 | h1 | h1 | h1 <;> first | omega | (have hb := HBR.out k h1; omega)))
 have Cx11 := hid (Cx9.out.goM hm hr (by intro k h0 h2; rcases h2 with h2 | h2 | h2 | h2 <;> first | omega | exact h2))
 clear Cx9 hm hr Z act E qwr Hx8
 refine QChain.go fun Z act E => ?_
 refine qc_callF (args := #[.pointer (some ⟨g, 0, none⟩), hv x.h]) rfl (wanted_none rfl) rfl Tryz.func138 (args2 (E.d 12) (E.d 14)) (WHash_Q Hx10.out HOK.out.h (by have := HL.out; simp only [List.length_append] at this ⊢; omega)) ?_
 rintro e u1_5a ⟨rfl, qwr, hm⟩
 have zu1_5a := hm.size
 refine ⟨_, rfl, hm.mono (by intro k hk h; rcases h with h | h | h | h | h <;> first | omega | exact Or.inl ⟨(by have hb := HBR.out k h; omega), Or.inr (Or.inr (Or.inr (Or.inr (⟨rfl, h⟩))))⟩), (fun _ => rfl), ?_⟩
 intro u1_5 hr
 have zu1_5 := hr.size
 have Hx12 := hid ((qwr.widen (R' := (fun k => (R k) ∨ (New u1_0 u1_1a k) ∨ (New u1_1 u1_2a k) ∨ (New u1_2 u1_3a k) ∨ (New u1_3 u1_4a k) ∨ (New u1_4 u1_5a k))) (by intro k h1; simp only [or_assoc] at h1 ⊢; exact h1) (Nat.le_refl _)).mod hr (by intro k h1 h2; rcases h1 with h1 | h1 | h1 | h1 | h1 | h1 <;> first | omega | (have hb := HBR.out k h1; omega)))
 have Cx13 := hid (Cx11.out.goM hm hr (by intro k h0 h2; rcases h2 with h2 | h2 | h2 | h2 | h2 <;> first | omega | exact h2))
 clear Cx11 hm hr Z act E qwr Hx10
 refine QChain.nil fun vs hl hzz hrows hne => ?_
 obtain ⟨Z, hYZ, hZb, hV⟩ := hzz
 have f0 := fvi hV hl 0
 have f3 := fvi hV hl 3
 have f6 := fvi hV hl 6
 have f9 := fvi hV hl 9
 have f12 := fvi hV hl 12
 have f15 := fvi hV hl 15
 rw [show vs = [gw vs 0, gw vs 1, gw vs 2, gw vs 3, gw vs 4, gw vs 5, gw vs 6, gw vs 7, gw vs 8, gw vs 9, gw vs 10, gw vs 11, gw vs 12, gw vs 13, gw vs 14, gw vs 15] from (gw_eta hl).trans rfl]
 have ha0 := HA0.out
 subst ha0
 clear HA0 hV hYZ hZb hsz0 hrows hne oe0 oe3
 simp only [putAll, Act.put, sIB, sCZ, sCS, f0, f3, f6, f9, f12, f15]
 clear hl f0 f3 f6 f9 f12 f15
 go_upto_region 2 with (fail)
 refine wp_region_U 24 [20, 21, 22, 23] [0, 1, 2, 3] (fun a0 HA0 => ?_)
 have oe0 := ev HA0 0 rfl
 have oe3 := ev HA0 3 rfl
 refine QSeq.pure rfl _ (fun E => ex_move rfl (E.v oe0)) ?_
 refine QSeq.pure rfl (.pointer (some ⟨w.heap.size, 36, none⟩)) (fun E => ex_field rfl Tryz.underlying49 rfl (by kernel_rfl) (E.v oe3)) ?_
 refine QSeq.pure rfl _ (fun E => ex_loadA rfl Tryz.underlying27 rfl (off := 36) (cs := [.int .i64 x.sb, .int .i64 x.mr]) (by kernel_rfl) (E.d 1 0) (Cs.postA (m := 32) (k := 0) (HB3.out.mod Cx13.out (by intro h2; first | omega | (have hb := HBR.out _ h2; omega))) (by rw [List.length_map]; exact HOK.out.h.1) rfl rfl)) ?_
 refine QSeq.call rfl rfl Tryz.func139 (PutSig_Q Hx12.out (by intro k h1; rcases h1 with h1 | h1 | h1 | h1 | h1 | h1 <;> first | omega | (have hb := HBR.out k h1; omega)) HOK.out.sb HOK.out.mr (by have := HL.out; simp only [List.length_append] at this ⊢; omega)) (fun E => args2 (E.d 0 2) (E.d 2 0)) ?_
 rintro e u2_3 ⟨rfl, qwr, hm⟩
 refine ⟨_, rfl, ?_⟩
 have Hx14 := hid (qwr.widen (R' := (fun k => (R k) ∨ (New u1_0 u1_1a k) ∨ (New u1_1 u1_2a k) ∨ (New u1_2 u1_3a k) ∨ (New u1_3 u1_4a k) ∨ (New u1_4 u1_5a k) ∨ (New u1_5 u2_3 k))) (by intro k h1; simp only [or_assoc] at h1 ⊢; exact h1) (Nat.le_refl _))
 have zu2_3 := hm.size
 have Cx15 := hid (show Mod (fun k => (R k) ∨ (New u1_0 u1_1a k) ∨ (New u1_1 u1_2a k) ∨ (New u1_2 u1_3a k) ∨ (New u1_3 u1_4a k) ∨ (New u1_4 u1_5a k)) u1_5 u2_3 from hm)
 clear hm
 clear qwr Hx12
 refine QSeq.nil (t' := [_, _, _, _]) rfl ?_
 obtain rfl := HA0.out
 clear HA0 oe0 oe3
 simp only [pz, Act.put, sIB, sCZ, sCS]
 go_wp2
 go_end0
 have hq := (Hx14.out.widen (R' := (fun k => R k ∨ New w u2_3 k)) (by intro k h1; rcases h1 with h1 | h1 | h1 | h1 | h1 | h1 | h1 <;> first | exact Or.inl h1 | (right; omega)) (Nat.le_refl _))
 simp only [List.append_assoc] at hq
 exact ⟨rfl, by simpa only [vtB, List.append_assoc] using hq, ((HM0.out.trans Cx13.out (fun _ _ h => h)).trans Cx15.out (by intro k h1 h2; rcases h2 with h2 | h2 | h2 | h2 | h2 | h2 <;> first | exact h2 | omega | (have hb := HBR.out k h2; omega)))⟩
set_option maxHeartbeats 4000000 in
theorem PutEn_Q : Puts EnR 111 enB := by
 intro R R2 g bs cs x w hW hB hx hB2 hD hl
 obtain ⟨rfl, hok⟩ := hx
 have HW := Lib.hid hW
 have HBR := Lib.hid hB
 have HBT := Lib.hid hB2
 have HDJ := Lib.hid hD
 have HOK := Lib.hid hok
 have HL := Lib.hid hl
 clear hW hB hB2 hD hl hok
 unfold enB at HL
 go_enter Tryz.func111, Tryz.ntmps111
 go_upto_region 1 with (fail)
 obtain ⟨w1, hw1⟩ : ∃ zz, zz = (w.alloc (.cells (x.cells : List Value).toArray 51)) := ⟨_, rfl⟩
 change Code.wp _ _ _ _ (w.alloc (.cells (x.cells : List Value).toArray 51))
 rw [← hw1]
 have HB3 := hid (show Cs w1 (w.heap.size) (x.cells : List Value).toArray 51 by rw [hw1]; exact Cs.new _ _ _)
 have hm : Mod (fun _ => False) w w1 := by rw [hw1]; exact (Mod.refl _ _).alloc _
 have HM0 := hid (show Mod (fun k => (R k)) w w1 from hm.mono (fun _ _ h => h.elim))
 have hs1 : w1.heap.size = w.heap.size + 1 := by rw [hw1]; simp
 have Hx1 := hid (HW.out.mod hm (fun _ _ h => h))
 clear HW
 clear hw1 hm
 go_upto_region 1 with (fail)
 refine wp_region_U 15 [4, 5, 6, 7] [0, 1, 2, 3] (fun a0 HA0 => ?_)
 have oe0 := ev HA0 0 rfl
 have oe3 := ev HA0 3 rfl
 refine QSeq.pure rfl _ (fun E => ex_move rfl (E.v oe0)) ?_
 refine QSeq.pure rfl (.pointer (some ⟨w.heap.size, 0, none⟩)) (fun E => ex_field rfl Tryz.underlying51 rfl (by kernel_rfl) (E.v oe3)) ?_
 refine QSeq.pure rfl _ (fun E => ex_loadA rfl Tryz.underlying23 rfl (off := 0) (cs := [.int .i64 x.cl, .int .i64 x.sq]) (by kernel_rfl) (E.d 1 0) (Cs.preA HB3.out rfl)) ?_
 refine QSeq.call rfl rfl Tryz.func137 (PutName_Q Hx1.out (by intro k h1; have hb := HBR.out k h1; omega) HOK.out.cl HOK.out.sq (by have := HL.out; simp only [List.length_append] at this ⊢; omega)) (fun E => args2 (E.d 0 2) (E.d 2 0)) ?_
 rintro e u1_3 ⟨rfl, qwr, hm⟩
 refine ⟨_, rfl, ?_⟩
 have Hx2 := hid (qwr.widen (R' := (fun k => (R k) ∨ (New w1 u1_3 k))) (fun _ h => h) (Nat.le_refl _))
 have zu1_3 := hm.size
 have Cx3 := hid (show Mod (fun k => (R k)) w1 u1_3 from hm)
 clear hm
 clear qwr Hx1
 refine QSeq.nil (t' := [_, _, _, _]) rfl ?_
 obtain rfl := HA0.out
 clear HA0 oe0 oe3
 simp only [pz, Act.put, sIB, sCZ, sCS]
 go_upto_region 2 with (fail)
 generalize ha0 : Act.mk _ _ = a0
 have oe0 : a0.eval (.tmp 0) = .pointer (some ⟨g, 0, none⟩) := by rw [← ha0]; rfl
 have oe3 : a0.eval (.tmp 3) = .pointer (some ⟨w.heap.size, 0, none⟩) := by rw [← ha0]; rfl
 have hsz0 : a0.tmps.size = 15 := by rw [← ha0]; rfl
 have HA0 := hid ha0
 clear ha0
 refine wp_region_Q1 15 hsz0 [8, 9, 10, 11, 12, 13, 14] (fun k => (R k) ∨ (New w1 u1_3 k)) (fun k j => (k = 0 ∧ ((R j) ∨ (New w1 u1_3 j))) ∨ (k = 1 ∧ ((R j) ∨ (New w1 u1_3 j)))) (by intro k j h; (try dsimp only at h ⊢); rcases h with ⟨-, h | h⟩ | ⟨-, h | h⟩; (exact Or.inl (h)); (exact Or.inr (h)); (exact Or.inl (h)); (exact Or.inr (h))) [qi (.pointer (some ⟨g, 0, none⟩)), qi (.pointer (some ⟨w.heap.size, 2, none⟩)), qi (hv x.h), qi (.pointer (some ⟨g, 0, none⟩)), qi (.pointer (some ⟨w.heap.size, 34, none⟩)), qi (.int .u64 (x.tm : Nat)), qi (.pointer (some ⟨g, 0, none⟩))] ⟨qi_stable, qi_stable, qi_stable, qi_stable, qi_stable, qi_stable, qi_stable, trivial⟩ [3, 6] ⟨?_, ?_, ?_, ?_, ?_, ?_, ?_, trivial⟩ ?_
 ·exact stq (fun E => ex_move rfl (E.v oe0))
 ·exact stq (fun E => ex_field rfl Tryz.underlying51 rfl (by kernel_rfl) (E.v oe3))
 ·exact stq (fun E => ex_loadA rfl Tryz.underlying25 rfl (off := 2) (cs := x.h.map bv) (by rw [List.length_map, HOK.out.h.1]; exact size_hash) (E.d 1) (Cs.midA ((HB3.out.mod Cx3.out (by intro h2; first | omega | (have hb := HBR.out _ h2; omega))).mod E.m (by intro h2; rcases h2 with ⟨h0, h2 | h2⟩ | h2 <;> first | omega | (have hb := HBR.out _ h2; omega))) rfl))
 ·exact stepq_chain rfl
 ·exact stq (fun E => ex_field rfl Tryz.underlying51 rfl (by kernel_rfl) (E.v oe3))
 ·exact stq (fun E => ex_load1 rfl Tryz.underlying30 rfl (E.d 4) (Cs.post1 (m := 32) (k := 0) ((HB3.out.mod Cx3.out (by intro h2; first | omega | (have hb := HBR.out _ h2; omega))).mod E.m (by intro h2; rcases h2 with ⟨h0, h2 | h2⟩ | h2 <;> first | omega | (have hb := HBR.out _ h2; omega))) (by rw [List.length_map]; exact HOK.out.h.1) rfl rfl))
 ·exact stepq_chain rfl
 intro u2_0 hr
 have zu2_0 := hr.size
 have Cx4 := hid (hr.new (S := (fun k => (R k) ∨ (New w1 u1_3 k))))
 have Hx5 := hid (Hx2.out.mod hr (by intro k h1 h2; rcases h1 with h1 | h1 <;> first | omega | (have hb := HBR.out k h1; omega)))
 clear Hx2
 clear hr
 refine QChain.go fun Z act E => ?_
 refine qc_callF (args := #[.pointer (some ⟨g, 0, none⟩), hv x.h]) rfl (wanted_none rfl) rfl Tryz.func138 (args2 (E.d 0) (E.d 2)) (WHash_Q Hx5.out HOK.out.h (by have := HL.out; simp only [List.length_append] at this ⊢; omega)) ?_
 rintro e u2_1a ⟨rfl, qwr, hm⟩
 have zu2_1a := hm.size
 refine ⟨_, rfl, hm.mono (by intro k hk h; rcases h with h | h <;> first | omega | exact Or.inl ⟨(by have hb := HBR.out k h; omega), Or.inl ⟨rfl, Or.inl h⟩⟩), (fun _ => rfl), ?_⟩
 intro u2_1 hr
 have zu2_1 := hr.size
 have Hx6 := hid ((qwr.widen (R' := (fun k => (R k) ∨ (New w1 u1_3 k) ∨ (New u2_0 u2_1a k))) (by intro k h1; simp only [or_assoc] at h1 ⊢; exact h1) (Nat.le_refl _)).mod hr (by intro k h1 h2; rcases h1 with h1 | h1 | h1 <;> first | omega | (have hb := HBR.out k h1; omega)))
 have Cx7 := hid (Cx4.out.goM hm hr (fun _ _ h => h))
 clear Cx4 hm hr Z act E qwr Hx5
 refine QChain.go fun Z act E => ?_
 refine qc_callF (args := #[.pointer (some ⟨g, 0, none⟩), .int .u64 (x.tm : Nat)]) rfl (wanted_none rfl) rfl Tryz.func103 (args2 (E.d 3) (E.d 5)) (WNum_Q Hx6.out HOK.out.tm (by have := HL.out; simp only [List.length_append] at this ⊢; omega)) ?_
 rintro e u2_2a ⟨rfl, qwr, hm⟩
 have zu2_2a := hm.size
 refine ⟨_, rfl, hm.mono (by intro k hk h; rcases h with h | h | h <;> first | omega | exact Or.inl ⟨(by have hb := HBR.out k h; omega), Or.inr (⟨rfl, Or.inl h⟩)⟩), (fun _ => rfl), ?_⟩
 intro u2_2 hr
 have zu2_2 := hr.size
 have Hx8 := hid ((qwr.widen (R' := (fun k => (R k) ∨ (New w1 u1_3 k) ∨ (New u2_0 u2_1a k) ∨ (New u2_1 u2_2a k))) (by intro k h1; simp only [or_assoc] at h1 ⊢; exact h1) (Nat.le_refl _)).mod hr (by intro k h1 h2; rcases h1 with h1 | h1 | h1 | h1 <;> first | omega | (have hb := HBR.out k h1; omega)))
 have Cx9 := hid (Cx7.out.goM hm hr (by intro k h0 h2; rcases h2 with h2 | h2 | h2 <;> first | omega | exact Or.inl h2 | exact Or.inr (h2)))
 clear Cx7 hm hr Z act E qwr Hx6
 refine QChain.nil fun vs hl hzz hrows hne => ?_
 obtain ⟨Z, hYZ, hZb, hV⟩ := hzz
 have f0 := fvi hV hl 0
 have f3 := fvi hV hl 3
 have f6 := fvi hV hl 6
 rw [show vs = [gw vs 0, gw vs 1, gw vs 2, gw vs 3, gw vs 4, gw vs 5, gw vs 6] from (gw_eta hl).trans rfl]
 have ha0 := HA0.out
 subst ha0
 clear HA0 hV hYZ hZb hsz0 hrows hne oe0 oe3
 simp only [putAll, Act.put, sIB, sCZ, sCS, f0, f3, f6]
 clear hl f0 f3 f6
 go_wp2
 go_end0
 have hq := (Hx8.out.widen (R' := (fun k => R k ∨ New w u2_2 k)) (by intro k h1; rcases h1 with h1 | h1 | h1 | h1 <;> first | exact Or.inl h1 | (right; omega)) (Nat.le_refl _))
 simp only [List.append_assoc] at hq
 exact ⟨rfl, by simpa only [enB, List.append_assoc] using hq, ((HM0.out.trans Cx3.out (fun _ _ h => h)).trans Cx9.out (by intro k h1 h2; rcases h2 with h2 | h2 <;> first | exact h2 | omega | (have hb := HBR.out k h2; omega)))⟩
set_option maxHeartbeats 4000000 in
theorem PutPr_Q : Puts PrR 109 prB := by
 intro R R2 g bs cs x w hW hB hx hB2 hD hl
 obtain ⟨v_ps, v_os, v_ts, rfl, hok, hs0, hs1, hs2⟩ := hx
 have HS0 := Lib.hid hs0
 clear hs0
 have HS1 := Lib.hid hs1
 clear hs1
 have HS2 := Lib.hid hs2
 clear hs2
 have HW := Lib.hid hW
 have HBR := Lib.hid hB
 have HBT := Lib.hid hB2
 have HDJ := Lib.hid hD
 have HOK := Lib.hid hok
 have HL := Lib.hid hl
 clear hW hB hB2 hD hl hok
 unfold prB at HL
 go_enter Tryz.func109, Tryz.ntmps109
 go_upto_region 1 with (fail)
 obtain ⟨w1, hw1⟩ : ∃ zz, zz = (w.alloc (.cells (x.cells v_ps v_os v_ts : List Value).toArray 47)) := ⟨_, rfl⟩
 change Code.wp _ _ _ _ (w.alloc (.cells (x.cells v_ps v_os v_ts : List Value).toArray 47))
 rw [← hw1]
 have HB3 := hid (show Cs w1 (w.heap.size) (x.cells v_ps v_os v_ts : List Value).toArray 47 by rw [hw1]; exact Cs.new _ _ _)
 have hm : Mod (fun _ => False) w w1 := by rw [hw1]; exact (Mod.refl _ _).alloc _
 have HM0 := hid (show Mod (fun k => (R k)) w w1 from hm.mono (fun _ _ h => h.elim))
 have hs1 : w1.heap.size = w.heap.size + 1 := by rw [hw1]; simp
 have Hx1 := hid (HW.out.mod hm (fun _ _ h => h))
 clear HW
 have Hx2 := hid (HS0.out.mod hm (fun _ _ h => h))
 clear HS0
 have Hx3 := hid (HS1.out.mod hm (fun _ _ h => h))
 clear HS1
 have Hx4 := hid (HS2.out.mod hm (fun _ _ h => h))
 clear HS2
 clear hw1 hm
 go_upto_region 1 with (fail)
 generalize ha0 : Act.mk _ _ = a0
 have oe0 : a0.eval (.tmp 0) = .pointer (some ⟨g, 0, none⟩) := by rw [← ha0]; rfl
 have oe3 : a0.eval (.tmp 3) = .pointer (some ⟨w.heap.size, 0, none⟩) := by rw [← ha0]; rfl
 have hsz0 : a0.tmps.size = 26 := by rw [← ha0]; rfl
 have HA0 := hid ha0
 clear ha0
 refine wp_region_Q1 26 hsz0 [4, 5, 6, 7, 8, 9, 10, 11, 12, 13, 14, 15, 16, 17] (fun k => (R k)) (fun k j => (k = 0 ∧ ((R j))) ∨ (k = 1 ∧ ((R j))) ∨ (k = 2 ∧ ((R j))) ∨ (k = 3 ∧ ((R j)))) (by intro k j h; (try dsimp only at h ⊢); rcases h with ⟨-, h⟩ | ⟨-, h⟩ | ⟨-, h⟩ | ⟨-, h⟩; (exact h); (exact h); (exact h); (exact h)) [qi (.pointer (some ⟨g, 0, none⟩)), qi (.pointer (some ⟨w.heap.size, 0, none⟩)), qi (.int .i64 x.ep), qi (.pointer (some ⟨g, 0, none⟩)), qi (.pointer (some ⟨w.heap.size, 1, none⟩)), qi (.int .i64 x.rn), qi (.pointer (some ⟨g, 0, none⟩)), qi (.pointer (some ⟨w.heap.size, 2, none⟩)), qi (.int .i64 x.vl), qi (.int .i64 (IntKind.i64.wrap (x.vl + 1))), qi (.pointer (some ⟨g, 0, none⟩)), qi (.pointer (some ⟨w.heap.size, 3, none⟩)), qi (.int .i64 x.rp), qi (.pointer (some ⟨g, 0, none⟩))] ⟨qi_stable, qi_stable, qi_stable, qi_stable, qi_stable, qi_stable, qi_stable, qi_stable, qi_stable, qi_stable, qi_stable, qi_stable, qi_stable, qi_stable, trivial⟩ [3, 6, 10, 13] ⟨?_, ?_, ?_, ?_, ?_, ?_, ?_, ?_, ?_, ?_, ?_, ?_, ?_, ?_, trivial⟩ ?_
 ·exact stq (fun E => ex_move rfl (E.v oe0))
 ·exact stq (fun E => ex_field rfl Tryz.underlying47 rfl (by kernel_rfl) (E.v oe3))
 ·exact stq (fun E => ex_load1 rfl Tryz.underlying3 rfl (E.d 1) (Cs.lit1 (HB3.out.mod E.m (by intro h2; rcases h2 with ⟨h0, h2⟩ | h2 <;> first | omega | (have hb := HBR.out _ h2; omega))) rfl))
 ·exact stepq_chain rfl
 ·exact stq (fun E => ex_field rfl Tryz.underlying47 rfl (by kernel_rfl) (E.v oe3))
 ·exact stq (fun E => ex_load1 rfl Tryz.underlying3 rfl (E.d 4) (Cs.lit1 (HB3.out.mod E.m (by intro h2; rcases h2 with ⟨h0, h2⟩ | h2 <;> first | omega | (have hb := HBR.out _ h2; omega))) rfl))
 ·exact stepq_chain rfl
 ·exact stq (fun E => ex_field rfl Tryz.underlying47 rfl (by kernel_rfl) (E.v oe3))
 ·exact stq (fun E => ex_load1 rfl Tryz.underlying3 rfl (E.d 7) (Cs.lit1 (HB3.out.mod E.m (by intro h2; rcases h2 with ⟨h0, h2⟩ | h2 <;> first | omega | (have hb := HBR.out _ h2; omega))) rfl))
 ·exact stq (fun E => ex_bin rfl (E.d 8) rfl (guard_ints _ _ _ _ _ _) (run_add_i _ _ Tryz.underlying3))
 ·exact stepq_chain rfl
 ·exact stq (fun E => ex_field rfl Tryz.underlying47 rfl (by kernel_rfl) (E.v oe3))
 ·exact stq (fun E => ex_load1 rfl Tryz.underlying3 rfl (E.d 11) (Cs.lit1 (HB3.out.mod E.m (by intro h2; rcases h2 with ⟨h0, h2⟩ | h2 <;> first | omega | (have hb := HBR.out _ h2; omega))) rfl))
 ·exact stepq_chain rfl
 intro u1_0 hr
 have zu1_0 := hr.size
 have Cx5 := hid (hr.new (S := (fun k => (R k))))
 have Hx6 := hid (Hx1.out.mod hr (by intro k h1 h2; have hb := HBR.out k h1; omega))
 clear Hx1
 clear hr
 refine QChain.go fun Z act E => ?_
 refine qc_callF (args := #[.pointer (some ⟨g, 0, none⟩), .int .i64 x.ep]) rfl (wanted_none rfl) rfl Tryz.func69 (args2 (E.d 0) (E.d 2)) (WInt_Q Hx6.out HOK.out.1 (by have := HL.out; simp only [List.length_append] at this ⊢; omega)) ?_
 rintro e u1_1a ⟨rfl, qwr, hm⟩
 have zu1_1a := hm.size
 refine ⟨_, rfl, hm.mono (by intro k hk h; first | omega | exact Or.inl ⟨(by have hb := HBR.out k h; omega), Or.inl ⟨rfl, h⟩⟩), (fun _ => rfl), ?_⟩
 intro u1_1 hr
 have zu1_1 := hr.size
 have Hx7 := hid ((qwr.widen (R' := (fun k => (R k) ∨ (New u1_0 u1_1a k))) (fun _ h => h) (Nat.le_refl _)).mod hr (by intro k h1 h2; rcases h1 with h1 | h1 <;> first | omega | (have hb := HBR.out k h1; omega)))
 have Cx8 := hid (Cx5.out.goM hm hr (fun _ _ h => h))
 clear Cx5 hm hr Z act E qwr Hx6
 refine QChain.go fun Z act E => ?_
 refine qc_callF (args := #[.pointer (some ⟨g, 0, none⟩), .int .i64 x.rn]) rfl (wanted_none rfl) rfl Tryz.func69 (args2 (E.d 3) (E.d 5)) (WInt_Q Hx7.out HOK.out.2.1 (by have := HL.out; simp only [List.length_append] at this ⊢; omega)) ?_
 rintro e u1_2a ⟨rfl, qwr, hm⟩
 have zu1_2a := hm.size
 refine ⟨_, rfl, hm.mono (by intro k hk h; rcases h with h | h <;> first | omega | exact Or.inl ⟨(by have hb := HBR.out k h; omega), Or.inr (Or.inl ⟨rfl, h⟩)⟩), (fun _ => rfl), ?_⟩
 intro u1_2 hr
 have zu1_2 := hr.size
 have Hx9 := hid ((qwr.widen (R' := (fun k => (R k) ∨ (New u1_0 u1_1a k) ∨ (New u1_1 u1_2a k))) (by intro k h1; simp only [or_assoc] at h1 ⊢; exact h1) (Nat.le_refl _)).mod hr (by intro k h1 h2; rcases h1 with h1 | h1 | h1 <;> first | omega | (have hb := HBR.out k h1; omega)))
 have Cx10 := hid (Cx8.out.goM hm hr (by intro k h0 h2; rcases h2 with h2 | h2 <;> first | omega | exact h2))
 clear Cx8 hm hr Z act E qwr Hx7
 refine QChain.go fun Z act E => ?_
 refine qc_callF (args := #[.pointer (some ⟨g, 0, none⟩), .int .i64 (IntKind.i64.wrap (x.vl + 1))]) rfl (wanted_none rfl) rfl Tryz.func69 (args2 (E.d 6) (E.d 9)) (WInt_Q Hx9.out (I64_wrap _) (by have := HL.out; simp only [List.length_append] at this ⊢; omega)) ?_
 rintro e u1_3a ⟨rfl, qwr, hm⟩
 have zu1_3a := hm.size
 refine ⟨_, rfl, hm.mono (by intro k hk h; rcases h with h | h | h <;> first | omega | exact Or.inl ⟨(by have hb := HBR.out k h; omega), Or.inr (Or.inr (Or.inl ⟨rfl, h⟩))⟩), (fun _ => rfl), ?_⟩
 intro u1_3 hr
 have zu1_3 := hr.size
 have Hx11 := hid ((qwr.widen (R' := (fun k => (R k) ∨ (New u1_0 u1_1a k) ∨ (New u1_1 u1_2a k) ∨ (New u1_2 u1_3a k))) (by intro k h1; simp only [or_assoc] at h1 ⊢; exact h1) (Nat.le_refl _)).mod hr (by intro k h1 h2; rcases h1 with h1 | h1 | h1 | h1 <;> first | omega | (have hb := HBR.out k h1; omega)))
 have Cx12 := hid (Cx10.out.goM hm hr (by intro k h0 h2; rcases h2 with h2 | h2 | h2 <;> first | omega | exact h2))
 clear Cx10 hm hr Z act E qwr Hx9
 refine QChain.go fun Z act E => ?_
 refine qc_callF (args := #[.pointer (some ⟨g, 0, none⟩), .int .i64 x.rp]) rfl (wanted_none rfl) rfl Tryz.func69 (args2 (E.d 10) (E.d 12)) (WInt_Q Hx11.out HOK.out.2.2.2.1 (by have := HL.out; simp only [List.length_append] at this ⊢; omega)) ?_
 rintro e u1_4a ⟨rfl, qwr, hm⟩
 have zu1_4a := hm.size
 refine ⟨_, rfl, hm.mono (by intro k hk h; rcases h with h | h | h | h <;> first | omega | exact Or.inl ⟨(by have hb := HBR.out k h; omega), Or.inr (Or.inr (Or.inr (⟨rfl, h⟩)))⟩), (fun _ => rfl), ?_⟩
 intro u1_4 hr
 have zu1_4 := hr.size
 have Hx13 := hid ((qwr.widen (R' := (fun k => (R k) ∨ (New u1_0 u1_1a k) ∨ (New u1_1 u1_2a k) ∨ (New u1_2 u1_3a k) ∨ (New u1_3 u1_4a k))) (by intro k h1; simp only [or_assoc] at h1 ⊢; exact h1) (Nat.le_refl _)).mod hr (by intro k h1 h2; rcases h1 with h1 | h1 | h1 | h1 | h1 <;> first | omega | (have hb := HBR.out k h1; omega)))
 have Cx14 := hid (Cx12.out.goM hm hr (by intro k h0 h2; rcases h2 with h2 | h2 | h2 | h2 <;> first | omega | exact h2))
 clear Cx12 hm hr Z act E qwr Hx11
 refine QChain.nil fun vs hl hzz hrows hne => ?_
 obtain ⟨Z, hYZ, hZb, hV⟩ := hzz
 have f0 := fvi hV hl 0
 have f3 := fvi hV hl 3
 have f6 := fvi hV hl 6
 have f10 := fvi hV hl 10
 have f13 := fvi hV hl 13
 rw [show vs = [gw vs 0, gw vs 1, gw vs 2, gw vs 3, gw vs 4, gw vs 5, gw vs 6, gw vs 7, gw vs 8, gw vs 9, gw vs 10, gw vs 11, gw vs 12, gw vs 13] from (gw_eta hl).trans rfl]
 have ha0 := HA0.out
 subst ha0
 clear HA0 hV hYZ hZb hsz0 hrows hne oe0 oe3
 simp only [putAll, Act.put, sIB, sCZ, sCS, f0, f3, f6, f10, f13]
 clear hl f0 f3 f6 f10 f13
 go_upto_region 2 with (fail)
 refine wp_region_U 26 [18, 19, 20, 21] [0, 1, 2, 3] (fun a0 HA0 => ?_)
 have oe0 := ev HA0 0 rfl
 have oe3 := ev HA0 3 rfl
 refine QSeq.pure rfl _ (fun E => ex_move rfl (E.v oe0)) ?_
 refine QSeq.pure rfl (.pointer (some ⟨w.heap.size, 4, none⟩)) (fun E => ex_field rfl Tryz.underlying47 rfl (by kernel_rfl) (E.v oe3)) ?_
 refine QSeq.pure rfl _ (fun E => ex_loadA rfl Tryz.underlying45 rfl (off := 4) (cs := [.int .i64 x.ba.ep, .int .u64 (x.ba.tm : Nat), v_ps, v_os, v_ts]) (by kernel_rfl) (E.d 1 0) (Cs.litA (HB3.out.mod Cx14.out (by intro h2; first | omega | (have hb := HBR.out _ h2; omega))) rfl)) ?_
 refine QSeq.call rfl rfl Tryz.func115 (PutBa_Q _ R2 _ _ _ x.ba _ Hx13.out (by intro k h1; rcases h1 with h1 | h1 | h1 | h1 | h1 <;> first | omega | (have hb := HBR.out k h1; omega)) ⟨_, _, _, rfl, HOK.out.2.2.2.2.1, (Hx2.out.mod Cx14.out (by intro k h1 h2; first | omega | (have hb := HBT.out k h1; omega) | (have hb := HBR.out k h2; omega) | exact HDJ.out k h1 h2 | exact HDJ.out k h2 h1 | (have hb := HBT.out k h1; have hb2 := HBR.out k h2; omega))), (Hx3.out.mod Cx14.out (by intro k h1 h2; first | omega | (have hb := HBT.out k h1; omega) | (have hb := HBR.out k h2; omega) | exact HDJ.out k h1 h2 | exact HDJ.out k h2 h1 | (have hb := HBT.out k h1; have hb2 := HBR.out k h2; omega))), (Hx4.out.mod Cx14.out (by intro k h1 h2; first | omega | (have hb := HBT.out k h1; omega) | (have hb := HBR.out k h2; omega) | exact HDJ.out k h1 h2 | exact HDJ.out k h2 h1 | (have hb := HBT.out k h1; have hb2 := HBR.out k h2; omega)))⟩ (by intro k h1; have hb := HBT.out k h1; omega) (by intro k h1 h2; rcases h1 with h1 | h1 | h1 | h1 | h1 <;> first | omega | (have hb := HBR.out k h1; omega) | (have hb := HBT.out k h2; omega) | exact HDJ.out k h1 h2 | exact HDJ.out k h2 h1 | (have hb := HBR.out k h1; have hb2 := HBT.out k h2; omega)) (by have := HL.out; simp only [List.length_append] at this ⊢; omega)) (fun E => args2 (E.d 0 2) (E.d 2 0)) ?_
 rintro e u2_3 ⟨rfl, qwr, hm⟩
 refine ⟨_, rfl, ?_⟩
 have Hx15 := hid (qwr.widen (R' := (fun k => (R k) ∨ (New u1_0 u1_1a k) ∨ (New u1_1 u1_2a k) ∨ (New u1_2 u1_3a k) ∨ (New u1_3 u1_4a k) ∨ (New u1_4 u2_3 k))) (by intro k h1; simp only [or_assoc] at h1 ⊢; exact h1) (Nat.le_refl _))
 have zu2_3 := hm.size
 have Cx16 := hid (show Mod (fun k => (R k) ∨ (New u1_0 u1_1a k) ∨ (New u1_1 u1_2a k) ∨ (New u1_2 u1_3a k) ∨ (New u1_3 u1_4a k)) u1_4 u2_3 from hm)
 clear hm
 clear qwr Hx13
 refine QSeq.nil (t' := [_, _, _, _]) rfl ?_
 obtain rfl := HA0.out
 clear HA0 oe0 oe3
 simp only [pz, Act.put, sIB, sCZ, sCS]
 go_upto_region 3 with (fail)
 refine wp_region_U 26 [22, 23, 24, 25] [0, 1, 2, 3] (fun a0 HA0 => ?_)
 have oe0 := ev HA0 0 rfl
 have oe3 := ev HA0 3 rfl
 refine QSeq.pure rfl _ (fun E => ex_move rfl (E.v oe0)) ?_
 refine QSeq.pure rfl (.pointer (some ⟨w.heap.size, 9, none⟩)) (fun E => ex_field rfl Tryz.underlying47 rfl (by kernel_rfl) (E.v oe3)) ?_
 refine QSeq.pure rfl _ (fun E => ex_loadA rfl Tryz.underlying27 rfl (off := 9) (cs := [.int .i64 x.sb, .int .i64 x.mr]) (by kernel_rfl) (E.d 1 0) (Cs.litA ((HB3.out.mod Cx14.out (by intro h2; first | omega | (have hb := HBR.out _ h2; omega))).mod Cx16.out (by intro h2; rcases h2 with h2 | h2 | h2 | h2 | h2 <;> first | omega | (have hb := HBR.out _ h2; omega))) rfl)) ?_
 refine QSeq.call rfl rfl Tryz.func139 (PutSig_Q Hx15.out (by intro k h1; rcases h1 with h1 | h1 | h1 | h1 | h1 | h1 <;> first | omega | (have hb := HBR.out k h1; omega)) HOK.out.2.2.2.2.2.1 HOK.out.2.2.2.2.2.2 (by have := HL.out; simp only [List.length_append] at this ⊢; omega)) (fun E => args2 (E.d 0 2) (E.d 2 0)) ?_
 rintro e u3_3 ⟨rfl, qwr, hm⟩
 refine ⟨_, rfl, ?_⟩
 have Hx17 := hid (qwr.widen (R' := (fun k => (R k) ∨ (New u1_0 u1_1a k) ∨ (New u1_1 u1_2a k) ∨ (New u1_2 u1_3a k) ∨ (New u1_3 u1_4a k) ∨ (New u1_4 u2_3 k) ∨ (New u2_3 u3_3 k))) (by intro k h1; simp only [or_assoc] at h1 ⊢; exact h1) (Nat.le_refl _))
 have zu3_3 := hm.size
 have Cx18 := hid (show Mod (fun k => (R k) ∨ (New u1_0 u1_1a k) ∨ (New u1_1 u1_2a k) ∨ (New u1_2 u1_3a k) ∨ (New u1_3 u1_4a k) ∨ (New u1_4 u2_3 k)) u2_3 u3_3 from hm)
 clear hm
 clear qwr Hx15
 refine QSeq.nil (t' := [_, _, _, _]) rfl ?_
 obtain rfl := HA0.out
 clear HA0 oe0 oe3
 simp only [pz, Act.put, sIB, sCZ, sCS]
 go_wp2
 go_end0
 have hq := (Hx17.out.widen (R' := (fun k => R k ∨ New w u3_3 k)) (by intro k h1; rcases h1 with h1 | h1 | h1 | h1 | h1 | h1 | h1 <;> first | exact Or.inl h1 | (right; omega)) (Nat.le_refl _))
 simp only [List.append_assoc] at hq
 exact ⟨rfl, by simpa only [prB, List.append_assoc] using hq, (((HM0.out.trans Cx14.out (fun _ _ h => h)).trans Cx16.out (by intro k h1 h2; rcases h2 with h2 | h2 | h2 | h2 | h2 <;> first | exact h2 | omega | (have hb := HBR.out k h2; omega))).trans Cx18.out (by intro k h1 h2; rcases h2 with h2 | h2 | h2 | h2 | h2 | h2 <;> first | exact h2 | omega | (have hb := HBR.out k h2; omega)))⟩
set_option maxHeartbeats 4000000 in
theorem PutList_Vt : PutsL VtR 116 110 vtB := by
 intro R R2 g bs v l w hW hB hs hB2 hD hl
 obtain ⟨ao, cap, rfl⟩ := hs.shape
 have hb64 : l.length ≤ maxLen := hs.bd
 rw [maxLen_val] at hb64
 have HI64 := hid (show I64 (l.length : Int) by unfold I64; omega)
 have HW := Lib.hid hW
 have HS := Lib.hid hs
 have HBR := Lib.hid hB
 have HBT := Lib.hid hB2
 have HDJ := Lib.hid hD
 have HL := Lib.hid hl
 clear hW hB hs hB2 hD hl
 unfold listB at HL
 go_enter Tryz.func116, Tryz.ntmps116
 go_upto_region 0 with (fail)
 have HM0 := hid (Mod.refl (fun k => (R k)) w)
 go_upto_region 0 with (fail)
 refine wp_region_U 23 [8, 9, 10, 11] [0, 1, 2, 3] (fun a0 HA0 => ?_)
 have oe0 := ev HA0 0 rfl
 have oe1 := ev HA0 1 rfl
 refine QSeq.pure rfl _ (fun E => ex_move rfl (E.v oe0)) ?_
 refine QSeq.pure rfl _ (fun E => ex_move rfl (E.v oe1)) ?_
 refine QSeq.pure rfl (.int .i64 l.length) (fun E => ex_lenS rfl (E.d 1 0) Tryz.underlying57) ?_
 refine QSeq.call rfl rfl Tryz.func69 (WInt_Q HW.out HI64.out (by have := HL.out; simp only [List.length_append] at this ⊢; omega)) (fun E => args2 (E.d 0 2) (E.d 2 0)) ?_
 rintro e u0_3 ⟨rfl, qwr, hm⟩
 refine ⟨_, rfl, ?_⟩
 have Hx1 := hid (qwr.widen (R' := (fun k => (R k) ∨ (New w u0_3 k))) (fun _ h => h) (Nat.le_refl _))
 have zu0_3 := hm.size
 have Cx2 := hid (show Mod (fun k => (R k)) w u0_3 from hm)
 clear hm
 clear qwr HW
 refine QSeq.nil (t' := [_, _, _, _]) rfl ?_
 obtain rfl := HA0.out
 clear HA0 oe0 oe1
 simp only [pz, Act.put, sIB, sCZ, sCS]
 go_wp2
 go_loopw [14] (fun t wr => ∃ k : Nat, t = .int .i64 (k : Int) ∧ k ≤ l.length ∧ u0_3.heap.size ≤ wr.heap.size ∧ WrR (fun b => R b ∨ (w.heap.size ≤ b ∧ b < wr.heap.size)) 900000 wr g (bs ++ (encI l.length ++ ((l.take k).map vtB).flatten)) ∧ RdS VtR R2 wr (.slice ao l.length cap) l ∧ Mod R w wr) (fun t _ => l.length - (intOf t).toNat)
 case atStart => exact ⟨0, rfl, Nat.zero_le _, Nat.le_refl _, by have hq := (Hx1.out.widen (R' := (fun k => R k ∨ (w.heap.size ≤ k ∧ k < u0_3.heap.size))) (by intro k h1; rcases h1 with h1 | h1 <;> first | exact Or.inl h1 | (right; omega)) (Nat.le_refl _)); simpa only [List.take_zero, List.map_nil, List.flatten_nil, List.append_nil] using hq, (HS.out.mod Cx2.out (by intro k h1 h2; first | omega | (have hb := HBT.out k h1; omega) | (have hb := HBR.out k h2; omega) | exact HDJ.out k h1 h2 | exact HDJ.out k h2 h1 | (have hb := HBT.out k h1; have hb2 := HBR.out k h2; omega))), (HM0.out.trans Cx2.out (fun _ _ h => h))⟩
 case round =>
  obtain ⟨k, rfl, hk, hz, hw, hs, hm⟩ := hrel
  have HW2 := Lib.hid hw
  have HS2 := Lib.hid hs
  have HM2 := Lib.hid hm
  clear hw hs hm Hx1 HS HM0
  obtain ⟨wo, rfl⟩ : ∃ x, x = wr := ⟨_, rfl⟩
  by_cases hlt : k < l.length
  ·skip
   obtain ⟨g0, o0, cs, rfl, hrg, hrd, hcs⟩ := HS2.out.at hlt
   have hcl : cs.length = 38 := VtR.len hrd
   have HCL := Lib.hid hcl
   have HAT := hid (show CellsAt R2 wo g0 (o0 + k * 38) cs from ⟨hrg, hcs⟩)
   have HRD := Lib.hid hrd
   have HOC := hid (VtR.one hrd)
   clear hcl hcs hrd hrg
   have HE : Hid (bs ++ (encI l.length ++ ((l.take k).map vtB).flatten) ++ vtB l[k] = bs ++ (encI l.length ++ ((l.take (k + 1)).map vtB).flatten)) := hid (by rw [List.take_succ_eq_append_getElem hlt, List.map_append, List.flatten_append]; simp [List.append_assoc])
   have HLk := hid (show (bs ++ (encI l.length ++ ((l.take k).map vtB).flatten) ++ vtB l[k]).length ≤ 900000 by rw [HE.out]; exact Nat.le_trans (put_len _ _ _ _ _) HL.out)
   go_upto_region 3 with (fail)
   refine wp_region_U 23 [16, 17, 7, 26] [0, 1, 2, 3] (fun a0 HA0 => ?_)
   have oe12 := ev HA0 12 rfl
   have oe14 := ev HA0 14 rfl
   refine QSeq.pure rfl (.pointer (some ⟨g0, o0 + k * 38, none⟩)) (fun E => ex_idxS (i := k) (s := 38) rfl Tryz.underlying57 (by kernel_rfl) (E.v oe12) (E.v oe14) (by omega)) ?_
   refine QSeq.pure rfl _ (fun E => ex_loadA rfl Tryz.underlying49 rfl (off := o0 + k * 38) (cs := cs) (by rw [HCL.out]; kernel_rfl) (E.d 0 0) (fun j u hu => (HAT.out).2 j u hu)) ?_
   refine QSeq.go fun act E => ?_
   refine qc_alloc rfl (wanted_none rfl) rfl (z := [.int .i64 0, .int .i64 0, .int .i64 0, .int .i64 0, .int .u8 0, .int .u8 0, .int .u8 0, .int .u8 0, .int .u8 0, .int .u8 0, .int .u8 0, .int .u8 0, .int .u8 0, .int .u8 0, .int .u8 0, .int .u8 0, .int .u8 0, .int .u8 0, .int .u8 0, .int .u8 0, .int .u8 0, .int .u8 0, .int .u8 0, .int .u8 0, .int .u8 0, .int .u8 0, .int .u8 0, .int .u8 0, .int .u8 0, .int .u8 0, .int .u8 0, .int .u8 0, .int .u8 0, .int .u8 0, .int .u8 0, .int .u8 0, .int .i64 0, .int .i64 0]) (by kernel_rfl) ?_
   intro u3_2 qq hm
   have zl3_2 := qq.lt
   have Hx3 := hid qq
   have zu3_2 := hm.size
   have Cx4 := hid (show Mod (fun _ => False) wo u3_2 from hm)
   clear hm
   clear act E qq
   refine QSeq.go fun act E => ?_
   have hlz : (cs).length = List.length ([.int .i64 0, .int .i64 0, .int .i64 0, .int .i64 0, .int .u8 0, .int .u8 0, .int .u8 0, .int .u8 0, .int .u8 0, .int .u8 0, .int .u8 0, .int .u8 0, .int .u8 0, .int .u8 0, .int .u8 0, .int .u8 0, .int .u8 0, .int .u8 0, .int .u8 0, .int .u8 0, .int .u8 0, .int .u8 0, .int .u8 0, .int .u8 0, .int .u8 0, .int .u8 0, .int .u8 0, .int .u8 0, .int .u8 0, .int .u8 0, .int .u8 0, .int .u8 0, .int .u8 0, .int .u8 0, .int .u8 0, .int .u8 0, .int .i64 0, .int .i64 0] : List Value) := (by rw [HCL.out]; rfl)
   refine qc_store rfl (wanted_none rfl) rfl Hx3.out (off := 0) (vs := cs) (by rw [hlz]; kernel_rfl) HOC.out (by rw [hlz]; exact Nat.le_of_eq (Nat.zero_add _)) (E.d 2 0) (ec (E.d 1 1)) ?_
   intro u3_3 qc0 hm
   have qq := qc0.eqv (b := (cs : List Value).toArray) (lay_whole #[.int .i64 0, .int .i64 0, .int .i64 0, .int .i64 0, .int .u8 0, .int .u8 0, .int .u8 0, .int .u8 0, .int .u8 0, .int .u8 0, .int .u8 0, .int .u8 0, .int .u8 0, .int .u8 0, .int .u8 0, .int .u8 0, .int .u8 0, .int .u8 0, .int .u8 0, .int .u8 0, .int .u8 0, .int .u8 0, .int .u8 0, .int .u8 0, .int .u8 0, .int .u8 0, .int .u8 0, .int .u8 0, .int .u8 0, .int .u8 0, .int .u8 0, .int .u8 0, .int .u8 0, .int .u8 0, .int .u8 0, .int .u8 0, .int .i64 0, .int .i64 0] _ (by rw [hlz]; rfl))
   clear qc0 hlz
   have Hx5 := hid qq
   have zu3_3 := hm.size
   have HMu3_3 := hid hm
   have Cx6 := hid (Mod.goS (S' := (fun _ => False)) Cx4.out hm (fun _ h => h) (by intro k h0 h2; omega))
   clear hm Cx4
   clear act E qq Hx3
   clear HMu3_3
   refine QSeq.nil (t' := [_, _, _, _]) rfl ?_
   obtain rfl := HA0.out
   clear HA0 oe12 oe14
   simp only [pz, Act.put, sIB, sCZ, sCS, List.set_nil]
   go_upto_region 4 with (fail)
   refine wp_region_U 23 [18, 19, 20, 21] [0, 1, 2, 3] (fun a0 HA0 => ?_)
   have oe0 := ev HA0 0 rfl
   have oe2 := ev HA0 2 rfl
   have oe7 := ev HA0 7 rfl
   refine QSeq.pure rfl _ (fun E => ex_move rfl (E.v oe2)) ?_
   refine QSeq.pure rfl _ (fun E => ex_move rfl (E.v oe0)) ?_
   refine QSeq.pure rfl _ (fun E => ex_loadA rfl Tryz.underlying49 rfl (off := 0) (cs := cs) (by rw [HCL.out]; kernel_rfl) (E.v oe7) (Cs.whole Hx5.out)) ?_
   refine QSeq.go fun act E => ?_
   have ea19 : act.eval (.tmp 19) = .pointer (some ⟨g, 0, none⟩) := (E.d 1 1)
   have ea20 : act.eval (.tmp 20) = .agg cs.toArray := (E.d 2 0)
   refine qc_call (args := #[.pointer (some ⟨g, 0, none⟩), .agg cs.toArray]) rfl (wanted_none rfl) (by rw [ex_callV rfl (E.d 0 2) Tryz.func110 (by kernel_rfl) (by kernel_rfl)]; exact congrArg (fun z => Result.ok (Next.enter _ z) _) (by simp only [List.map_toArray, List.map_cons, List.map_nil, ea19, ea20]; try rfl)) (PutVt_Q _ _ _ _ _ _ _ (HW2.out.mod Cx6.out (fun _ _ h => h)) (by intro k h1; rcases h1 with h1 | h1 <;> first | omega | (have hb := HBR.out k h1; omega)) (HRD.out.mod Cx6.out (fun _ _ h => h)) (by intro k h1; have hb := HBT.out k h1; omega) (by intro k h1 h2; rcases h1 with h1 | h1 <;> first | omega | (have hb := HBR.out k h1; omega) | (have hb := HBT.out k h2; omega) | exact HDJ.out k h1 h2 | exact HDJ.out k h2 h1 | (have hb := HBR.out k h1; have hb2 := HBT.out k h2; omega)) HLk.out) ?_
   rintro e u4_3 ⟨rfl, qwr, hm⟩
   refine ⟨_, rfl, ?_⟩
   have Hx7 := hid (qwr.widen (R' := (fun k => (R k) ∨ (New w wo k) ∨ (New u3_3 u4_3 k))) (by intro k h1; simp only [or_assoc] at h1 ⊢; exact h1) (Nat.le_refl _))
   have zu4_3 := hm.size
   have Cx8 := hid (show Mod (fun k => (R k) ∨ (New w wo k)) u3_3 u4_3 from hm)
   clear hm
   clear act E qwr HW2 ea19 ea20
   refine QSeq.nil (t' := [_, _, _, _]) rfl ?_
   obtain rfl := HA0.out
   clear HA0 oe0 oe2 oe7
   simp only [pz, Act.put, sIB, sCZ, sCS]
   have hq := Hx7.out
   rw [HE.out] at hq
   have HQ := Lib.hid hq
   clear hq
   go_wp2
   go_roundw
   case rel => exact ⟨k + 1, by go_num, by omega, by omega, (HQ.out.widen (by intro b h1; rcases h1 with h1 | h1 | h1 <;> first | exact Or.inl h1 | (right; omega)) (Nat.le_refl _)), ((HS2.out.mod Cx6.out (fun _ _ h => h)).mod Cx8.out (by intro k h1 h2; rcases h2 with h2 | h2 <;> first | omega | (have hb := HBT.out k h1; omega) | (have hb := HBR.out k h2; omega) | exact HDJ.out k h1 h2 | exact HDJ.out k h2 h1 | (have hb := HBT.out k h1; have hb2 := HBR.out k h2; omega))), ((HM2.out.trans Cx6.out (fun _ _ h => h.elim)).trans Cx8.out (by intro k h1 h2; rcases h2 with h2 | h2 <;> first | exact h2 | omega | (have hb := HBR.out k h2; omega)))⟩
   case measure => simp [intOf]; omega
  ·have hkk : k = l.length := by omega
   subst hkk
   go_wp2
   go_end0
   have hq := HW2.out
   rw [List.take_length] at hq
   exact ⟨rfl, hq, HM2.out⟩
end Go.Proofs.YtpnikilkcifncaaGreat
