/- Texts that are built one behind the other: XCo1, XCo2, XNt1, XNt2. No condition. -/
import Derived.Test.YtekbmpjdombedaaNpP2
set_option maxRecDepth 100000
set_option linter.unusedVariables false
open List renaming setIfInBounds_toArray → sIB, set_cons_zero → sCZ, set_cons_succ → sCS
/- Things anew, as they are (package msgs). -/
namespace Go.Proofs.Ytekbmpjdombedaa
open Go Go.RowKit Go.Gv


/-- a function that gives a thing anew, as it is, in blocks of its own; P: what is asked of the thing -/
def CopR {α : Type} (A : Rep α) (P : α → Prop) (F : FuncId) : Prop := ∀ (R2 : Nat → Prop) (x : α) (cs : List Value) (w : World), A.rd R2 w cs x → (∀ k, R2 k → k < w.heap.size) → P x →
 Calls Try.prog F #[.agg cs.toArray] w fun e w' => ∃ cs', e = .returned (.agg cs'.toArray) ∧ A.rd (New w w') w' cs' x ∧ Mod (fun _ => False) w w'
/-- the same for a list of them -/
def CopL {α : Type} (A : Rep α) (P : α → Prop) (F Fe : FuncId) : Prop := ∀ (R2 : Nat → Prop) (l : List α) (v : Value) (w : World), RdS A R2 w v l → (∀ k, R2 k → k < w.heap.size) → l.length ≤ 1000 → (∀ x ∈ l, P x) →
 Calls Try.prog F #[v, .func (.func Fe) #[] #[]] w fun e w' => ∃ v', e = .returned v' ∧ RdS A (New w w') w' v' l ∧ Mod (fun _ => False) w w'
def cpNo {α : Type} (x : α) : Prop := True
def cpCe (x : Ce) : Prop := x.l.length ≤ 1000
def cpPm (x : Pm) : Prop := x.l.length ≤ 1000 ∧ ∀ y ∈ x.l, cpCe y
def cpOp (x : Op) : Prop := x.pl.length ≤ 900000
def cpTb (x : Tb) : Prop := x.l.length ≤ 1000
def cpBa (x : Ba) : Prop := (x.ps.length ≤ 1000 ∧ ∀ y ∈ x.ps, cpPm y) ∧ (x.os.length ≤ 1000 ∧ ∀ y ∈ x.os, cpOp y) ∧ (x.ts.length ≤ 1000 ∧ ∀ y ∈ x.ts, cpTb y)
theorem info_VtC : (Try.prog.info? 55).map (fun i => (i.zero, i.size, i.bytes)) = some (some (.agg #[.int .i64 0, .int .i64 0, .int .i64 0, .int .i64 0, .int .u8 0, .int .u8 0, .int .u8 0, .int .u8 0, .int .u8 0, .int .u8 0, .int .u8 0, .int .u8 0, .int .u8 0, .int .u8 0, .int .u8 0, .int .u8 0, .int .u8 0, .int .u8 0, .int .u8 0, .int .u8 0, .int .u8 0, .int .u8 0, .int .u8 0, .int .u8 0, .int .u8 0, .int .u8 0, .int .u8 0, .int .u8 0, .int .u8 0, .int .u8 0, .int .u8 0, .int .u8 0, .int .u8 0, .int .u8 0, .int .u8 0, .int .u8 0, .int .i64 0, .int .i64 0]), 38, 80) := by kernel_rfl
set_option maxHeartbeats 1000000 in
theorem same_St : CopR StR cpNo 51 := by
 intro R2 x cs w hx hB2 hP
 obtain ⟨rfl, hok⟩ := hx
 have HOK := Lib.hid hok
 clear hok hB2 hP
 go_enter Try.func51, Try.ntmps51
 go_upto_region 1 with (fail)
 obtain ⟨w1, hw1⟩ : ∃ zz, zz = ((w.alloc (.cells (x.cells : List Value).toArray 38)).alloc (.cells #[.int .i64 0, .int .i64 0, .int .i64 0, .int .u8 0, .int .u8 0, .int .u8 0, .int .u8 0, .int .u8 0, .int .u8 0, .int .u8 0, .int .u8 0, .int .u8 0, .int .u8 0, .int .u8 0, .int .u8 0, .int .u8 0, .int .u8 0, .int .u8 0, .int .u8 0, .int .u8 0, .int .u8 0, .int .u8 0, .int .u8 0, .int .u8 0, .int .u8 0, .int .u8 0, .int .u8 0, .int .u8 0, .int .u8 0, .int .u8 0, .int .u8 0, .int .u8 0, .int .u8 0, .int .u8 0, .int .u8 0, .int .u64 0, .int .i64 0, .int .i64 0] 38)) := ⟨_, rfl⟩
 change Code.wp _ _ _ _ ((w.alloc (.cells (x.cells : List Value).toArray 38)).alloc (.cells #[.int .i64 0, .int .i64 0, .int .i64 0, .int .u8 0, .int .u8 0, .int .u8 0, .int .u8 0, .int .u8 0, .int .u8 0, .int .u8 0, .int .u8 0, .int .u8 0, .int .u8 0, .int .u8 0, .int .u8 0, .int .u8 0, .int .u8 0, .int .u8 0, .int .u8 0, .int .u8 0, .int .u8 0, .int .u8 0, .int .u8 0, .int .u8 0, .int .u8 0, .int .u8 0, .int .u8 0, .int .u8 0, .int .u8 0, .int .u8 0, .int .u8 0, .int .u8 0, .int .u8 0, .int .u8 0, .int .u8 0, .int .u64 0, .int .i64 0, .int .i64 0] 38))
 rw [← hw1]
 have HB1 := hid (show Cs w1 (w.heap.size) (x.cells : List Value).toArray 38 by rw [hw1]; exact (Cs.new _ _ _).alloc _)
 have HB2 := hid (show Cs w1 (w.heap.size + 1) #[.int .i64 0, .int .i64 0, .int .i64 0, .int .u8 0, .int .u8 0, .int .u8 0, .int .u8 0, .int .u8 0, .int .u8 0, .int .u8 0, .int .u8 0, .int .u8 0, .int .u8 0, .int .u8 0, .int .u8 0, .int .u8 0, .int .u8 0, .int .u8 0, .int .u8 0, .int .u8 0, .int .u8 0, .int .u8 0, .int .u8 0, .int .u8 0, .int .u8 0, .int .u8 0, .int .u8 0, .int .u8 0, .int .u8 0, .int .u8 0, .int .u8 0, .int .u8 0, .int .u8 0, .int .u8 0, .int .u8 0, .int .u64 0, .int .i64 0, .int .i64 0] 38 by rw [hw1]; exact Cs_newN _ _ _ (by simp))
 have hm : Mod (fun _ => False) w w1 := by rw [hw1]; exact ((Mod.refl _ _).alloc _).alloc _
 have HM0 := hid (show Mod (fun _ => False) w w1 from hm.mono (fun _ _ h => h.elim))
 have hs1 : w1.heap.size = w.heap.size + 2 := by rw [hw1]; simp
 clear hw1 hm
 go_upto_region 1 with (fail)
 refine wp_region_U 4 [3, 5] [0, 1] (fun a0 HA0 => ?_)
 have oe1 := ev HA0 1 rfl
 have oe2 := ev HA0 2 rfl
 refine QSeq.pure rfl _ (fun E => ex_loadA rfl Try.underlying38 rfl (off := 0) (cs := x.cells) (by rw [St.len HOK.out]; kernel_rfl) (E.v oe1) (Cs.whole HB1.out)) ?_
 refine QSeq.go fun act E => ?_
 refine qc_store rfl (wanted_none rfl) rfl HB2.out (off := 0) (vs := x.cells) (by rw [St.len HOK.out]; kernel_rfl) (St.one _) (by rw [St.len HOK.out]; decide) (E.v oe2) (ec (E.d 0 0)) ?_
 intro u1_1 qc0 hm
 have qB2 := qc0.eqv (b := (x.cells : List Value).toArray) (lay_whole _ _ (by rw [St.len HOK.out]; rfl))
 clear qc0
 have Hx1 := hid qB2
 have zu1_1 := hm.size
 have Cx2 := hid (show Mod (fun k => (k = w.heap.size + 1)) w1 u1_1 from hm)
 clear hm
 clear act E qB2 HB2
 refine QSeq.nil (t' := [_, _]) rfl ?_
 obtain rfl := HA0.out
 clear HA0 oe1 oe2
 simp only [pz, Act.put, sIB, sCZ, sCS, List.set_nil]
 go_wp2
 exact bodyPost_ret (results_cellA rfl _ _ (w.heap.size + 1) x.cells rfl (fun k u hu => by rw [Hx1.out.cell]; simpa using hu) Try.underlying38 rfl (by rw [St.len HOK.out]; kernel_rfl)) rfl ⟨_, rfl, ⟨rfl, HOK.out⟩, (HM0.out.trans Cx2.out (by intro k h1 h2; omega))⟩
set_option maxHeartbeats 1000000 in
theorem same_Dn : CopR DnR cpNo 63 := by
 intro R2 x cs w hx hB2 hP
 obtain ⟨rfl, hok⟩ := hx
 have HOK := Lib.hid hok
 clear hok hB2 hP
 go_enter Try.func63, Try.ntmps63
 go_upto_region 1 with (fail)
 obtain ⟨w1, hw1⟩ : ∃ zz, zz = ((w.alloc (.cells (x.cells : List Value).toArray 62)).alloc (.cells #[.int .i64 0, .int .i64 0, .int .i64 0, .int .i64 0] 62)) := ⟨_, rfl⟩
 change Code.wp _ _ _ _ ((w.alloc (.cells (x.cells : List Value).toArray 62)).alloc (.cells #[.int .i64 0, .int .i64 0, .int .i64 0, .int .i64 0] 62))
 rw [← hw1]
 have HB1 := hid (show Cs w1 (w.heap.size) (x.cells : List Value).toArray 62 by rw [hw1]; exact (Cs.new _ _ _).alloc _)
 have HB2 := hid (show Cs w1 (w.heap.size + 1) #[.int .i64 0, .int .i64 0, .int .i64 0, .int .i64 0] 62 by rw [hw1]; exact Cs_newN _ _ _ (by simp))
 have hm : Mod (fun _ => False) w w1 := by rw [hw1]; exact ((Mod.refl _ _).alloc _).alloc _
 have HM0 := hid (show Mod (fun _ => False) w w1 from hm.mono (fun _ _ h => h.elim))
 have hs1 : w1.heap.size = w.heap.size + 2 := by rw [hw1]; simp
 clear hw1 hm
 go_upto_region 1 with (fail)
 refine wp_region_U 4 [3, 5] [0, 1] (fun a0 HA0 => ?_)
 have oe1 := ev HA0 1 rfl
 have oe2 := ev HA0 2 rfl
 refine QSeq.pure rfl _ (fun E => ex_loadA rfl Try.underlying62 rfl (off := 0) (cs := x.cells) (by kernel_rfl) (E.v oe1) (Cs.whole HB1.out)) ?_
 refine QSeq.go fun act E => ?_
 refine qc_store rfl (wanted_none rfl) rfl HB2.out (off := 0) (vs := x.cells) (by kernel_rfl) (Dn.one _) (by show 0 + 4 ≤ 4; decide) (E.v oe2) (ec (E.d 0 0)) ?_
 intro u1_1 qc0 hm
 have qB2 := qc0.eqv (b := (x.cells : List Value).toArray) (lay_whole _ _ rfl)
 clear qc0
 have Hx1 := hid qB2
 have zu1_1 := hm.size
 have Cx2 := hid (show Mod (fun k => (k = w.heap.size + 1)) w1 u1_1 from hm)
 clear hm
 clear act E qB2 HB2
 refine QSeq.nil (t' := [_, _]) rfl ?_
 obtain rfl := HA0.out
 clear HA0 oe1 oe2
 simp only [pz, Act.put, sIB, sCZ, sCS, List.set_nil]
 go_wp2
 exact bodyPost_ret (results_cellA rfl _ _ (w.heap.size + 1) x.cells rfl (fun k u hu => by rw [Hx1.out.cell]; simpa using hu) Try.underlying62 rfl (by kernel_rfl)) rfl ⟨_, rfl, ⟨rfl, HOK.out⟩, (HM0.out.trans Cx2.out (by intro k h1 h2; omega))⟩
set_option maxHeartbeats 1000000 in
theorem same_Vt : CopR VtR cpNo 39 := by
 intro R2 x cs w hx hB2 hP
 obtain ⟨rfl, hok⟩ := hx
 have HOK := Lib.hid hok
 clear hok hB2 hP
 go_enter Try.func39, Try.ntmps39
 go_upto_region 1 with (fail)
 obtain ⟨w1, hw1⟩ : ∃ zz, zz = ((w.alloc (.cells (x.cells : List Value).toArray 55)).alloc (.cells #[.int .i64 0, .int .i64 0, .int .i64 0, .int .i64 0, .int .u8 0, .int .u8 0, .int .u8 0, .int .u8 0, .int .u8 0, .int .u8 0, .int .u8 0, .int .u8 0, .int .u8 0, .int .u8 0, .int .u8 0, .int .u8 0, .int .u8 0, .int .u8 0, .int .u8 0, .int .u8 0, .int .u8 0, .int .u8 0, .int .u8 0, .int .u8 0, .int .u8 0, .int .u8 0, .int .u8 0, .int .u8 0, .int .u8 0, .int .u8 0, .int .u8 0, .int .u8 0, .int .u8 0, .int .u8 0, .int .u8 0, .int .u8 0, .int .i64 0, .int .i64 0] 55)) := ⟨_, rfl⟩
 change Code.wp _ _ _ _ ((w.alloc (.cells (x.cells : List Value).toArray 55)).alloc (.cells #[.int .i64 0, .int .i64 0, .int .i64 0, .int .i64 0, .int .u8 0, .int .u8 0, .int .u8 0, .int .u8 0, .int .u8 0, .int .u8 0, .int .u8 0, .int .u8 0, .int .u8 0, .int .u8 0, .int .u8 0, .int .u8 0, .int .u8 0, .int .u8 0, .int .u8 0, .int .u8 0, .int .u8 0, .int .u8 0, .int .u8 0, .int .u8 0, .int .u8 0, .int .u8 0, .int .u8 0, .int .u8 0, .int .u8 0, .int .u8 0, .int .u8 0, .int .u8 0, .int .u8 0, .int .u8 0, .int .u8 0, .int .u8 0, .int .i64 0, .int .i64 0] 55))
 rw [← hw1]
 have HB1 := hid (show Cs w1 (w.heap.size) (x.cells : List Value).toArray 55 by rw [hw1]; exact (Cs.new _ _ _).alloc _)
 have HB2 := hid (show Cs w1 (w.heap.size + 1) #[.int .i64 0, .int .i64 0, .int .i64 0, .int .i64 0, .int .u8 0, .int .u8 0, .int .u8 0, .int .u8 0, .int .u8 0, .int .u8 0, .int .u8 0, .int .u8 0, .int .u8 0, .int .u8 0, .int .u8 0, .int .u8 0, .int .u8 0, .int .u8 0, .int .u8 0, .int .u8 0, .int .u8 0, .int .u8 0, .int .u8 0, .int .u8 0, .int .u8 0, .int .u8 0, .int .u8 0, .int .u8 0, .int .u8 0, .int .u8 0, .int .u8 0, .int .u8 0, .int .u8 0, .int .u8 0, .int .u8 0, .int .u8 0, .int .i64 0, .int .i64 0] 55 by rw [hw1]; exact Cs_newN _ _ _ (by simp))
 have hm : Mod (fun _ => False) w w1 := by rw [hw1]; exact ((Mod.refl _ _).alloc _).alloc _
 have HM0 := hid (show Mod (fun _ => False) w w1 from hm.mono (fun _ _ h => h.elim))
 have hs1 : w1.heap.size = w.heap.size + 2 := by rw [hw1]; simp
 clear hw1 hm
 go_upto_region 1 with (fail)
 refine wp_region_U 4 [3, 5] [0, 1] (fun a0 HA0 => ?_)
 have oe1 := ev HA0 1 rfl
 have oe2 := ev HA0 2 rfl
 refine QSeq.pure rfl _ (fun E => ex_loadA rfl Try.underlying55 rfl (off := 0) (cs := x.cells) (by rw [Vt.len HOK.out]; kernel_rfl) (E.v oe1) (Cs.whole HB1.out)) ?_
 refine QSeq.go fun act E => ?_
 refine qc_store rfl (wanted_none rfl) rfl HB2.out (off := 0) (vs := x.cells) (by rw [Vt.len HOK.out]; kernel_rfl) (Vt.one _) (by rw [Vt.len HOK.out]; decide) (E.v oe2) (ec (E.d 0 0)) ?_
 intro u1_1 qc0 hm
 have qB2 := qc0.eqv (b := (x.cells : List Value).toArray) (lay_whole _ _ (by rw [Vt.len HOK.out]; rfl))
 clear qc0
 have Hx1 := hid qB2
 have zu1_1 := hm.size
 have Cx2 := hid (show Mod (fun k => (k = w.heap.size + 1)) w1 u1_1 from hm)
 clear hm
 clear act E qB2 HB2
 refine QSeq.nil (t' := [_, _]) rfl ?_
 obtain rfl := HA0.out
 clear HA0 oe1 oe2
 simp only [pz, Act.put, sIB, sCZ, sCS, List.set_nil]
 go_wp2
 exact bodyPost_ret (results_cellA rfl _ _ (w.heap.size + 1) x.cells rfl (fun k u hu => by rw [Hx1.out.cell]; simpa using hu) Try.underlying55 rfl (by rw [Vt.len HOK.out]; kernel_rfl)) rfl ⟨_, rfl, ⟨rfl, HOK.out⟩, (HM0.out.trans Cx2.out (by intro k h1 h2; omega))⟩
set_option maxHeartbeats 4000000 in
theorem copied_St : CopL StR cpNo 50 51 := by
 intro R2 l v w hs hB2 hl hP
 obtain ⟨ao, cap, rfl⟩ := hs.shape
 have HS := Lib.hid hs
 have HBT := Lib.hid hB2
 have HL := Lib.hid hl
 have HP := Lib.hid hP
 clear hs hB2 hl hP
 go_enter Try.func50, Try.ntmps50
 go_upto_region 2 with (fail)
 have HM0 := hid (Mod.refl (fun _ => False) w)
 go_upto_region 2 with (fail)
 refine wp_region_U 22 [8, 9, 10] [0, 1, 2] (fun a0 HA0 => ?_)
 have oe0 := ev HA0 0 rfl
 refine QSeq.pure rfl _ (fun E => ex_move rfl (E.v oe0)) ?_
 refine QSeq.pure rfl (.int .i64 l.length) (fun E => ex_lenS rfl (E.d 0 0) Try.underlying39) ?_
 refine QSeq.pure rfl (.int .i64 0) (fun E => ex_move rfl rfl) ?_
 refine QSeq.nil (t' := [_, _, _]) rfl ?_
 obtain rfl := HA0.out
 clear HA0 oe0
 simp only [pz, Act.put, sIB, sCZ, sCS]
 go_wp2
 go_loopw [5, 10] (fun ta ti wr => ∃ k : Nat, ti = .int .i64 (k : Int) ∧ k ≤ l.length ∧ w.heap.size ≤ wr.heap.size ∧ OwS StR 38 (fun b => w.heap.size ≤ b ∧ b < wr.heap.size) (fun b => w.heap.size ≤ b ∧ b < wr.heap.size) wr ta (l.take k) ∧ RdS StR R2 wr (.slice ao l.length cap) l ∧ Mod (fun _ => False) w wr) (fun _ ti _ => l.length - (intOf ti).toNat)
 case atStart => exact ⟨0, rfl, Nat.zero_le _, Nat.le_refl _, OwS.nil _ _ _ _ _, HS.out, HM0.out⟩
 case round =>
  obtain ⟨k, rfl, hk, hz, ha, hs, hm⟩ := hrel
  obtain ⟨wl, rfl⟩ : ∃ x, x = wr := ⟨_, rfl⟩
  obtain ⟨aol, capl, rfl⟩ := ha.shape
  have HAL := Lib.hid ha
  have HSL := Lib.hid hs
  have HML := Lib.hid hm
  clear ha hs hm HS HM0
  by_cases hlt : k < l.length
  ·skip
   go_upto_region 3 with (fail)
   refine wp_region_U 22 [11] [0] (fun a0 HA0 => ?_)
   have oe9 := ev HA0 9 rfl
   have oe10 := ev HA0 10 rfl
   refine QSeq.pure rfl (.bool true) (fun E => ex_binE rfl (E.v oe10) (E.v oe9) (guard_ints _ _ _ _ _ _) (run_lss_i _ _ _ Try.underlying3) (congrArg Value.bool (decide_eq_true (by omega)))) ?_
   refine QSeq.nil (t' := [_]) rfl ?_
   obtain rfl := HA0.out
   clear HA0 oe9 oe10
   simp only [pz, Act.put, sIB, sCZ, sCS]
   obtain ⟨g0, o0, cs, eao, hrg, hrd, hcs⟩ := HSL.out.at hlt
   subst eao
   have HCL := hid (show cs.length = 38 from StR.len hrd)
   have HAT := hid (show CellsAt R2 wl g0 (o0 + k * 38) cs from ⟨hrg, hcs⟩)
   have HRD := Lib.hid hrd
   have HOC := hid (StR.one hrd)
   have HPK := hid (HP.out _ (List.getElem_mem hlt))
   clear hrg hrd hcs
   go_upto_region 4 with (fail)
   refine wp_region_U 22 [12, 13, 7, 25] [0, 1, 2, 3] (fun a0 HA0 => ?_)
   have oe8 := ev HA0 8 rfl
   have oe10 := ev HA0 10 rfl
   refine QSeq.pure rfl (.pointer (some ⟨g0, o0 + k * 38, none⟩)) (fun E => ex_idxS (i := k) (s := 38) rfl Try.underlying39 (by kernel_rfl) (E.v oe8) (E.v oe10) (by omega)) ?_
   refine QSeq.pure rfl _ (fun E => ex_loadA rfl Try.underlying38 rfl (off := o0 + k * 38) (cs := cs) (by rw [HCL.out]; kernel_rfl) (E.d 0 0) (fun j u hu => (HAT.out).2 j u hu)) ?_
   refine QSeq.go fun act E => ?_
   refine qc_alloc rfl (wanted_none rfl) rfl (z := [.int .i64 0, .int .i64 0, .int .i64 0, .int .u8 0, .int .u8 0, .int .u8 0, .int .u8 0, .int .u8 0, .int .u8 0, .int .u8 0, .int .u8 0, .int .u8 0, .int .u8 0, .int .u8 0, .int .u8 0, .int .u8 0, .int .u8 0, .int .u8 0, .int .u8 0, .int .u8 0, .int .u8 0, .int .u8 0, .int .u8 0, .int .u8 0, .int .u8 0, .int .u8 0, .int .u8 0, .int .u8 0, .int .u8 0, .int .u8 0, .int .u8 0, .int .u8 0, .int .u8 0, .int .u8 0, .int .u8 0, .int .u64 0, .int .i64 0, .int .i64 0]) (by kernel_rfl) ?_
   intro u4_2 qq hm
   have zl4_2 := qq.lt
   have Hx1 := hid qq
   have zu4_2 := hm.size
   have Cx2 := hid (show Mod (fun _ => False) wl u4_2 from hm)
   clear hm
   clear act E qq
   refine QSeq.go fun act E => ?_
   have hlz : (cs).length = List.length ([.int .i64 0, .int .i64 0, .int .i64 0, .int .u8 0, .int .u8 0, .int .u8 0, .int .u8 0, .int .u8 0, .int .u8 0, .int .u8 0, .int .u8 0, .int .u8 0, .int .u8 0, .int .u8 0, .int .u8 0, .int .u8 0, .int .u8 0, .int .u8 0, .int .u8 0, .int .u8 0, .int .u8 0, .int .u8 0, .int .u8 0, .int .u8 0, .int .u8 0, .int .u8 0, .int .u8 0, .int .u8 0, .int .u8 0, .int .u8 0, .int .u8 0, .int .u8 0, .int .u8 0, .int .u8 0, .int .u8 0, .int .u64 0, .int .i64 0, .int .i64 0] : List Value) := (by rw [HCL.out]; rfl)
   refine qc_store rfl (wanted_none rfl) rfl Hx1.out (off := 0) (vs := cs) (by rw [hlz]; kernel_rfl) HOC.out (by rw [hlz]; exact Nat.le_of_eq (Nat.zero_add _)) (E.d 2 0) (ec (E.d 1 1)) ?_
   intro u4_3 qc0 hm
   have qq := qc0.eqv (b := (cs : List Value).toArray) (lay_whole #[.int .i64 0, .int .i64 0, .int .i64 0, .int .u8 0, .int .u8 0, .int .u8 0, .int .u8 0, .int .u8 0, .int .u8 0, .int .u8 0, .int .u8 0, .int .u8 0, .int .u8 0, .int .u8 0, .int .u8 0, .int .u8 0, .int .u8 0, .int .u8 0, .int .u8 0, .int .u8 0, .int .u8 0, .int .u8 0, .int .u8 0, .int .u8 0, .int .u8 0, .int .u8 0, .int .u8 0, .int .u8 0, .int .u8 0, .int .u8 0, .int .u8 0, .int .u8 0, .int .u8 0, .int .u8 0, .int .u8 0, .int .u64 0, .int .i64 0, .int .i64 0] _ (by rw [hlz]; rfl))
   clear qc0 hlz
   have Hx3 := hid qq
   have zu4_3 := hm.size
   have HMu4_3 := hid hm
   have Cx4 := hid (Mod.goS (S' := (fun _ => False)) Cx2.out hm (fun _ h => h) (by intro k h0 h2; omega))
   clear hm Cx2
   clear act E qq Hx1
   clear HMu4_3
   refine QSeq.nil (t' := [_, _, _, _]) rfl ?_
   obtain rfl := HA0.out
   clear HA0 oe8 oe10
   simp only [pz, Act.put, sIB, sCZ, sCS, List.set_nil]
   go_upto_region 5 with (fail)
   refine wp_region_U 22 [14, 15, 16, 17, 18, 19, 5] [0, 1, 2, 3, 4, 5, 6] (fun a0 HA0 => ?_)
   have oe1 := ev HA0 1 rfl
   have oe5 := ev HA0 5 rfl
   have oe7 := ev HA0 7 rfl
   refine QSeq.pure rfl _ (fun E => ex_move rfl (E.y 6 oe5)) ?_
   refine QSeq.pure rfl _ (fun E => ex_move rfl (E.v oe1)) ?_
   refine QSeq.pure rfl _ (fun E => ex_loadA rfl Try.underlying38 rfl (off := 0) (cs := cs) (by rw [HCL.out]; kernel_rfl) (E.v oe7) (Cs.whole Hx3.out)) ?_
   refine QSeq.go fun act E => ?_
   have ea16 : act.eval (.tmp 16) = .agg cs.toArray := (E.d 2 0)
   refine qc_call (args := #[.agg cs.toArray]) rfl (wanted_none rfl) (by rw [ex_callV rfl (E.d 1 1) Try.func51 (by kernel_rfl) (by kernel_rfl)]; exact congrArg (fun z => Result.ok (Next.enter _ z) _) (by simp only [List.map_toArray, List.map_cons, List.map_nil, ea16]; try rfl)) (same_St _ _ _ _ (HRD.out.mod Cx4.out (fun _ _ h => h)) (by intro k h1; have hb := HBT.out k h1; omega) HPK.out) ?_
   rintro e u5_3 ⟨cn, rfl, qnw, hm⟩
   have HCN := hid (StR.len qnw)
   refine ⟨_, rfl, ?_⟩
   have Hx5 := hid qnw
   have zu5_3 := hm.size
   have Cx6 := hid (show Mod (fun _ => False) u4_3 u5_3 from hm)
   clear hm
   clear act E qnw ea16
   refine QSeq.go fun act E => ?_
   refine qc_buildS (e := 38) (cs := cn) (zc := [.int .i64 0, .int .i64 0, .int .i64 0, .int .u8 0, .int .u8 0, .int .u8 0, .int .u8 0, .int .u8 0, .int .u8 0, .int .u8 0, .int .u8 0, .int .u8 0, .int .u8 0, .int .u8 0, .int .u8 0, .int .u8 0, .int .u8 0, .int .u8 0, .int .u8 0, .int .u8 0, .int .u8 0, .int .u8 0, .int .u8 0, .int .u8 0, .int .u8 0, .int .u8 0, .int .u8 0, .int .u8 0, .int .u8 0, .int .u8 0, .int .u8 0, .int .u8 0, .int .u8 0, .int .u8 0, .int .u8 0, .int .u64 0, .int .i64 0, .int .i64 0]) (sz := 38) rfl (wanted_none rfl) rfl Try.underlying39 (by kernel_rfl) rfl (by decide) (by decide) (E.d 3 0) (StR.len Hx5.out) ?_
   intro u5_4 qrow hm
   have zl5_4 := qrow.lt
   have Hx7 := hid qrow
   have zu5_4 := hm.size
   have HMu5_4 := hid hm
   have Cx8 := hid (Cx6.out.goE hm)
   clear hm Cx6
   clear act E qrow
   refine QSeq.go fun act E => ?_
   refine qc_appS (A := StR) (e := 38) rfl (wanted_none rfl) rfl (.agg #[.int .i64 0, .int .i64 0, .int .i64 0, .int .u8 0, .int .u8 0, .int .u8 0, .int .u8 0, .int .u8 0, .int .u8 0, .int .u8 0, .int .u8 0, .int .u8 0, .int .u8 0, .int .u8 0, .int .u8 0, .int .u8 0, .int .u8 0, .int .u8 0, .int .u8 0, .int .u8 0, .int .u8 0, .int .u8 0, .int .u8 0, .int .u8 0, .int .u8 0, .int .u8 0, .int .u8 0, .int .u8 0, .int .u8 0, .int .u8 0, .int .u8 0, .int .u8 0, .int .u8 0, .int .u8 0, .int .u8 0, .int .u64 0, .int .i64 0, .int .i64 0]) 80 Try.underlying39 info_St (by rfl) (of_decide_eq_true (by kernel_rfl)) (E.d 0 4) (E.d 4 0) (((HAL.out.mod Cx4.out (fun _ _ h => h) (fun _ _ h => h)).mod Cx8.out (fun _ _ h => h) (fun _ _ h => h))) (RdS.single (R := (fun k => (New u4_3 u5_3 k) ∨ (k = u5_3.heap.size))) Hx7.out ((Hx5.out.mod HMu5_4.out (fun _ _ h => h)).widen (by intro k h1; first | omega | exact h1.elim | exact Or.inl h1 | exact Or.inr (h1))) (by right; rfl)) (by intro k h1 h2; omega) (by have h9 := HL.out; rw [List.length_take]; simp only [List.length_cons, List.length_nil]; omega) (by have h9 := HL.out; rw [List.length_take]; simp only [List.length_cons, List.length_nil]; rw [maxLen_val]; omega) ?_
   intro ao5 cap5 u5_5 qout hm
   have Hx9 := hid (qout.widen (R' := (fun k => (New w wl k) ∨ (New u5_4 u5_5 k))) (E' := (fun k => (New w wl k) ∨ (New u4_3 u5_3 k) ∨ (k = u5_3.heap.size))) (fun _ h => h) (by intro k h1; rcases h1 with h1 | (h1 | h1) <;> first | omega | exact h1.elim | exact Or.inl h1 | exact Or.inr (Or.inl h1) | exact Or.inr (Or.inr (h1))))
   have zu5_5 := hm.size
   have HMu5_5 := hid hm
   have Cx10 := hid (Mod.goS (S' := (fun k => (New w wl k))) Cx8.out hm (fun _ h => h.elim) (by intro k h0 h2; exact h2))
   clear hm Cx8
   clear act E qout HAL
   refine QSeq.pure rfl _ (fun E => ex_assign rfl (E.d 5 0)) ?_
   have Hx11 := hid ((Hx5.out.mod HMu5_4.out (fun _ _ h => h)).mod HMu5_5.out (by intro k h1 h2; omega))
   have Hx12 := hid (Hx7.out.mod HMu5_5.out (by intro h2; omega))
   clear Hx5 Hx7 HMu5_4 HMu5_5
   refine QSeq.nil (t' := [_, _, _, _, _, _, _]) rfl ?_
   obtain rfl := HA0.out
   clear HA0 oe1 oe5 oe7
   simp only [pz, Act.put, sIB, sCZ, sCS]
   have hq := Hx9.out
   rw [show l.take k ++ [l[k]] = l.take (k + 1) from (List.take_succ_eq_append_getElem hlt).symm] at hq
   have HQ := Lib.hid hq
   clear hq
   go_upto_region 6 with (fail)
   refine wp_region_U 22 [20, 10] [0, 1] (fun a0 HA0 => ?_)
   have oe10 := ev HA0 10 rfl
   refine QSeq.pure rfl (.int .i64 (((k : Nat) : Int) + 1)) (fun E => ex_binE rfl (E.y 1 oe10) rfl (guard_ints _ _ _ _ _ _) (run_add_i _ _ Try.underlying3) (congrArg (Value.int .i64) (IntWalk.i64_in _ (by have h9 := HL.out; omega)))) ?_
   refine QSeq.pure rfl _ (fun E => ex_move rfl (E.d 0 0)) ?_
   refine QSeq.nil (t' := [_, _]) rfl ?_
   obtain rfl := HA0.out
   clear HA0 oe10
   simp only [pz, Act.put, sIB, sCZ, sCS]
   go_wp2
   go_roundw
   case rel => exact ⟨k + 1, by go_num, by omega, by omega, HQ.out.widen (by intro b h1; (try dsimp only at h1 ⊢); omega) (by intro b h1; (try dsimp only at h1 ⊢); omega), ((HSL.out.mod Cx4.out (fun _ _ h => h)).mod Cx10.out (sN HBT)), ((HML.out.trans Cx4.out (fun _ _ h => h.elim)).trans Cx10.out (by intro k h1 h2; omega))⟩
   case measure => simp [intOf]; omega
  ·obtain rfl : l.length = k := by omega
   have hq := HAL.out
   rw [List.take_length] at hq
   have HQ := Lib.hid hq
   clear hq
   go_upto_region 3 with (fail)
   refine wp_region_U 22 [11] [0] (fun a0 HA0 => ?_)
   have oe9 := ev HA0 9 rfl
   have oe10 := ev HA0 10 rfl
   refine QSeq.pure rfl (.bool false) (fun E => ex_binE rfl (E.v oe10) (E.v oe9) (guard_ints _ _ _ _ _ _) (run_lss_i _ _ _ Try.underlying3) (congrArg Value.bool (decide_eq_false (by omega)))) ?_
   refine QSeq.nil (t' := [_]) rfl ?_
   obtain rfl := HA0.out
   clear HA0 oe9 oe10
   simp only [pz, Act.put, sIB, sCZ, sCS]
   go_upto_region 7 with (fail)
   refine wp_region_U 22 [21, 4] [0, 1] (fun a0 HA0 => ?_)
   have oe5 := ev HA0 5 rfl
   refine QSeq.pure rfl _ (fun E => ex_move rfl (E.v oe5)) ?_
   refine QSeq.pure rfl _ (fun E => ex_assign rfl (E.d 0 0)) ?_
   refine QSeq.nil (t' := [_, _]) rfl ?_
   obtain rfl := HA0.out
   clear HA0 oe5
   simp only [pz, Act.put, sIB, sCZ, sCS]
   go_wp2
   go_ret
   exact ⟨_, rfl, by rw [List.take_length]; exact HQ.out.rd.widen (by intro b h1; (try dsimp only at h1 ⊢); omega), HML.out⟩
set_option maxHeartbeats 4000000 in
theorem copied_Dn : CopL DnR cpNo 62 63 := by
 intro R2 l v w hs hB2 hl hP
 obtain ⟨ao, cap, rfl⟩ := hs.shape
 have HS := Lib.hid hs
 have HBT := Lib.hid hB2
 have HL := Lib.hid hl
 have HP := Lib.hid hP
 clear hs hB2 hl hP
 go_enter Try.func62, Try.ntmps62
 go_upto_region 2 with (fail)
 have HM0 := hid (Mod.refl (fun _ => False) w)
 go_upto_region 2 with (fail)
 refine wp_region_U 22 [8, 9, 10] [0, 1, 2] (fun a0 HA0 => ?_)
 have oe0 := ev HA0 0 rfl
 refine QSeq.pure rfl _ (fun E => ex_move rfl (E.v oe0)) ?_
 refine QSeq.pure rfl (.int .i64 l.length) (fun E => ex_lenS rfl (E.d 0 0) Try.underlying119) ?_
 refine QSeq.pure rfl (.int .i64 0) (fun E => ex_move rfl rfl) ?_
 refine QSeq.nil (t' := [_, _, _]) rfl ?_
 obtain rfl := HA0.out
 clear HA0 oe0
 simp only [pz, Act.put, sIB, sCZ, sCS]
 go_wp2
 go_loopw [5, 10] (fun ta ti wr => ∃ k : Nat, ti = .int .i64 (k : Int) ∧ k ≤ l.length ∧ w.heap.size ≤ wr.heap.size ∧ OwS DnR 62 (fun b => w.heap.size ≤ b ∧ b < wr.heap.size) (fun b => w.heap.size ≤ b ∧ b < wr.heap.size) wr ta (l.take k) ∧ RdS DnR R2 wr (.slice ao l.length cap) l ∧ Mod (fun _ => False) w wr) (fun _ ti _ => l.length - (intOf ti).toNat)
 case atStart => exact ⟨0, rfl, Nat.zero_le _, Nat.le_refl _, OwS.nil _ _ _ _ _, HS.out, HM0.out⟩
 case round =>
  obtain ⟨k, rfl, hk, hz, ha, hs, hm⟩ := hrel
  obtain ⟨wl, rfl⟩ : ∃ x, x = wr := ⟨_, rfl⟩
  obtain ⟨aol, capl, rfl⟩ := ha.shape
  have HAL := Lib.hid ha
  have HSL := Lib.hid hs
  have HML := Lib.hid hm
  clear ha hs hm HS HM0
  by_cases hlt : k < l.length
  ·skip
   go_upto_region 3 with (fail)
   refine wp_region_U 22 [11] [0] (fun a0 HA0 => ?_)
   have oe9 := ev HA0 9 rfl
   have oe10 := ev HA0 10 rfl
   refine QSeq.pure rfl (.bool true) (fun E => ex_binE rfl (E.v oe10) (E.v oe9) (guard_ints _ _ _ _ _ _) (run_lss_i _ _ _ Try.underlying3) (congrArg Value.bool (decide_eq_true (by omega)))) ?_
   refine QSeq.nil (t' := [_]) rfl ?_
   obtain rfl := HA0.out
   clear HA0 oe9 oe10
   simp only [pz, Act.put, sIB, sCZ, sCS]
   obtain ⟨g0, o0, cs, eao, hrg, hrd, hcs⟩ := HSL.out.at hlt
   subst eao
   have HCL := hid (show cs.length = 4 from DnR.len hrd)
   have HAT := hid (show CellsAt R2 wl g0 (o0 + k * 4) cs from ⟨hrg, hcs⟩)
   have HRD := Lib.hid hrd
   have HOC := hid (DnR.one hrd)
   have HPK := hid (HP.out _ (List.getElem_mem hlt))
   clear hrg hrd hcs
   go_upto_region 4 with (fail)
   refine wp_region_U 22 [12, 13, 7, 25] [0, 1, 2, 3] (fun a0 HA0 => ?_)
   have oe8 := ev HA0 8 rfl
   have oe10 := ev HA0 10 rfl
   refine QSeq.pure rfl (.pointer (some ⟨g0, o0 + k * 4, none⟩)) (fun E => ex_idxS (i := k) (s := 4) rfl Try.underlying119 (by kernel_rfl) (E.v oe8) (E.v oe10) (by omega)) ?_
   refine QSeq.pure rfl _ (fun E => ex_loadA rfl Try.underlying62 rfl (off := o0 + k * 4) (cs := cs) (by rw [HCL.out]; kernel_rfl) (E.d 0 0) (fun j u hu => (HAT.out).2 j u hu)) ?_
   refine QSeq.go fun act E => ?_
   refine qc_alloc rfl (wanted_none rfl) rfl (z := [.int .i64 0, .int .i64 0, .int .i64 0, .int .i64 0]) (by kernel_rfl) ?_
   intro u4_2 qq hm
   have zl4_2 := qq.lt
   have Hx1 := hid qq
   have zu4_2 := hm.size
   have Cx2 := hid (show Mod (fun _ => False) wl u4_2 from hm)
   clear hm
   clear act E qq
   refine QSeq.go fun act E => ?_
   have hlz : (cs).length = List.length ([.int .i64 0, .int .i64 0, .int .i64 0, .int .i64 0] : List Value) := (by rw [HCL.out]; rfl)
   refine qc_store rfl (wanted_none rfl) rfl Hx1.out (off := 0) (vs := cs) (by rw [hlz]; kernel_rfl) HOC.out (by rw [hlz]; exact Nat.le_of_eq (Nat.zero_add _)) (E.d 2 0) (ec (E.d 1 1)) ?_
   intro u4_3 qc0 hm
   have qq := qc0.eqv (b := (cs : List Value).toArray) (lay_whole #[.int .i64 0, .int .i64 0, .int .i64 0, .int .i64 0] _ (by rw [hlz]; rfl))
   clear qc0 hlz
   have Hx3 := hid qq
   have zu4_3 := hm.size
   have HMu4_3 := hid hm
   have Cx4 := hid (Mod.goS (S' := (fun _ => False)) Cx2.out hm (fun _ h => h) (by intro k h0 h2; omega))
   clear hm Cx2
   clear act E qq Hx1
   clear HMu4_3
   refine QSeq.nil (t' := [_, _, _, _]) rfl ?_
   obtain rfl := HA0.out
   clear HA0 oe8 oe10
   simp only [pz, Act.put, sIB, sCZ, sCS, List.set_nil]
   go_upto_region 5 with (fail)
   refine wp_region_U 22 [14, 15, 16, 17, 18, 19, 5] [0, 1, 2, 3, 4, 5, 6] (fun a0 HA0 => ?_)
   have oe1 := ev HA0 1 rfl
   have oe5 := ev HA0 5 rfl
   have oe7 := ev HA0 7 rfl
   refine QSeq.pure rfl _ (fun E => ex_move rfl (E.y 6 oe5)) ?_
   refine QSeq.pure rfl _ (fun E => ex_move rfl (E.v oe1)) ?_
   refine QSeq.pure rfl _ (fun E => ex_loadA rfl Try.underlying62 rfl (off := 0) (cs := cs) (by rw [HCL.out]; kernel_rfl) (E.v oe7) (Cs.whole Hx3.out)) ?_
   refine QSeq.go fun act E => ?_
   have ea16 : act.eval (.tmp 16) = .agg cs.toArray := (E.d 2 0)
   refine qc_call (args := #[.agg cs.toArray]) rfl (wanted_none rfl) (by rw [ex_callV rfl (E.d 1 1) Try.func63 (by kernel_rfl) (by kernel_rfl)]; exact congrArg (fun z => Result.ok (Next.enter _ z) _) (by simp only [List.map_toArray, List.map_cons, List.map_nil, ea16]; try rfl)) (same_Dn _ _ _ _ (HRD.out.mod Cx4.out (fun _ _ h => h)) (by intro k h1; have hb := HBT.out k h1; omega) HPK.out) ?_
   rintro e u5_3 ⟨cn, rfl, qnw, hm⟩
   have HCN := hid (DnR.len qnw)
   refine ⟨_, rfl, ?_⟩
   have Hx5 := hid qnw
   have zu5_3 := hm.size
   have Cx6 := hid (show Mod (fun _ => False) u4_3 u5_3 from hm)
   clear hm
   clear act E qnw ea16
   refine QSeq.go fun act E => ?_
   refine qc_buildS (e := 62) (cs := cn) (zc := [.int .i64 0, .int .i64 0, .int .i64 0, .int .i64 0]) (sz := 4) rfl (wanted_none rfl) rfl Try.underlying119 (by kernel_rfl) rfl (by decide) (by decide) (E.d 3 0) (DnR.len Hx5.out) ?_
   intro u5_4 qrow hm
   have zl5_4 := qrow.lt
   have Hx7 := hid qrow
   have zu5_4 := hm.size
   have HMu5_4 := hid hm
   have Cx8 := hid (Cx6.out.goE hm)
   clear hm Cx6
   clear act E qrow
   refine QSeq.go fun act E => ?_
   refine qc_appS (A := DnR) (e := 62) rfl (wanted_none rfl) rfl (.agg #[.int .i64 0, .int .i64 0, .int .i64 0, .int .i64 0]) 32 Try.underlying119 info_Dn (by rfl) (of_decide_eq_true (by kernel_rfl)) (E.d 0 4) (E.d 4 0) (((HAL.out.mod Cx4.out (fun _ _ h => h) (fun _ _ h => h)).mod Cx8.out (fun _ _ h => h) (fun _ _ h => h))) (RdS.single (R := (fun k => (New u4_3 u5_3 k) ∨ (k = u5_3.heap.size))) Hx7.out ((Hx5.out.mod HMu5_4.out (fun _ _ h => h)).widen (by intro k h1; first | omega | exact h1.elim | exact Or.inl h1 | exact Or.inr (h1))) (by right; rfl)) (by intro k h1 h2; omega) (by have h9 := HL.out; rw [List.length_take]; simp only [List.length_cons, List.length_nil]; omega) (by have h9 := HL.out; rw [List.length_take]; simp only [List.length_cons, List.length_nil]; rw [maxLen_val]; omega) ?_
   intro ao5 cap5 u5_5 qout hm
   have Hx9 := hid (qout.widen (R' := (fun k => (New w wl k) ∨ (New u5_4 u5_5 k))) (E' := (fun k => (New w wl k) ∨ (New u4_3 u5_3 k) ∨ (k = u5_3.heap.size))) (fun _ h => h) (by intro k h1; rcases h1 with h1 | (h1 | h1) <;> first | omega | exact h1.elim | exact Or.inl h1 | exact Or.inr (Or.inl h1) | exact Or.inr (Or.inr (h1))))
   have zu5_5 := hm.size
   have HMu5_5 := hid hm
   have Cx10 := hid (Mod.goS (S' := (fun k => (New w wl k))) Cx8.out hm (fun _ h => h.elim) (by intro k h0 h2; exact h2))
   clear hm Cx8
   clear act E qout HAL
   refine QSeq.pure rfl _ (fun E => ex_assign rfl (E.d 5 0)) ?_
   have Hx11 := hid ((Hx5.out.mod HMu5_4.out (fun _ _ h => h)).mod HMu5_5.out (by intro k h1 h2; omega))
   have Hx12 := hid (Hx7.out.mod HMu5_5.out (by intro h2; omega))
   clear Hx5 Hx7 HMu5_4 HMu5_5
   refine QSeq.nil (t' := [_, _, _, _, _, _, _]) rfl ?_
   obtain rfl := HA0.out
   clear HA0 oe1 oe5 oe7
   simp only [pz, Act.put, sIB, sCZ, sCS]
   have hq := Hx9.out
   rw [show l.take k ++ [l[k]] = l.take (k + 1) from (List.take_succ_eq_append_getElem hlt).symm] at hq
   have HQ := Lib.hid hq
   clear hq
   go_upto_region 6 with (fail)
   refine wp_region_U 22 [20, 10] [0, 1] (fun a0 HA0 => ?_)
   have oe10 := ev HA0 10 rfl
   refine QSeq.pure rfl (.int .i64 (((k : Nat) : Int) + 1)) (fun E => ex_binE rfl (E.y 1 oe10) rfl (guard_ints _ _ _ _ _ _) (run_add_i _ _ Try.underlying3) (congrArg (Value.int .i64) (IntWalk.i64_in _ (by have h9 := HL.out; omega)))) ?_
   refine QSeq.pure rfl _ (fun E => ex_move rfl (E.d 0 0)) ?_
   refine QSeq.nil (t' := [_, _]) rfl ?_
   obtain rfl := HA0.out
   clear HA0 oe10
   simp only [pz, Act.put, sIB, sCZ, sCS]
   go_wp2
   go_roundw
   case rel => exact ⟨k + 1, by go_num, by omega, by omega, HQ.out.widen (by intro b h1; (try dsimp only at h1 ⊢); omega) (by intro b h1; (try dsimp only at h1 ⊢); omega), ((HSL.out.mod Cx4.out (fun _ _ h => h)).mod Cx10.out (sN HBT)), ((HML.out.trans Cx4.out (fun _ _ h => h.elim)).trans Cx10.out (by intro k h1 h2; omega))⟩
   case measure => simp [intOf]; omega
  ·obtain rfl : l.length = k := by omega
   have hq := HAL.out
   rw [List.take_length] at hq
   have HQ := Lib.hid hq
   clear hq
   go_upto_region 3 with (fail)
   refine wp_region_U 22 [11] [0] (fun a0 HA0 => ?_)
   have oe9 := ev HA0 9 rfl
   have oe10 := ev HA0 10 rfl
   refine QSeq.pure rfl (.bool false) (fun E => ex_binE rfl (E.v oe10) (E.v oe9) (guard_ints _ _ _ _ _ _) (run_lss_i _ _ _ Try.underlying3) (congrArg Value.bool (decide_eq_false (by omega)))) ?_
   refine QSeq.nil (t' := [_]) rfl ?_
   obtain rfl := HA0.out
   clear HA0 oe9 oe10
   simp only [pz, Act.put, sIB, sCZ, sCS]
   go_upto_region 7 with (fail)
   refine wp_region_U 22 [21, 4] [0, 1] (fun a0 HA0 => ?_)
   have oe5 := ev HA0 5 rfl
   refine QSeq.pure rfl _ (fun E => ex_move rfl (E.v oe5)) ?_
   refine QSeq.pure rfl _ (fun E => ex_assign rfl (E.d 0 0)) ?_
   refine QSeq.nil (t' := [_, _]) rfl ?_
   obtain rfl := HA0.out
   clear HA0 oe5
   simp only [pz, Act.put, sIB, sCZ, sCS]
   go_wp2
   go_ret
   exact ⟨_, rfl, by rw [List.take_length]; exact HQ.out.rd.widen (by intro b h1; (try dsimp only at h1 ⊢); omega), HML.out⟩
set_option maxHeartbeats 4000000 in
theorem copied_Vt : CopL VtR cpNo 38 39 := by
 intro R2 l v w hs hB2 hl hP
 obtain ⟨ao, cap, rfl⟩ := hs.shape
 have HS := Lib.hid hs
 have HBT := Lib.hid hB2
 have HL := Lib.hid hl
 have HP := Lib.hid hP
 clear hs hB2 hl hP
 go_enter Try.func38, Try.ntmps38
 go_upto_region 2 with (fail)
 have HM0 := hid (Mod.refl (fun _ => False) w)
 go_upto_region 2 with (fail)
 refine wp_region_U 22 [8, 9, 10] [0, 1, 2] (fun a0 HA0 => ?_)
 have oe0 := ev HA0 0 rfl
 refine QSeq.pure rfl _ (fun E => ex_move rfl (E.v oe0)) ?_
 refine QSeq.pure rfl (.int .i64 l.length) (fun E => ex_lenS rfl (E.d 0 0) Try.underlying63) ?_
 refine QSeq.pure rfl (.int .i64 0) (fun E => ex_move rfl rfl) ?_
 refine QSeq.nil (t' := [_, _, _]) rfl ?_
 obtain rfl := HA0.out
 clear HA0 oe0
 simp only [pz, Act.put, sIB, sCZ, sCS]
 go_wp2
 go_loopw [5, 10] (fun ta ti wr => ∃ k : Nat, ti = .int .i64 (k : Int) ∧ k ≤ l.length ∧ w.heap.size ≤ wr.heap.size ∧ OwS VtR 55 (fun b => w.heap.size ≤ b ∧ b < wr.heap.size) (fun b => w.heap.size ≤ b ∧ b < wr.heap.size) wr ta (l.take k) ∧ RdS VtR R2 wr (.slice ao l.length cap) l ∧ Mod (fun _ => False) w wr) (fun _ ti _ => l.length - (intOf ti).toNat)
 case atStart => exact ⟨0, rfl, Nat.zero_le _, Nat.le_refl _, OwS.nil _ _ _ _ _, HS.out, HM0.out⟩
 case round =>
  obtain ⟨k, rfl, hk, hz, ha, hs, hm⟩ := hrel
  obtain ⟨wl, rfl⟩ : ∃ x, x = wr := ⟨_, rfl⟩
  obtain ⟨aol, capl, rfl⟩ := ha.shape
  have HAL := Lib.hid ha
  have HSL := Lib.hid hs
  have HML := Lib.hid hm
  clear ha hs hm HS HM0
  by_cases hlt : k < l.length
  ·skip
   go_upto_region 3 with (fail)
   refine wp_region_U 22 [11] [0] (fun a0 HA0 => ?_)
   have oe9 := ev HA0 9 rfl
   have oe10 := ev HA0 10 rfl
   refine QSeq.pure rfl (.bool true) (fun E => ex_binE rfl (E.v oe10) (E.v oe9) (guard_ints _ _ _ _ _ _) (run_lss_i _ _ _ Try.underlying3) (congrArg Value.bool (decide_eq_true (by omega)))) ?_
   refine QSeq.nil (t' := [_]) rfl ?_
   obtain rfl := HA0.out
   clear HA0 oe9 oe10
   simp only [pz, Act.put, sIB, sCZ, sCS]
   obtain ⟨g0, o0, cs, eao, hrg, hrd, hcs⟩ := HSL.out.at hlt
   subst eao
   have HCL := hid (show cs.length = 38 from VtR.len hrd)
   have HAT := hid (show CellsAt R2 wl g0 (o0 + k * 38) cs from ⟨hrg, hcs⟩)
   have HRD := Lib.hid hrd
   have HOC := hid (VtR.one hrd)
   have HPK := hid (HP.out _ (List.getElem_mem hlt))
   clear hrg hrd hcs
   go_upto_region 4 with (fail)
   refine wp_region_U 22 [12, 13, 7, 25] [0, 1, 2, 3] (fun a0 HA0 => ?_)
   have oe8 := ev HA0 8 rfl
   have oe10 := ev HA0 10 rfl
   refine QSeq.pure rfl (.pointer (some ⟨g0, o0 + k * 38, none⟩)) (fun E => ex_idxS (i := k) (s := 38) rfl Try.underlying63 (by kernel_rfl) (E.v oe8) (E.v oe10) (by omega)) ?_
   refine QSeq.pure rfl _ (fun E => ex_loadA rfl Try.underlying55 rfl (off := o0 + k * 38) (cs := cs) (by rw [HCL.out]; kernel_rfl) (E.d 0 0) (fun j u hu => (HAT.out).2 j u hu)) ?_
   refine QSeq.go fun act E => ?_
   refine qc_alloc rfl (wanted_none rfl) rfl (z := [.int .i64 0, .int .i64 0, .int .i64 0, .int .i64 0, .int .u8 0, .int .u8 0, .int .u8 0, .int .u8 0, .int .u8 0, .int .u8 0, .int .u8 0, .int .u8 0, .int .u8 0, .int .u8 0, .int .u8 0, .int .u8 0, .int .u8 0, .int .u8 0, .int .u8 0, .int .u8 0, .int .u8 0, .int .u8 0, .int .u8 0, .int .u8 0, .int .u8 0, .int .u8 0, .int .u8 0, .int .u8 0, .int .u8 0, .int .u8 0, .int .u8 0, .int .u8 0, .int .u8 0, .int .u8 0, .int .u8 0, .int .u8 0, .int .i64 0, .int .i64 0]) (by kernel_rfl) ?_
   intro u4_2 qq hm
   have zl4_2 := qq.lt
   have Hx1 := hid qq
   have zu4_2 := hm.size
   have Cx2 := hid (show Mod (fun _ => False) wl u4_2 from hm)
   clear hm
   clear act E qq
   refine QSeq.go fun act E => ?_
   have hlz : (cs).length = List.length ([.int .i64 0, .int .i64 0, .int .i64 0, .int .i64 0, .int .u8 0, .int .u8 0, .int .u8 0, .int .u8 0, .int .u8 0, .int .u8 0, .int .u8 0, .int .u8 0, .int .u8 0, .int .u8 0, .int .u8 0, .int .u8 0, .int .u8 0, .int .u8 0, .int .u8 0, .int .u8 0, .int .u8 0, .int .u8 0, .int .u8 0, .int .u8 0, .int .u8 0, .int .u8 0, .int .u8 0, .int .u8 0, .int .u8 0, .int .u8 0, .int .u8 0, .int .u8 0, .int .u8 0, .int .u8 0, .int .u8 0, .int .u8 0, .int .i64 0, .int .i64 0] : List Value) := (by rw [HCL.out]; rfl)
   refine qc_store rfl (wanted_none rfl) rfl Hx1.out (off := 0) (vs := cs) (by rw [hlz]; kernel_rfl) HOC.out (by rw [hlz]; exact Nat.le_of_eq (Nat.zero_add _)) (E.d 2 0) (ec (E.d 1 1)) ?_
   intro u4_3 qc0 hm
   have qq := qc0.eqv (b := (cs : List Value).toArray) (lay_whole #[.int .i64 0, .int .i64 0, .int .i64 0, .int .i64 0, .int .u8 0, .int .u8 0, .int .u8 0, .int .u8 0, .int .u8 0, .int .u8 0, .int .u8 0, .int .u8 0, .int .u8 0, .int .u8 0, .int .u8 0, .int .u8 0, .int .u8 0, .int .u8 0, .int .u8 0, .int .u8 0, .int .u8 0, .int .u8 0, .int .u8 0, .int .u8 0, .int .u8 0, .int .u8 0, .int .u8 0, .int .u8 0, .int .u8 0, .int .u8 0, .int .u8 0, .int .u8 0, .int .u8 0, .int .u8 0, .int .u8 0, .int .u8 0, .int .i64 0, .int .i64 0] _ (by rw [hlz]; rfl))
   clear qc0 hlz
   have Hx3 := hid qq
   have zu4_3 := hm.size
   have HMu4_3 := hid hm
   have Cx4 := hid (Mod.goS (S' := (fun _ => False)) Cx2.out hm (fun _ h => h) (by intro k h0 h2; omega))
   clear hm Cx2
   clear act E qq Hx1
   clear HMu4_3
   refine QSeq.nil (t' := [_, _, _, _]) rfl ?_
   obtain rfl := HA0.out
   clear HA0 oe8 oe10
   simp only [pz, Act.put, sIB, sCZ, sCS, List.set_nil]
   go_upto_region 5 with (fail)
   refine wp_region_U 22 [14, 15, 16, 17, 18, 19, 5] [0, 1, 2, 3, 4, 5, 6] (fun a0 HA0 => ?_)
   have oe1 := ev HA0 1 rfl
   have oe5 := ev HA0 5 rfl
   have oe7 := ev HA0 7 rfl
   refine QSeq.pure rfl _ (fun E => ex_move rfl (E.y 6 oe5)) ?_
   refine QSeq.pure rfl _ (fun E => ex_move rfl (E.v oe1)) ?_
   refine QSeq.pure rfl _ (fun E => ex_loadA rfl Try.underlying55 rfl (off := 0) (cs := cs) (by rw [HCL.out]; kernel_rfl) (E.v oe7) (Cs.whole Hx3.out)) ?_
   refine QSeq.go fun act E => ?_
   have ea16 : act.eval (.tmp 16) = .agg cs.toArray := (E.d 2 0)
   refine qc_call (args := #[.agg cs.toArray]) rfl (wanted_none rfl) (by rw [ex_callV rfl (E.d 1 1) Try.func39 (by kernel_rfl) (by kernel_rfl)]; exact congrArg (fun z => Result.ok (Next.enter _ z) _) (by simp only [List.map_toArray, List.map_cons, List.map_nil, ea16]; try rfl)) (same_Vt _ _ _ _ (HRD.out.mod Cx4.out (fun _ _ h => h)) (by intro k h1; have hb := HBT.out k h1; omega) HPK.out) ?_
   rintro e u5_3 ⟨cn, rfl, qnw, hm⟩
   have HCN := hid (VtR.len qnw)
   refine ⟨_, rfl, ?_⟩
   have Hx5 := hid qnw
   have zu5_3 := hm.size
   have Cx6 := hid (show Mod (fun _ => False) u4_3 u5_3 from hm)
   clear hm
   clear act E qnw ea16
   refine QSeq.go fun act E => ?_
   refine qc_buildS (e := 55) (cs := cn) (zc := [.int .i64 0, .int .i64 0, .int .i64 0, .int .i64 0, .int .u8 0, .int .u8 0, .int .u8 0, .int .u8 0, .int .u8 0, .int .u8 0, .int .u8 0, .int .u8 0, .int .u8 0, .int .u8 0, .int .u8 0, .int .u8 0, .int .u8 0, .int .u8 0, .int .u8 0, .int .u8 0, .int .u8 0, .int .u8 0, .int .u8 0, .int .u8 0, .int .u8 0, .int .u8 0, .int .u8 0, .int .u8 0, .int .u8 0, .int .u8 0, .int .u8 0, .int .u8 0, .int .u8 0, .int .u8 0, .int .u8 0, .int .u8 0, .int .i64 0, .int .i64 0]) (sz := 38) rfl (wanted_none rfl) rfl Try.underlying63 (by kernel_rfl) rfl (by decide) (by decide) (E.d 3 0) (VtR.len Hx5.out) ?_
   intro u5_4 qrow hm
   have zl5_4 := qrow.lt
   have Hx7 := hid qrow
   have zu5_4 := hm.size
   have HMu5_4 := hid hm
   have Cx8 := hid (Cx6.out.goE hm)
   clear hm Cx6
   clear act E qrow
   refine QSeq.go fun act E => ?_
   refine qc_appS (A := VtR) (e := 55) rfl (wanted_none rfl) rfl (.agg #[.int .i64 0, .int .i64 0, .int .i64 0, .int .i64 0, .int .u8 0, .int .u8 0, .int .u8 0, .int .u8 0, .int .u8 0, .int .u8 0, .int .u8 0, .int .u8 0, .int .u8 0, .int .u8 0, .int .u8 0, .int .u8 0, .int .u8 0, .int .u8 0, .int .u8 0, .int .u8 0, .int .u8 0, .int .u8 0, .int .u8 0, .int .u8 0, .int .u8 0, .int .u8 0, .int .u8 0, .int .u8 0, .int .u8 0, .int .u8 0, .int .u8 0, .int .u8 0, .int .u8 0, .int .u8 0, .int .u8 0, .int .u8 0, .int .i64 0, .int .i64 0]) 80 Try.underlying63 info_VtC (by rfl) (of_decide_eq_true (by kernel_rfl)) (E.d 0 4) (E.d 4 0) (((HAL.out.mod Cx4.out (fun _ _ h => h) (fun _ _ h => h)).mod Cx8.out (fun _ _ h => h) (fun _ _ h => h))) (RdS.single (R := (fun k => (New u4_3 u5_3 k) ∨ (k = u5_3.heap.size))) Hx7.out ((Hx5.out.mod HMu5_4.out (fun _ _ h => h)).widen (by intro k h1; first | omega | exact h1.elim | exact Or.inl h1 | exact Or.inr (h1))) (by right; rfl)) (by intro k h1 h2; omega) (by have h9 := HL.out; rw [List.length_take]; simp only [List.length_cons, List.length_nil]; omega) (by have h9 := HL.out; rw [List.length_take]; simp only [List.length_cons, List.length_nil]; rw [maxLen_val]; omega) ?_
   intro ao5 cap5 u5_5 qout hm
   have Hx9 := hid (qout.widen (R' := (fun k => (New w wl k) ∨ (New u5_4 u5_5 k))) (E' := (fun k => (New w wl k) ∨ (New u4_3 u5_3 k) ∨ (k = u5_3.heap.size))) (fun _ h => h) (by intro k h1; rcases h1 with h1 | (h1 | h1) <;> first | omega | exact h1.elim | exact Or.inl h1 | exact Or.inr (Or.inl h1) | exact Or.inr (Or.inr (h1))))
   have zu5_5 := hm.size
   have HMu5_5 := hid hm
   have Cx10 := hid (Mod.goS (S' := (fun k => (New w wl k))) Cx8.out hm (fun _ h => h.elim) (by intro k h0 h2; exact h2))
   clear hm Cx8
   clear act E qout HAL
   refine QSeq.pure rfl _ (fun E => ex_assign rfl (E.d 5 0)) ?_
   have Hx11 := hid ((Hx5.out.mod HMu5_4.out (fun _ _ h => h)).mod HMu5_5.out (by intro k h1 h2; omega))
   have Hx12 := hid (Hx7.out.mod HMu5_5.out (by intro h2; omega))
   clear Hx5 Hx7 HMu5_4 HMu5_5
   refine QSeq.nil (t' := [_, _, _, _, _, _, _]) rfl ?_
   obtain rfl := HA0.out
   clear HA0 oe1 oe5 oe7
   simp only [pz, Act.put, sIB, sCZ, sCS]
   have hq := Hx9.out
   rw [show l.take k ++ [l[k]] = l.take (k + 1) from (List.take_succ_eq_append_getElem hlt).symm] at hq
   have HQ := Lib.hid hq
   clear hq
   go_upto_region 6 with (fail)
   refine wp_region_U 22 [20, 10] [0, 1] (fun a0 HA0 => ?_)
   have oe10 := ev HA0 10 rfl
   refine QSeq.pure rfl (.int .i64 (((k : Nat) : Int) + 1)) (fun E => ex_binE rfl (E.y 1 oe10) rfl (guard_ints _ _ _ _ _ _) (run_add_i _ _ Try.underlying3) (congrArg (Value.int .i64) (IntWalk.i64_in _ (by have h9 := HL.out; omega)))) ?_
   refine QSeq.pure rfl _ (fun E => ex_move rfl (E.d 0 0)) ?_
   refine QSeq.nil (t' := [_, _]) rfl ?_
   obtain rfl := HA0.out
   clear HA0 oe10
   simp only [pz, Act.put, sIB, sCZ, sCS]
   go_wp2
   go_roundw
   case rel => exact ⟨k + 1, by go_num, by omega, by omega, HQ.out.widen (by intro b h1; (try dsimp only at h1 ⊢); omega) (by intro b h1; (try dsimp only at h1 ⊢); omega), ((HSL.out.mod Cx4.out (fun _ _ h => h)).mod Cx10.out (sN HBT)), ((HML.out.trans Cx4.out (fun _ _ h => h.elim)).trans Cx10.out (by intro k h1 h2; omega))⟩
   case measure => simp [intOf]; omega
  ·obtain rfl : l.length = k := by omega
   have hq := HAL.out
   rw [List.take_length] at hq
   have HQ := Lib.hid hq
   clear hq
   go_upto_region 3 with (fail)
   refine wp_region_U 22 [11] [0] (fun a0 HA0 => ?_)
   have oe9 := ev HA0 9 rfl
   have oe10 := ev HA0 10 rfl
   refine QSeq.pure rfl (.bool false) (fun E => ex_binE rfl (E.v oe10) (E.v oe9) (guard_ints _ _ _ _ _ _) (run_lss_i _ _ _ Try.underlying3) (congrArg Value.bool (decide_eq_false (by omega)))) ?_
   refine QSeq.nil (t' := [_]) rfl ?_
   obtain rfl := HA0.out
   clear HA0 oe9 oe10
   simp only [pz, Act.put, sIB, sCZ, sCS]
   go_upto_region 7 with (fail)
   refine wp_region_U 22 [21, 4] [0, 1] (fun a0 HA0 => ?_)
   have oe5 := ev HA0 5 rfl
   refine QSeq.pure rfl _ (fun E => ex_move rfl (E.v oe5)) ?_
   refine QSeq.pure rfl _ (fun E => ex_assign rfl (E.d 0 0)) ?_
   refine QSeq.nil (t' := [_, _]) rfl ?_
   obtain rfl := HA0.out
   clear HA0 oe5
   simp only [pz, Act.put, sIB, sCZ, sCS]
   go_wp2
   go_ret
   exact ⟨_, rfl, by rw [List.take_length]; exact HQ.out.rd.widen (by intro b h1; (try dsimp only at h1 ⊢); omega), HML.out⟩
set_option maxHeartbeats 4000000 in
theorem cop_Ce : CopR CeR cpCe 34 := by
 intro R2 x cs w hx hB2 hP
 obtain ⟨v_l, rfl, hok, hs0⟩ := hx
 obtain ⟨ao, cap, rfl⟩ := hs0.shape
 have HS := Lib.hid hs0
 have HBT := Lib.hid hB2
 have HOK := Lib.hid hok
 have HP := Lib.hid hP
 clear hs0 hB2 hok hP
 go_enter Try.func34, Try.ntmps34
 go_upto_region 1 with (fail)
 obtain ⟨w1, hw1⟩ : ∃ zz, zz = ((w.alloc (.cells (x.cells (.slice ao x.l.length cap) : List Value).toArray 41)).alloc (.cells #[.int .i64 0, .int .i64 0, .int .u8 0, .int .u8 0, .int .u8 0, .int .u8 0, .int .u8 0, .int .u8 0, .int .u8 0, .int .u8 0, .int .u8 0, .int .u8 0, .int .u8 0, .int .u8 0, .int .u8 0, .int .u8 0, .int .u8 0, .int .u8 0, .int .u8 0, .int .u8 0, .int .u8 0, .int .u8 0, .int .u8 0, .int .u8 0, .int .u8 0, .int .u8 0, .int .u8 0, .int .u8 0, .int .u8 0, .int .u8 0, .int .u8 0, .int .u8 0, .int .u8 0, .int .u8 0, .int .i64 0, .int .i64 0, .int .i64 0, .slice none 0 0] 41)) := ⟨_, rfl⟩
 change Code.wp _ _ _ _ ((w.alloc (.cells (x.cells (.slice ao x.l.length cap) : List Value).toArray 41)).alloc (.cells #[.int .i64 0, .int .i64 0, .int .u8 0, .int .u8 0, .int .u8 0, .int .u8 0, .int .u8 0, .int .u8 0, .int .u8 0, .int .u8 0, .int .u8 0, .int .u8 0, .int .u8 0, .int .u8 0, .int .u8 0, .int .u8 0, .int .u8 0, .int .u8 0, .int .u8 0, .int .u8 0, .int .u8 0, .int .u8 0, .int .u8 0, .int .u8 0, .int .u8 0, .int .u8 0, .int .u8 0, .int .u8 0, .int .u8 0, .int .u8 0, .int .u8 0, .int .u8 0, .int .u8 0, .int .u8 0, .int .i64 0, .int .i64 0, .int .i64 0, .slice none 0 0] 41))
 rw [← hw1]
 have HB1 := hid (show Cs w1 (w.heap.size) (x.cells (.slice ao x.l.length cap) : List Value).toArray 41 by rw [hw1]; exact (Cs.new _ _ _).alloc _)
 have HB2 := hid (show Cs w1 (w.heap.size + 1) #[.int .i64 0, .int .i64 0, .int .u8 0, .int .u8 0, .int .u8 0, .int .u8 0, .int .u8 0, .int .u8 0, .int .u8 0, .int .u8 0, .int .u8 0, .int .u8 0, .int .u8 0, .int .u8 0, .int .u8 0, .int .u8 0, .int .u8 0, .int .u8 0, .int .u8 0, .int .u8 0, .int .u8 0, .int .u8 0, .int .u8 0, .int .u8 0, .int .u8 0, .int .u8 0, .int .u8 0, .int .u8 0, .int .u8 0, .int .u8 0, .int .u8 0, .int .u8 0, .int .u8 0, .int .u8 0, .int .i64 0, .int .i64 0, .int .i64 0, .slice none 0 0] 41 by rw [hw1]; exact Cs_newN _ _ _ (by simp))
 have hm : Mod (fun _ => False) w w1 := by rw [hw1]; exact ((Mod.refl _ _).alloc _).alloc _
 have HM0 := hid (show Mod (fun _ => False) w w1 from hm.mono (fun _ _ h => h.elim))
 have hs1 : w1.heap.size = w.heap.size + 2 := by rw [hw1]; simp
 have Hx1 := hid (HS.out.mod hm (fun _ _ h => h))
 clear HS
 clear hw1 hm
 go_upto_region 1 with (fail)
 refine wp_region_U 8 [3, 4, 5, 6, 12] [0, 1, 2, 3, 4] (fun a0 HA0 => ?_)
 have oe1 := ev HA0 1 rfl
 refine QSeq.pure rfl (.pointer (some ⟨w.heap.size, 37, none⟩)) (fun E => ex_field rfl Try.underlying41 rfl (by kernel_rfl) (E.v oe1)) ?_
 refine QSeq.pure rfl _ (fun E => ex_load1 rfl Try.underlying39 rfl (E.d 0 0) (Cs.post1 (pre := []) (mid := x.c.cells) (post := [.slice ao x.l.length cap]) (m := 37) (k := 0) HB1.out (Cm.len HOK.out.2.1) rfl rfl)) ?_
 refine QSeq.call rfl rfl Try.func50 (copied_St _ x.l _ _ Hx1.out (by intro k h1; have hb := HBT.out k h1; omega) HP.out (fun _ _ => trivial)) (fun E => args2 (E.d 1 0) rfl) ?_
 rintro e u1_2 ⟨vo, rfl, qo, hm⟩
 obtain ⟨ao_o, cap_o, rfl⟩ := qo.shape
 refine ⟨_, rfl, ?_⟩
 have Hx2 := hid qo
 have zu1_2 := hm.size
 have Cx3 := hid (show Mod (fun _ => False) w1 u1_2 from hm)
 clear hm
 clear qo
 refine QSeq.pure rfl (.pointer (some ⟨w.heap.size, 37, none⟩)) (fun E => ex_field rfl Try.underlying41 rfl (by kernel_rfl) (E.v oe1)) ?_
 refine QSeq.go fun act E => ?_
 refine qc_store rfl (wanted_none rfl) rfl (HB1.out.mod Cx3.out (fun h => h)) (off := 37) (vs := [Value.slice ao_o x.l.length cap_o]) (by kernel_rfl) one1 (by simp [Ce.cells, Cm.len HOK.out.2.1]) (E.d 3 0) (ec (E.d 2 1)) ?_
 intro u1_4 qc0 hm
 have qB1 := qc0.eqv (b := ((x.c.cells ++ [Value.slice ao_o x.l.length cap_o]) : List Value).toArray) (lay_l x.c _ _ HOK.out.2.1)
 clear qc0
 have Hx4 := hid qB1
 have zu1_4 := hm.size
 have HMu1_4 := hid hm
 have Cx5 := hid (Mod.goS (S' := (fun k => (k = w.heap.size))) Cx3.out hm (fun _ h => h.elim) (by intro k h0 h2; exact h2))
 clear hm Cx3
 clear act E qB1 HB1
 have Hx6 := hid (Hx2.out.mod HMu1_4.out (by intro k h1 h2; omega))
 clear Hx2 HMu1_4
 refine QSeq.nil (t' := [_, _, _, _, _]) rfl ?_
 obtain rfl := HA0.out
 clear HA0 oe1
 simp only [pz, Act.put, sIB, sCZ, sCS, List.set_nil]
 go_upto_region 2 with (fail)
 refine wp_region_U 8 [7, 9] [0, 1] (fun a0 HA0 => ?_)
 have oe1 := ev HA0 1 rfl
 have oe2 := ev HA0 2 rfl
 refine QSeq.pure rfl _ (fun E => ex_loadA rfl Try.underlying41 rfl (off := 0) (cs := (x.c.cells ++ [Value.slice ao_o x.l.length cap_o])) (by rw [List.length_append, Cm.len HOK.out.2.1]; exact size_ce) (E.v oe1) (Cs.whole Hx4.out)) ?_
 refine QSeq.go fun act E => ?_
 refine qc_store rfl (wanted_none rfl) rfl (HB2.out.mod Cx5.out (by intro h2; omega)) (off := 0) (vs := (x.c.cells ++ [Value.slice ao_o x.l.length cap_o])) (by rw [List.length_append, Cm.len HOK.out.2.1]; exact size_ce) (one_ce _ _ rfl) (by simp [Cm.len HOK.out.2.1]) (E.v oe2) (ec (E.d 0 0)) ?_
 intro u2_1 qc0 hm
 have qB2 := qc0.eqv (b := ((x.c.cells ++ [Value.slice ao_o x.l.length cap_o]) : List Value).toArray) (lay_whole _ _ (by simp [Cm.len HOK.out.2.1]))
 clear qc0
 have Hx7 := hid qB2
 have zu2_1 := hm.size
 have Cx8 := hid (show Mod (fun k => (k = w.heap.size + 1)) u1_4 u2_1 from hm)
 clear hm
 clear act E qB2 HB2
 refine QSeq.nil (t' := [_, _]) rfl ?_
 obtain rfl := HA0.out
 clear HA0 oe1 oe2
 simp only [pz, Act.put, sIB, sCZ, sCS, List.set_nil]
 go_wp2
 exact bodyPost_ret (results_cellA rfl _ _ (w.heap.size + 1) (x.c.cells ++ [Value.slice ao_o x.l.length cap_o]) rfl (fun k u hu => by rw [Hx7.out.cell]; simpa using hu) Try.underlying41 rfl (by rw [List.length_append, Cm.len HOK.out.2.1]; exact size_ce)) rfl ⟨_, rfl, ⟨_, rfl, HOK.out, (Hx6.out.mod Cx8.out (by intro k h1 h2; omega)).widen (by intro k h1; omega)⟩, ((HM0.out.trans Cx5.out (by intro k h1 h2; omega)).trans Cx8.out (by intro k h1 h2; omega))⟩
set_option maxHeartbeats 4000000 in
theorem copied_Ce : CopL CeR cpCe 52 34 := by
 intro R2 l v w hs hB2 hl hP
 obtain ⟨ao, cap, rfl⟩ := hs.shape
 have HS := Lib.hid hs
 have HBT := Lib.hid hB2
 have HL := Lib.hid hl
 have HP := Lib.hid hP
 clear hs hB2 hl hP
 go_enter Try.func52, Try.ntmps52
 go_upto_region 2 with (fail)
 have HM0 := hid (Mod.refl (fun _ => False) w)
 go_upto_region 2 with (fail)
 refine wp_region_U 22 [8, 9, 10] [0, 1, 2] (fun a0 HA0 => ?_)
 have oe0 := ev HA0 0 rfl
 refine QSeq.pure rfl _ (fun E => ex_move rfl (E.v oe0)) ?_
 refine QSeq.pure rfl (.int .i64 l.length) (fun E => ex_lenS rfl (E.d 0 0) Try.underlying44) ?_
 refine QSeq.pure rfl (.int .i64 0) (fun E => ex_move rfl rfl) ?_
 refine QSeq.nil (t' := [_, _, _]) rfl ?_
 obtain rfl := HA0.out
 clear HA0 oe0
 simp only [pz, Act.put, sIB, sCZ, sCS]
 go_wp2
 go_loopw [5, 10] (fun ta ti wr => ∃ k : Nat, ti = .int .i64 (k : Int) ∧ k ≤ l.length ∧ w.heap.size ≤ wr.heap.size ∧ OwS CeR 41 (fun b => w.heap.size ≤ b ∧ b < wr.heap.size) (fun b => w.heap.size ≤ b ∧ b < wr.heap.size) wr ta (l.take k) ∧ RdS CeR R2 wr (.slice ao l.length cap) l ∧ Mod (fun _ => False) w wr) (fun _ ti _ => l.length - (intOf ti).toNat)
 case atStart => exact ⟨0, rfl, Nat.zero_le _, Nat.le_refl _, OwS.nil _ _ _ _ _, HS.out, HM0.out⟩
 case round =>
  obtain ⟨k, rfl, hk, hz, ha, hs, hm⟩ := hrel
  obtain ⟨wl, rfl⟩ : ∃ x, x = wr := ⟨_, rfl⟩
  obtain ⟨aol, capl, rfl⟩ := ha.shape
  have HAL := Lib.hid ha
  have HSL := Lib.hid hs
  have HML := Lib.hid hm
  clear ha hs hm HS HM0
  by_cases hlt : k < l.length
  ·skip
   go_upto_region 3 with (fail)
   refine wp_region_U 22 [11] [0] (fun a0 HA0 => ?_)
   have oe9 := ev HA0 9 rfl
   have oe10 := ev HA0 10 rfl
   refine QSeq.pure rfl (.bool true) (fun E => ex_binE rfl (E.v oe10) (E.v oe9) (guard_ints _ _ _ _ _ _) (run_lss_i _ _ _ Try.underlying3) (congrArg Value.bool (decide_eq_true (by omega)))) ?_
   refine QSeq.nil (t' := [_]) rfl ?_
   obtain rfl := HA0.out
   clear HA0 oe9 oe10
   simp only [pz, Act.put, sIB, sCZ, sCS]
   obtain ⟨g0, o0, cs, eao, hrg, hrd, hcs⟩ := HSL.out.at hlt
   subst eao
   have HCL := hid (show cs.length = 38 from CeR.len hrd)
   have HAT := hid (show CellsAt R2 wl g0 (o0 + k * 38) cs from ⟨hrg, hcs⟩)
   have HRD := Lib.hid hrd
   have HOC := hid (CeR.one hrd)
   have HPK := hid (HP.out _ (List.getElem_mem hlt))
   clear hrg hrd hcs
   go_upto_region 4 with (fail)
   refine wp_region_U 22 [12, 13, 7, 25] [0, 1, 2, 3] (fun a0 HA0 => ?_)
   have oe8 := ev HA0 8 rfl
   have oe10 := ev HA0 10 rfl
   refine QSeq.pure rfl (.pointer (some ⟨g0, o0 + k * 38, none⟩)) (fun E => ex_idxS (i := k) (s := 38) rfl Try.underlying44 (by kernel_rfl) (E.v oe8) (E.v oe10) (by omega)) ?_
   refine QSeq.pure rfl _ (fun E => ex_loadA rfl Try.underlying41 rfl (off := o0 + k * 38) (cs := cs) (by rw [HCL.out]; kernel_rfl) (E.d 0 0) (fun j u hu => (HAT.out).2 j u hu)) ?_
   refine QSeq.go fun act E => ?_
   refine qc_alloc rfl (wanted_none rfl) rfl (z := [.int .i64 0, .int .i64 0, .int .u8 0, .int .u8 0, .int .u8 0, .int .u8 0, .int .u8 0, .int .u8 0, .int .u8 0, .int .u8 0, .int .u8 0, .int .u8 0, .int .u8 0, .int .u8 0, .int .u8 0, .int .u8 0, .int .u8 0, .int .u8 0, .int .u8 0, .int .u8 0, .int .u8 0, .int .u8 0, .int .u8 0, .int .u8 0, .int .u8 0, .int .u8 0, .int .u8 0, .int .u8 0, .int .u8 0, .int .u8 0, .int .u8 0, .int .u8 0, .int .u8 0, .int .u8 0, .int .i64 0, .int .i64 0, .int .i64 0, .slice none 0 0]) (by kernel_rfl) ?_
   intro u4_2 qq hm
   have zl4_2 := qq.lt
   have Hx1 := hid qq
   have zu4_2 := hm.size
   have Cx2 := hid (show Mod (fun _ => False) wl u4_2 from hm)
   clear hm
   clear act E qq
   refine QSeq.go fun act E => ?_
   have hlz : (cs).length = List.length ([.int .i64 0, .int .i64 0, .int .u8 0, .int .u8 0, .int .u8 0, .int .u8 0, .int .u8 0, .int .u8 0, .int .u8 0, .int .u8 0, .int .u8 0, .int .u8 0, .int .u8 0, .int .u8 0, .int .u8 0, .int .u8 0, .int .u8 0, .int .u8 0, .int .u8 0, .int .u8 0, .int .u8 0, .int .u8 0, .int .u8 0, .int .u8 0, .int .u8 0, .int .u8 0, .int .u8 0, .int .u8 0, .int .u8 0, .int .u8 0, .int .u8 0, .int .u8 0, .int .u8 0, .int .u8 0, .int .i64 0, .int .i64 0, .int .i64 0, .slice none 0 0] : List Value) := (by rw [HCL.out]; rfl)
   refine qc_store rfl (wanted_none rfl) rfl Hx1.out (off := 0) (vs := cs) (by rw [hlz]; kernel_rfl) HOC.out (by rw [hlz]; exact Nat.le_of_eq (Nat.zero_add _)) (E.d 2 0) (ec (E.d 1 1)) ?_
   intro u4_3 qc0 hm
   have qq := qc0.eqv (b := (cs : List Value).toArray) (lay_whole #[.int .i64 0, .int .i64 0, .int .u8 0, .int .u8 0, .int .u8 0, .int .u8 0, .int .u8 0, .int .u8 0, .int .u8 0, .int .u8 0, .int .u8 0, .int .u8 0, .int .u8 0, .int .u8 0, .int .u8 0, .int .u8 0, .int .u8 0, .int .u8 0, .int .u8 0, .int .u8 0, .int .u8 0, .int .u8 0, .int .u8 0, .int .u8 0, .int .u8 0, .int .u8 0, .int .u8 0, .int .u8 0, .int .u8 0, .int .u8 0, .int .u8 0, .int .u8 0, .int .u8 0, .int .u8 0, .int .i64 0, .int .i64 0, .int .i64 0, .slice none 0 0] _ (by rw [hlz]; rfl))
   clear qc0 hlz
   have Hx3 := hid qq
   have zu4_3 := hm.size
   have HMu4_3 := hid hm
   have Cx4 := hid (Mod.goS (S' := (fun _ => False)) Cx2.out hm (fun _ h => h) (by intro k h0 h2; omega))
   clear hm Cx2
   clear act E qq Hx1
   clear HMu4_3
   refine QSeq.nil (t' := [_, _, _, _]) rfl ?_
   obtain rfl := HA0.out
   clear HA0 oe8 oe10
   simp only [pz, Act.put, sIB, sCZ, sCS, List.set_nil]
   go_upto_region 5 with (fail)
   refine wp_region_U 22 [14, 15, 16, 17, 18, 19, 5] [0, 1, 2, 3, 4, 5, 6] (fun a0 HA0 => ?_)
   have oe1 := ev HA0 1 rfl
   have oe5 := ev HA0 5 rfl
   have oe7 := ev HA0 7 rfl
   refine QSeq.pure rfl _ (fun E => ex_move rfl (E.y 6 oe5)) ?_
   refine QSeq.pure rfl _ (fun E => ex_move rfl (E.v oe1)) ?_
   refine QSeq.pure rfl _ (fun E => ex_loadA rfl Try.underlying41 rfl (off := 0) (cs := cs) (by rw [HCL.out]; kernel_rfl) (E.v oe7) (Cs.whole Hx3.out)) ?_
   refine QSeq.go fun act E => ?_
   have ea16 : act.eval (.tmp 16) = .agg cs.toArray := (E.d 2 0)
   refine qc_call (args := #[.agg cs.toArray]) rfl (wanted_none rfl) (by rw [ex_callV rfl (E.d 1 1) Try.func34 (by kernel_rfl) (by kernel_rfl)]; exact congrArg (fun z => Result.ok (Next.enter _ z) _) (by simp only [List.map_toArray, List.map_cons, List.map_nil, ea16]; try rfl)) (cop_Ce _ _ _ _ (HRD.out.mod Cx4.out (fun _ _ h => h)) (by intro k h1; have hb := HBT.out k h1; omega) HPK.out) ?_
   rintro e u5_3 ⟨cn, rfl, qnw, hm⟩
   have HCN := hid (CeR.len qnw)
   refine ⟨_, rfl, ?_⟩
   have Hx5 := hid qnw
   have zu5_3 := hm.size
   have Cx6 := hid (show Mod (fun _ => False) u4_3 u5_3 from hm)
   clear hm
   clear act E qnw ea16
   refine QSeq.go fun act E => ?_
   refine qc_buildS (e := 41) (cs := cn) (zc := [.int .i64 0, .int .i64 0, .int .u8 0, .int .u8 0, .int .u8 0, .int .u8 0, .int .u8 0, .int .u8 0, .int .u8 0, .int .u8 0, .int .u8 0, .int .u8 0, .int .u8 0, .int .u8 0, .int .u8 0, .int .u8 0, .int .u8 0, .int .u8 0, .int .u8 0, .int .u8 0, .int .u8 0, .int .u8 0, .int .u8 0, .int .u8 0, .int .u8 0, .int .u8 0, .int .u8 0, .int .u8 0, .int .u8 0, .int .u8 0, .int .u8 0, .int .u8 0, .int .u8 0, .int .u8 0, .int .i64 0, .int .i64 0, .int .i64 0, .slice none 0 0]) (sz := 38) rfl (wanted_none rfl) rfl Try.underlying44 (by kernel_rfl) rfl (by decide) (by decide) (E.d 3 0) (CeR.len Hx5.out) ?_
   intro u5_4 qrow hm
   have zl5_4 := qrow.lt
   have Hx7 := hid qrow
   have zu5_4 := hm.size
   have HMu5_4 := hid hm
   have Cx8 := hid (Cx6.out.goE hm)
   clear hm Cx6
   clear act E qrow
   refine QSeq.go fun act E => ?_
   refine qc_appS (A := CeR) (e := 41) rfl (wanted_none rfl) rfl (.agg #[.int .i64 0, .int .i64 0, .int .u8 0, .int .u8 0, .int .u8 0, .int .u8 0, .int .u8 0, .int .u8 0, .int .u8 0, .int .u8 0, .int .u8 0, .int .u8 0, .int .u8 0, .int .u8 0, .int .u8 0, .int .u8 0, .int .u8 0, .int .u8 0, .int .u8 0, .int .u8 0, .int .u8 0, .int .u8 0, .int .u8 0, .int .u8 0, .int .u8 0, .int .u8 0, .int .u8 0, .int .u8 0, .int .u8 0, .int .u8 0, .int .u8 0, .int .u8 0, .int .u8 0, .int .u8 0, .int .i64 0, .int .i64 0, .int .i64 0, .slice none 0 0]) 96 Try.underlying44 info_Ce (by rfl) (of_decide_eq_true (by kernel_rfl)) (E.d 0 4) (E.d 4 0) (((HAL.out.mod Cx4.out (fun _ _ h => h) (fun _ _ h => h)).mod Cx8.out (fun _ _ h => h) (fun _ _ h => h))) (RdS.single (R := (fun k => (New u4_3 u5_3 k) ∨ (k = u5_3.heap.size))) Hx7.out ((Hx5.out.mod HMu5_4.out (fun _ _ h => h)).widen (by intro k h1; first | omega | exact h1.elim | exact Or.inl h1 | exact Or.inr (h1))) (by right; rfl)) (by intro k h1 h2; omega) (by have h9 := HL.out; rw [List.length_take]; simp only [List.length_cons, List.length_nil]; omega) (by have h9 := HL.out; rw [List.length_take]; simp only [List.length_cons, List.length_nil]; rw [maxLen_val]; omega) ?_
   intro ao5 cap5 u5_5 qout hm
   have Hx9 := hid (qout.widen (R' := (fun k => (New w wl k) ∨ (New u5_4 u5_5 k))) (E' := (fun k => (New w wl k) ∨ (New u4_3 u5_3 k) ∨ (k = u5_3.heap.size))) (fun _ h => h) (by intro k h1; rcases h1 with h1 | (h1 | h1) <;> first | omega | exact h1.elim | exact Or.inl h1 | exact Or.inr (Or.inl h1) | exact Or.inr (Or.inr (h1))))
   have zu5_5 := hm.size
   have HMu5_5 := hid hm
   have Cx10 := hid (Mod.goS (S' := (fun k => (New w wl k))) Cx8.out hm (fun _ h => h.elim) (by intro k h0 h2; exact h2))
   clear hm Cx8
   clear act E qout HAL
   refine QSeq.pure rfl _ (fun E => ex_assign rfl (E.d 5 0)) ?_
   have Hx11 := hid ((Hx5.out.mod HMu5_4.out (fun _ _ h => h)).mod HMu5_5.out (by intro k h1 h2; omega))
   have Hx12 := hid (Hx7.out.mod HMu5_5.out (by intro h2; omega))
   clear Hx5 Hx7 HMu5_4 HMu5_5
   refine QSeq.nil (t' := [_, _, _, _, _, _, _]) rfl ?_
   obtain rfl := HA0.out
   clear HA0 oe1 oe5 oe7
   simp only [pz, Act.put, sIB, sCZ, sCS]
   have hq := Hx9.out
   rw [show l.take k ++ [l[k]] = l.take (k + 1) from (List.take_succ_eq_append_getElem hlt).symm] at hq
   have HQ := Lib.hid hq
   clear hq
   go_upto_region 6 with (fail)
   refine wp_region_U 22 [20, 10] [0, 1] (fun a0 HA0 => ?_)
   have oe10 := ev HA0 10 rfl
   refine QSeq.pure rfl (.int .i64 (((k : Nat) : Int) + 1)) (fun E => ex_binE rfl (E.y 1 oe10) rfl (guard_ints _ _ _ _ _ _) (run_add_i _ _ Try.underlying3) (congrArg (Value.int .i64) (IntWalk.i64_in _ (by have h9 := HL.out; omega)))) ?_
   refine QSeq.pure rfl _ (fun E => ex_move rfl (E.d 0 0)) ?_
   refine QSeq.nil (t' := [_, _]) rfl ?_
   obtain rfl := HA0.out
   clear HA0 oe10
   simp only [pz, Act.put, sIB, sCZ, sCS]
   go_wp2
   go_roundw
   case rel => exact ⟨k + 1, by go_num, by omega, by omega, HQ.out.widen (by intro b h1; (try dsimp only at h1 ⊢); omega) (by intro b h1; (try dsimp only at h1 ⊢); omega), ((HSL.out.mod Cx4.out (fun _ _ h => h)).mod Cx10.out (sN HBT)), ((HML.out.trans Cx4.out (fun _ _ h => h.elim)).trans Cx10.out (by intro k h1 h2; omega))⟩
   case measure => simp [intOf]; omega
  ·obtain rfl : l.length = k := by omega
   have hq := HAL.out
   rw [List.take_length] at hq
   have HQ := Lib.hid hq
   clear hq
   go_upto_region 3 with (fail)
   refine wp_region_U 22 [11] [0] (fun a0 HA0 => ?_)
   have oe9 := ev HA0 9 rfl
   have oe10 := ev HA0 10 rfl
   refine QSeq.pure rfl (.bool false) (fun E => ex_binE rfl (E.v oe10) (E.v oe9) (guard_ints _ _ _ _ _ _) (run_lss_i _ _ _ Try.underlying3) (congrArg Value.bool (decide_eq_false (by omega)))) ?_
   refine QSeq.nil (t' := [_]) rfl ?_
   obtain rfl := HA0.out
   clear HA0 oe9 oe10
   simp only [pz, Act.put, sIB, sCZ, sCS]
   go_upto_region 7 with (fail)
   refine wp_region_U 22 [21, 4] [0, 1] (fun a0 HA0 => ?_)
   have oe5 := ev HA0 5 rfl
   refine QSeq.pure rfl _ (fun E => ex_move rfl (E.v oe5)) ?_
   refine QSeq.pure rfl _ (fun E => ex_assign rfl (E.d 0 0)) ?_
   refine QSeq.nil (t' := [_, _]) rfl ?_
   obtain rfl := HA0.out
   clear HA0 oe5
   simp only [pz, Act.put, sIB, sCZ, sCS]
   go_wp2
   go_ret
   exact ⟨_, rfl, by rw [List.take_length]; exact HQ.out.rd.widen (by intro b h1; (try dsimp only at h1 ⊢); omega), HML.out⟩
set_option maxHeartbeats 4000000 in
theorem cop_Pm : CopR PmR cpPm 35 := by
 intro R2 x cs w hx hB2 hP
 obtain ⟨v_l, rfl, hok, hs0⟩ := hx
 obtain ⟨ao, cap, rfl⟩ := hs0.shape
 have HS := Lib.hid hs0
 have HBT := Lib.hid hB2
 have HOK := Lib.hid hok
 have HP := Lib.hid hP
 clear hs0 hB2 hok hP
 go_enter Try.func35, Try.ntmps35
 go_upto_region 1 with (fail)
 obtain ⟨w1, hw1⟩ : ∃ zz, zz = ((w.alloc (.cells (x.cells (.slice ao x.l.length cap) : List Value).toArray 46)).alloc (.cells #[.int .i64 0, .int .i64 0, .int .u64 0, .slice none 0 0, .int .i64 0, .int .i64 0] 46)) := ⟨_, rfl⟩
 change Code.wp _ _ _ _ ((w.alloc (.cells (x.cells (.slice ao x.l.length cap) : List Value).toArray 46)).alloc (.cells #[.int .i64 0, .int .i64 0, .int .u64 0, .slice none 0 0, .int .i64 0, .int .i64 0] 46))
 rw [← hw1]
 have HB1 := hid (show Cs w1 (w.heap.size) (x.cells (.slice ao x.l.length cap) : List Value).toArray 46 by rw [hw1]; exact (Cs.new _ _ _).alloc _)
 have HB2 := hid (show Cs w1 (w.heap.size + 1) #[.int .i64 0, .int .i64 0, .int .u64 0, .slice none 0 0, .int .i64 0, .int .i64 0] 46 by rw [hw1]; exact Cs_newN _ _ _ (by simp))
 have hm : Mod (fun _ => False) w w1 := by rw [hw1]; exact ((Mod.refl _ _).alloc _).alloc _
 have HM0 := hid (show Mod (fun _ => False) w w1 from hm.mono (fun _ _ h => h.elim))
 have hs1 : w1.heap.size = w.heap.size + 2 := by rw [hw1]; simp
 have Hx1 := hid (HS.out.mod hm (fun _ _ h => h))
 clear HS
 clear hw1 hm
 go_upto_region 1 with (fail)
 refine wp_region_U 8 [3, 4, 5, 6, 12] [0, 1, 2, 3, 4] (fun a0 HA0 => ?_)
 have oe1 := ev HA0 1 rfl
 refine QSeq.pure rfl (.pointer (some ⟨w.heap.size, 3, none⟩)) (fun E => ex_field rfl Try.underlying46 rfl (by kernel_rfl) (E.v oe1)) ?_
 refine QSeq.pure rfl _ (fun E => ex_load1 rfl Try.underlying44 rfl (E.d 0 0) (Cs.lit1 HB1.out rfl)) ?_
 refine QSeq.call rfl rfl Try.func52 (copied_Ce _ x.l _ _ Hx1.out (by intro k h1; have hb := HBT.out k h1; omega) HP.out.1 HP.out.2) (fun E => args2 (E.d 1 0) rfl) ?_
 rintro e u1_2 ⟨vo, rfl, qo, hm⟩
 obtain ⟨ao_o, cap_o, rfl⟩ := qo.shape
 refine ⟨_, rfl, ?_⟩
 have Hx2 := hid qo
 have zu1_2 := hm.size
 have Cx3 := hid (show Mod (fun _ => False) w1 u1_2 from hm)
 clear hm
 clear qo
 refine QSeq.pure rfl (.pointer (some ⟨w.heap.size, 3, none⟩)) (fun E => ex_field rfl Try.underlying46 rfl (by kernel_rfl) (E.v oe1)) ?_
 refine QSeq.go fun act E => ?_
 refine qc_store rfl (wanted_none rfl) rfl (HB1.out.mod Cx3.out (fun h => h)) (off := 3) (vs := [Value.slice ao_o x.l.length cap_o]) (by kernel_rfl) one1 (by show 3 + 1 ≤ 6; decide) (E.d 3 0) (ec (E.d 2 1)) ?_
 intro u1_4 qc0 hm
 have qB1 := qc0.eqv (b := (([.int .i64 x.rp, .int .i64 x.ep, .int .u64 (x.fl : Nat), Value.slice ao_o x.l.length cap_o, .int .i64 x.sb, .int .i64 x.mr]) : List Value).toArray) rfl
 clear qc0
 have Hx4 := hid qB1
 have zu1_4 := hm.size
 have HMu1_4 := hid hm
 have Cx5 := hid (Mod.goS (S' := (fun k => (k = w.heap.size))) Cx3.out hm (fun _ h => h.elim) (by intro k h0 h2; exact h2))
 clear hm Cx3
 clear act E qB1 HB1
 have Hx6 := hid (Hx2.out.mod HMu1_4.out (by intro k h1 h2; omega))
 clear Hx2 HMu1_4
 refine QSeq.nil (t' := [_, _, _, _, _]) rfl ?_
 obtain rfl := HA0.out
 clear HA0 oe1
 simp only [pz, Act.put, sIB, sCZ, sCS, List.set_nil]
 go_upto_region 2 with (fail)
 refine wp_region_U 8 [7, 9] [0, 1] (fun a0 HA0 => ?_)
 have oe1 := ev HA0 1 rfl
 have oe2 := ev HA0 2 rfl
 refine QSeq.pure rfl _ (fun E => ex_loadA rfl Try.underlying46 rfl (off := 0) (cs := ([.int .i64 x.rp, .int .i64 x.ep, .int .u64 (x.fl : Nat), Value.slice ao_o x.l.length cap_o, .int .i64 x.sb, .int .i64 x.mr])) (by kernel_rfl) (E.v oe1) (Cs.whole Hx4.out)) ?_
 refine QSeq.go fun act E => ?_
 refine qc_store rfl (wanted_none rfl) rfl (HB2.out.mod Cx5.out (by intro h2; omega)) (off := 0) (vs := ([.int .i64 x.rp, .int .i64 x.ep, .int .u64 (x.fl : Nat), Value.slice ao_o x.l.length cap_o, .int .i64 x.sb, .int .i64 x.mr])) (by kernel_rfl) (by intro u hu; simp only [List.mem_cons, List.not_mem_nil, or_false] at hu; rcases hu with rfl | rfl | rfl | rfl | rfl | rfl <;> rfl) (by show 0 + 6 ≤ 6; decide) (E.v oe2) (ec (E.d 0 0)) ?_
 intro u2_1 qc0 hm
 have qB2 := qc0.eqv (b := (([.int .i64 x.rp, .int .i64 x.ep, .int .u64 (x.fl : Nat), Value.slice ao_o x.l.length cap_o, .int .i64 x.sb, .int .i64 x.mr]) : List Value).toArray) (lay_whole _ _ rfl)
 clear qc0
 have Hx7 := hid qB2
 have zu2_1 := hm.size
 have Cx8 := hid (show Mod (fun k => (k = w.heap.size + 1)) u1_4 u2_1 from hm)
 clear hm
 clear act E qB2 HB2
 refine QSeq.nil (t' := [_, _]) rfl ?_
 obtain rfl := HA0.out
 clear HA0 oe1 oe2
 simp only [pz, Act.put, sIB, sCZ, sCS, List.set_nil]
 go_wp2
 exact bodyPost_ret (results_cellA rfl _ _ (w.heap.size + 1) ([.int .i64 x.rp, .int .i64 x.ep, .int .u64 (x.fl : Nat), Value.slice ao_o x.l.length cap_o, .int .i64 x.sb, .int .i64 x.mr]) rfl (fun k u hu => by rw [Hx7.out.cell]; simpa using hu) Try.underlying46 rfl (by kernel_rfl)) rfl ⟨_, rfl, ⟨_, rfl, HOK.out, (Hx6.out.mod Cx8.out (by intro k h1 h2; omega)).widen (by intro k h1; omega)⟩, ((HM0.out.trans Cx5.out (by intro k h1 h2; omega)).trans Cx8.out (by intro k h1 h2; omega))⟩
set_option maxHeartbeats 4000000 in
theorem copied_Pm : CopL PmR cpPm 53 35 := by
 intro R2 l v w hs hB2 hl hP
 obtain ⟨ao, cap, rfl⟩ := hs.shape
 have HS := Lib.hid hs
 have HBT := Lib.hid hB2
 have HL := Lib.hid hl
 have HP := Lib.hid hP
 clear hs hB2 hl hP
 go_enter Try.func53, Try.ntmps53
 go_upto_region 2 with (fail)
 have HM0 := hid (Mod.refl (fun _ => False) w)
 go_upto_region 2 with (fail)
 refine wp_region_U 22 [8, 9, 10] [0, 1, 2] (fun a0 HA0 => ?_)
 have oe0 := ev HA0 0 rfl
 refine QSeq.pure rfl _ (fun E => ex_move rfl (E.v oe0)) ?_
 refine QSeq.pure rfl (.int .i64 l.length) (fun E => ex_lenS rfl (E.d 0 0) Try.underlying47) ?_
 refine QSeq.pure rfl (.int .i64 0) (fun E => ex_move rfl rfl) ?_
 refine QSeq.nil (t' := [_, _, _]) rfl ?_
 obtain rfl := HA0.out
 clear HA0 oe0
 simp only [pz, Act.put, sIB, sCZ, sCS]
 go_wp2
 go_loopw [5, 10] (fun ta ti wr => ∃ k : Nat, ti = .int .i64 (k : Int) ∧ k ≤ l.length ∧ w.heap.size ≤ wr.heap.size ∧ OwS PmR 46 (fun b => w.heap.size ≤ b ∧ b < wr.heap.size) (fun b => w.heap.size ≤ b ∧ b < wr.heap.size) wr ta (l.take k) ∧ RdS PmR R2 wr (.slice ao l.length cap) l ∧ Mod (fun _ => False) w wr) (fun _ ti _ => l.length - (intOf ti).toNat)
 case atStart => exact ⟨0, rfl, Nat.zero_le _, Nat.le_refl _, OwS.nil _ _ _ _ _, HS.out, HM0.out⟩
 case round =>
  obtain ⟨k, rfl, hk, hz, ha, hs, hm⟩ := hrel
  obtain ⟨wl, rfl⟩ : ∃ x, x = wr := ⟨_, rfl⟩
  obtain ⟨aol, capl, rfl⟩ := ha.shape
  have HAL := Lib.hid ha
  have HSL := Lib.hid hs
  have HML := Lib.hid hm
  clear ha hs hm HS HM0
  by_cases hlt : k < l.length
  ·skip
   go_upto_region 3 with (fail)
   refine wp_region_U 22 [11] [0] (fun a0 HA0 => ?_)
   have oe9 := ev HA0 9 rfl
   have oe10 := ev HA0 10 rfl
   refine QSeq.pure rfl (.bool true) (fun E => ex_binE rfl (E.v oe10) (E.v oe9) (guard_ints _ _ _ _ _ _) (run_lss_i _ _ _ Try.underlying3) (congrArg Value.bool (decide_eq_true (by omega)))) ?_
   refine QSeq.nil (t' := [_]) rfl ?_
   obtain rfl := HA0.out
   clear HA0 oe9 oe10
   simp only [pz, Act.put, sIB, sCZ, sCS]
   obtain ⟨g0, o0, cs, eao, hrg, hrd, hcs⟩ := HSL.out.at hlt
   subst eao
   have HCL := hid (show cs.length = 6 from PmR.len hrd)
   have HAT := hid (show CellsAt R2 wl g0 (o0 + k * 6) cs from ⟨hrg, hcs⟩)
   have HRD := Lib.hid hrd
   have HOC := hid (PmR.one hrd)
   have HPK := hid (HP.out _ (List.getElem_mem hlt))
   clear hrg hrd hcs
   go_upto_region 4 with (fail)
   refine wp_region_U 22 [12, 13, 7, 25] [0, 1, 2, 3] (fun a0 HA0 => ?_)
   have oe8 := ev HA0 8 rfl
   have oe10 := ev HA0 10 rfl
   refine QSeq.pure rfl (.pointer (some ⟨g0, o0 + k * 6, none⟩)) (fun E => ex_idxS (i := k) (s := 6) rfl Try.underlying47 (by kernel_rfl) (E.v oe8) (E.v oe10) (by omega)) ?_
   refine QSeq.pure rfl _ (fun E => ex_loadA rfl Try.underlying46 rfl (off := o0 + k * 6) (cs := cs) (by rw [HCL.out]; kernel_rfl) (E.d 0 0) (fun j u hu => (HAT.out).2 j u hu)) ?_
   refine QSeq.go fun act E => ?_
   refine qc_alloc rfl (wanted_none rfl) rfl (z := [.int .i64 0, .int .i64 0, .int .u64 0, .slice none 0 0, .int .i64 0, .int .i64 0]) (by kernel_rfl) ?_
   intro u4_2 qq hm
   have zl4_2 := qq.lt
   have Hx1 := hid qq
   have zu4_2 := hm.size
   have Cx2 := hid (show Mod (fun _ => False) wl u4_2 from hm)
   clear hm
   clear act E qq
   refine QSeq.go fun act E => ?_
   have hlz : (cs).length = List.length ([.int .i64 0, .int .i64 0, .int .u64 0, .slice none 0 0, .int .i64 0, .int .i64 0] : List Value) := (by rw [HCL.out]; rfl)
   refine qc_store rfl (wanted_none rfl) rfl Hx1.out (off := 0) (vs := cs) (by rw [hlz]; kernel_rfl) HOC.out (by rw [hlz]; exact Nat.le_of_eq (Nat.zero_add _)) (E.d 2 0) (ec (E.d 1 1)) ?_
   intro u4_3 qc0 hm
   have qq := qc0.eqv (b := (cs : List Value).toArray) (lay_whole #[.int .i64 0, .int .i64 0, .int .u64 0, .slice none 0 0, .int .i64 0, .int .i64 0] _ (by rw [hlz]; rfl))
   clear qc0 hlz
   have Hx3 := hid qq
   have zu4_3 := hm.size
   have HMu4_3 := hid hm
   have Cx4 := hid (Mod.goS (S' := (fun _ => False)) Cx2.out hm (fun _ h => h) (by intro k h0 h2; omega))
   clear hm Cx2
   clear act E qq Hx1
   clear HMu4_3
   refine QSeq.nil (t' := [_, _, _, _]) rfl ?_
   obtain rfl := HA0.out
   clear HA0 oe8 oe10
   simp only [pz, Act.put, sIB, sCZ, sCS, List.set_nil]
   go_upto_region 5 with (fail)
   refine wp_region_U 22 [14, 15, 16, 17, 18, 19, 5] [0, 1, 2, 3, 4, 5, 6] (fun a0 HA0 => ?_)
   have oe1 := ev HA0 1 rfl
   have oe5 := ev HA0 5 rfl
   have oe7 := ev HA0 7 rfl
   refine QSeq.pure rfl _ (fun E => ex_move rfl (E.y 6 oe5)) ?_
   refine QSeq.pure rfl _ (fun E => ex_move rfl (E.v oe1)) ?_
   refine QSeq.pure rfl _ (fun E => ex_loadA rfl Try.underlying46 rfl (off := 0) (cs := cs) (by rw [HCL.out]; kernel_rfl) (E.v oe7) (Cs.whole Hx3.out)) ?_
   refine QSeq.go fun act E => ?_
   have ea16 : act.eval (.tmp 16) = .agg cs.toArray := (E.d 2 0)
   refine qc_call (args := #[.agg cs.toArray]) rfl (wanted_none rfl) (by rw [ex_callV rfl (E.d 1 1) Try.func35 (by kernel_rfl) (by kernel_rfl)]; exact congrArg (fun z => Result.ok (Next.enter _ z) _) (by simp only [List.map_toArray, List.map_cons, List.map_nil, ea16]; try rfl)) (cop_Pm _ _ _ _ (HRD.out.mod Cx4.out (fun _ _ h => h)) (by intro k h1; have hb := HBT.out k h1; omega) HPK.out) ?_
   rintro e u5_3 ⟨cn, rfl, qnw, hm⟩
   have HCN := hid (PmR.len qnw)
   refine ⟨_, rfl, ?_⟩
   have Hx5 := hid qnw
   have zu5_3 := hm.size
   have Cx6 := hid (show Mod (fun _ => False) u4_3 u5_3 from hm)
   clear hm
   clear act E qnw ea16
   refine QSeq.go fun act E => ?_
   refine qc_buildS (e := 46) (cs := cn) (zc := [.int .i64 0, .int .i64 0, .int .u64 0, .slice none 0 0, .int .i64 0, .int .i64 0]) (sz := 6) rfl (wanted_none rfl) rfl Try.underlying47 (by kernel_rfl) rfl (by decide) (by decide) (E.d 3 0) (PmR.len Hx5.out) ?_
   intro u5_4 qrow hm
   have zl5_4 := qrow.lt
   have Hx7 := hid qrow
   have zu5_4 := hm.size
   have HMu5_4 := hid hm
   have Cx8 := hid (Cx6.out.goE hm)
   clear hm Cx6
   clear act E qrow
   refine QSeq.go fun act E => ?_
   refine qc_appS (A := PmR) (e := 46) rfl (wanted_none rfl) rfl (.agg #[.int .i64 0, .int .i64 0, .int .u64 0, .slice none 0 0, .int .i64 0, .int .i64 0]) 64 Try.underlying47 info_Pm (by rfl) (of_decide_eq_true (by kernel_rfl)) (E.d 0 4) (E.d 4 0) (((HAL.out.mod Cx4.out (fun _ _ h => h) (fun _ _ h => h)).mod Cx8.out (fun _ _ h => h) (fun _ _ h => h))) (RdS.single (R := (fun k => (New u4_3 u5_3 k) ∨ (k = u5_3.heap.size))) Hx7.out ((Hx5.out.mod HMu5_4.out (fun _ _ h => h)).widen (by intro k h1; first | omega | exact h1.elim | exact Or.inl h1 | exact Or.inr (h1))) (by right; rfl)) (by intro k h1 h2; omega) (by have h9 := HL.out; rw [List.length_take]; simp only [List.length_cons, List.length_nil]; omega) (by have h9 := HL.out; rw [List.length_take]; simp only [List.length_cons, List.length_nil]; rw [maxLen_val]; omega) ?_
   intro ao5 cap5 u5_5 qout hm
   have Hx9 := hid (qout.widen (R' := (fun k => (New w wl k) ∨ (New u5_4 u5_5 k))) (E' := (fun k => (New w wl k) ∨ (New u4_3 u5_3 k) ∨ (k = u5_3.heap.size))) (fun _ h => h) (by intro k h1; rcases h1 with h1 | (h1 | h1) <;> first | omega | exact h1.elim | exact Or.inl h1 | exact Or.inr (Or.inl h1) | exact Or.inr (Or.inr (h1))))
   have zu5_5 := hm.size
   have HMu5_5 := hid hm
   have Cx10 := hid (Mod.goS (S' := (fun k => (New w wl k))) Cx8.out hm (fun _ h => h.elim) (by intro k h0 h2; exact h2))
   clear hm Cx8
   clear act E qout HAL
   refine QSeq.pure rfl _ (fun E => ex_assign rfl (E.d 5 0)) ?_
   have Hx11 := hid ((Hx5.out.mod HMu5_4.out (fun _ _ h => h)).mod HMu5_5.out (by intro k h1 h2; omega))
   have Hx12 := hid (Hx7.out.mod HMu5_5.out (by intro h2; omega))
   clear Hx5 Hx7 HMu5_4 HMu5_5
   refine QSeq.nil (t' := [_, _, _, _, _, _, _]) rfl ?_
   obtain rfl := HA0.out
   clear HA0 oe1 oe5 oe7
   simp only [pz, Act.put, sIB, sCZ, sCS]
   have hq := Hx9.out
   rw [show l.take k ++ [l[k]] = l.take (k + 1) from (List.take_succ_eq_append_getElem hlt).symm] at hq
   have HQ := Lib.hid hq
   clear hq
   go_upto_region 6 with (fail)
   refine wp_region_U 22 [20, 10] [0, 1] (fun a0 HA0 => ?_)
   have oe10 := ev HA0 10 rfl
   refine QSeq.pure rfl (.int .i64 (((k : Nat) : Int) + 1)) (fun E => ex_binE rfl (E.y 1 oe10) rfl (guard_ints _ _ _ _ _ _) (run_add_i _ _ Try.underlying3) (congrArg (Value.int .i64) (IntWalk.i64_in _ (by have h9 := HL.out; omega)))) ?_
   refine QSeq.pure rfl _ (fun E => ex_move rfl (E.d 0 0)) ?_
   refine QSeq.nil (t' := [_, _]) rfl ?_
   obtain rfl := HA0.out
   clear HA0 oe10
   simp only [pz, Act.put, sIB, sCZ, sCS]
   go_wp2
   go_roundw
   case rel => exact ⟨k + 1, by go_num, by omega, by omega, HQ.out.widen (by intro b h1; (try dsimp only at h1 ⊢); omega) (by intro b h1; (try dsimp only at h1 ⊢); omega), ((HSL.out.mod Cx4.out (fun _ _ h => h)).mod Cx10.out (sN HBT)), ((HML.out.trans Cx4.out (fun _ _ h => h.elim)).trans Cx10.out (by intro k h1 h2; omega))⟩
   case measure => simp [intOf]; omega
  ·obtain rfl : l.length = k := by omega
   have hq := HAL.out
   rw [List.take_length] at hq
   have HQ := Lib.hid hq
   clear hq
   go_upto_region 3 with (fail)
   refine wp_region_U 22 [11] [0] (fun a0 HA0 => ?_)
   have oe9 := ev HA0 9 rfl
   have oe10 := ev HA0 10 rfl
   refine QSeq.pure rfl (.bool false) (fun E => ex_binE rfl (E.v oe10) (E.v oe9) (guard_ints _ _ _ _ _ _) (run_lss_i _ _ _ Try.underlying3) (congrArg Value.bool (decide_eq_false (by omega)))) ?_
   refine QSeq.nil (t' := [_]) rfl ?_
   obtain rfl := HA0.out
   clear HA0 oe9 oe10
   simp only [pz, Act.put, sIB, sCZ, sCS]
   go_upto_region 7 with (fail)
   refine wp_region_U 22 [21, 4] [0, 1] (fun a0 HA0 => ?_)
   have oe5 := ev HA0 5 rfl
   refine QSeq.pure rfl _ (fun E => ex_move rfl (E.v oe5)) ?_
   refine QSeq.pure rfl _ (fun E => ex_assign rfl (E.d 0 0)) ?_
   refine QSeq.nil (t' := [_, _]) rfl ?_
   obtain rfl := HA0.out
   clear HA0 oe5
   simp only [pz, Act.put, sIB, sCZ, sCS]
   go_wp2
   go_ret
   exact ⟨_, rfl, by rw [List.take_length]; exact HQ.out.rd.widen (by intro b h1; (try dsimp only at h1 ⊢); omega), HML.out⟩
set_option maxHeartbeats 4000000 in
theorem cop_Tb : CopR TbR cpTb 56 := by
 intro R2 x cs w hx hB2 hP
 obtain ⟨v_l, rfl, hok, hs0⟩ := hx
 obtain ⟨ao, cap, rfl⟩ := hs0.shape
 have HS := Lib.hid hs0
 have HBT := Lib.hid hB2
 have HOK := Lib.hid hok
 have HP := Lib.hid hP
 clear hs0 hB2 hok hP
 go_enter Try.func56, Try.ntmps56
 go_upto_region 1 with (fail)
 obtain ⟨w1, hw1⟩ : ∃ zz, zz = ((w.alloc (.cells (x.cells (.slice ao x.l.length cap) : List Value).toArray 121)).alloc (.cells #[.int .i64 0, .slice none 0 0] 121)) := ⟨_, rfl⟩
 change Code.wp _ _ _ _ ((w.alloc (.cells (x.cells (.slice ao x.l.length cap) : List Value).toArray 121)).alloc (.cells #[.int .i64 0, .slice none 0 0] 121))
 rw [← hw1]
 have HB1 := hid (show Cs w1 (w.heap.size) (x.cells (.slice ao x.l.length cap) : List Value).toArray 121 by rw [hw1]; exact (Cs.new _ _ _).alloc _)
 have HB2 := hid (show Cs w1 (w.heap.size + 1) #[.int .i64 0, .slice none 0 0] 121 by rw [hw1]; exact Cs_newN _ _ _ (by simp))
 have hm : Mod (fun _ => False) w w1 := by rw [hw1]; exact ((Mod.refl _ _).alloc _).alloc _
 have HM0 := hid (show Mod (fun _ => False) w w1 from hm.mono (fun _ _ h => h.elim))
 have hs1 : w1.heap.size = w.heap.size + 2 := by rw [hw1]; simp
 have Hx1 := hid (HS.out.mod hm (fun _ _ h => h))
 clear HS
 clear hw1 hm
 go_upto_region 1 with (fail)
 refine wp_region_U 8 [3, 4, 5, 6, 12] [0, 1, 2, 3, 4] (fun a0 HA0 => ?_)
 have oe1 := ev HA0 1 rfl
 refine QSeq.pure rfl (.pointer (some ⟨w.heap.size, 1, none⟩)) (fun E => ex_field rfl Try.underlying121 rfl (by kernel_rfl) (E.v oe1)) ?_
 refine QSeq.pure rfl _ (fun E => ex_load1 rfl Try.underlying119 rfl (E.d 0 0) (Cs.lit1 HB1.out rfl)) ?_
 refine QSeq.call rfl rfl Try.func62 (copied_Dn _ x.l _ _ Hx1.out (by intro k h1; have hb := HBT.out k h1; omega) HP.out (fun _ _ => trivial)) (fun E => args2 (E.d 1 0) rfl) ?_
 rintro e u1_2 ⟨vo, rfl, qo, hm⟩
 obtain ⟨ao_o, cap_o, rfl⟩ := qo.shape
 refine ⟨_, rfl, ?_⟩
 have Hx2 := hid qo
 have zu1_2 := hm.size
 have Cx3 := hid (show Mod (fun _ => False) w1 u1_2 from hm)
 clear hm
 clear qo
 refine QSeq.pure rfl (.pointer (some ⟨w.heap.size, 1, none⟩)) (fun E => ex_field rfl Try.underlying121 rfl (by kernel_rfl) (E.v oe1)) ?_
 refine QSeq.go fun act E => ?_
 refine qc_store rfl (wanted_none rfl) rfl (HB1.out.mod Cx3.out (fun h => h)) (off := 1) (vs := [Value.slice ao_o x.l.length cap_o]) (by kernel_rfl) one1 (by show 1 + 1 ≤ 2; decide) (E.d 3 0) (ec (E.d 2 1)) ?_
 intro u1_4 qc0 hm
 have qB1 := qc0.eqv (b := (([.int .i64 x.ix, Value.slice ao_o x.l.length cap_o]) : List Value).toArray) rfl
 clear qc0
 have Hx4 := hid qB1
 have zu1_4 := hm.size
 have HMu1_4 := hid hm
 have Cx5 := hid (Mod.goS (S' := (fun k => (k = w.heap.size))) Cx3.out hm (fun _ h => h.elim) (by intro k h0 h2; exact h2))
 clear hm Cx3
 clear act E qB1 HB1
 have Hx6 := hid (Hx2.out.mod HMu1_4.out (by intro k h1 h2; omega))
 clear Hx2 HMu1_4
 refine QSeq.nil (t' := [_, _, _, _, _]) rfl ?_
 obtain rfl := HA0.out
 clear HA0 oe1
 simp only [pz, Act.put, sIB, sCZ, sCS, List.set_nil]
 go_upto_region 2 with (fail)
 refine wp_region_U 8 [7, 9] [0, 1] (fun a0 HA0 => ?_)
 have oe1 := ev HA0 1 rfl
 have oe2 := ev HA0 2 rfl
 refine QSeq.pure rfl _ (fun E => ex_loadA rfl Try.underlying121 rfl (off := 0) (cs := ([.int .i64 x.ix, Value.slice ao_o x.l.length cap_o])) (by kernel_rfl) (E.v oe1) (Cs.whole Hx4.out)) ?_
 refine QSeq.go fun act E => ?_
 refine qc_store rfl (wanted_none rfl) rfl (HB2.out.mod Cx5.out (by intro h2; omega)) (off := 0) (vs := ([.int .i64 x.ix, Value.slice ao_o x.l.length cap_o])) (by kernel_rfl) (by intro u hu; simp only [List.mem_cons, List.not_mem_nil, or_false] at hu; rcases hu with rfl | rfl <;> rfl) (by show 0 + 2 ≤ 2; decide) (E.v oe2) (ec (E.d 0 0)) ?_
 intro u2_1 qc0 hm
 have qB2 := qc0.eqv (b := (([.int .i64 x.ix, Value.slice ao_o x.l.length cap_o]) : List Value).toArray) (lay_whole _ _ rfl)
 clear qc0
 have Hx7 := hid qB2
 have zu2_1 := hm.size
 have Cx8 := hid (show Mod (fun k => (k = w.heap.size + 1)) u1_4 u2_1 from hm)
 clear hm
 clear act E qB2 HB2
 refine QSeq.nil (t' := [_, _]) rfl ?_
 obtain rfl := HA0.out
 clear HA0 oe1 oe2
 simp only [pz, Act.put, sIB, sCZ, sCS, List.set_nil]
 go_wp2
 exact bodyPost_ret (results_cellA rfl _ _ (w.heap.size + 1) ([.int .i64 x.ix, Value.slice ao_o x.l.length cap_o]) rfl (fun k u hu => by rw [Hx7.out.cell]; simpa using hu) Try.underlying121 rfl (by kernel_rfl)) rfl ⟨_, rfl, ⟨_, rfl, HOK.out, (Hx6.out.mod Cx8.out (by intro k h1 h2; omega)).widen (by intro k h1; omega)⟩, ((HM0.out.trans Cx5.out (by intro k h1 h2; omega)).trans Cx8.out (by intro k h1 h2; omega))⟩
set_option maxHeartbeats 4000000 in
theorem copied_Tb : CopL TbR cpTb 55 56 := by
 intro R2 l v w hs hB2 hl hP
 obtain ⟨ao, cap, rfl⟩ := hs.shape
 have HS := Lib.hid hs
 have HBT := Lib.hid hB2
 have HL := Lib.hid hl
 have HP := Lib.hid hP
 clear hs hB2 hl hP
 go_enter Try.func55, Try.ntmps55
 go_upto_region 2 with (fail)
 have HM0 := hid (Mod.refl (fun _ => False) w)
 go_upto_region 2 with (fail)
 refine wp_region_U 22 [8, 9, 10] [0, 1, 2] (fun a0 HA0 => ?_)
 have oe0 := ev HA0 0 rfl
 refine QSeq.pure rfl _ (fun E => ex_move rfl (E.v oe0)) ?_
 refine QSeq.pure rfl (.int .i64 l.length) (fun E => ex_lenS rfl (E.d 0 0) Try.underlying49) ?_
 refine QSeq.pure rfl (.int .i64 0) (fun E => ex_move rfl rfl) ?_
 refine QSeq.nil (t' := [_, _, _]) rfl ?_
 obtain rfl := HA0.out
 clear HA0 oe0
 simp only [pz, Act.put, sIB, sCZ, sCS]
 go_wp2
 go_loopw [5, 10] (fun ta ti wr => ∃ k : Nat, ti = .int .i64 (k : Int) ∧ k ≤ l.length ∧ w.heap.size ≤ wr.heap.size ∧ OwS TbR 121 (fun b => w.heap.size ≤ b ∧ b < wr.heap.size) (fun b => w.heap.size ≤ b ∧ b < wr.heap.size) wr ta (l.take k) ∧ RdS TbR R2 wr (.slice ao l.length cap) l ∧ Mod (fun _ => False) w wr) (fun _ ti _ => l.length - (intOf ti).toNat)
 case atStart => exact ⟨0, rfl, Nat.zero_le _, Nat.le_refl _, OwS.nil _ _ _ _ _, HS.out, HM0.out⟩
 case round =>
  obtain ⟨k, rfl, hk, hz, ha, hs, hm⟩ := hrel
  obtain ⟨wl, rfl⟩ : ∃ x, x = wr := ⟨_, rfl⟩
  obtain ⟨aol, capl, rfl⟩ := ha.shape
  have HAL := Lib.hid ha
  have HSL := Lib.hid hs
  have HML := Lib.hid hm
  clear ha hs hm HS HM0
  by_cases hlt : k < l.length
  ·skip
   go_upto_region 3 with (fail)
   refine wp_region_U 22 [11] [0] (fun a0 HA0 => ?_)
   have oe9 := ev HA0 9 rfl
   have oe10 := ev HA0 10 rfl
   refine QSeq.pure rfl (.bool true) (fun E => ex_binE rfl (E.v oe10) (E.v oe9) (guard_ints _ _ _ _ _ _) (run_lss_i _ _ _ Try.underlying3) (congrArg Value.bool (decide_eq_true (by omega)))) ?_
   refine QSeq.nil (t' := [_]) rfl ?_
   obtain rfl := HA0.out
   clear HA0 oe9 oe10
   simp only [pz, Act.put, sIB, sCZ, sCS]
   obtain ⟨g0, o0, cs, eao, hrg, hrd, hcs⟩ := HSL.out.at hlt
   subst eao
   have HCL := hid (show cs.length = 2 from TbR.len hrd)
   have HAT := hid (show CellsAt R2 wl g0 (o0 + k * 2) cs from ⟨hrg, hcs⟩)
   have HRD := Lib.hid hrd
   have HOC := hid (TbR.one hrd)
   have HPK := hid (HP.out _ (List.getElem_mem hlt))
   clear hrg hrd hcs
   go_upto_region 4 with (fail)
   refine wp_region_U 22 [12, 13, 7, 25] [0, 1, 2, 3] (fun a0 HA0 => ?_)
   have oe8 := ev HA0 8 rfl
   have oe10 := ev HA0 10 rfl
   refine QSeq.pure rfl (.pointer (some ⟨g0, o0 + k * 2, none⟩)) (fun E => ex_idxS (i := k) (s := 2) rfl Try.underlying49 (by kernel_rfl) (E.v oe8) (E.v oe10) (by omega)) ?_
   refine QSeq.pure rfl _ (fun E => ex_loadA rfl Try.underlying121 rfl (off := o0 + k * 2) (cs := cs) (by rw [HCL.out]; kernel_rfl) (E.d 0 0) (fun j u hu => (HAT.out).2 j u hu)) ?_
   refine QSeq.go fun act E => ?_
   refine qc_alloc rfl (wanted_none rfl) rfl (z := [.int .i64 0, .slice none 0 0]) (by kernel_rfl) ?_
   intro u4_2 qq hm
   have zl4_2 := qq.lt
   have Hx1 := hid qq
   have zu4_2 := hm.size
   have Cx2 := hid (show Mod (fun _ => False) wl u4_2 from hm)
   clear hm
   clear act E qq
   refine QSeq.go fun act E => ?_
   have hlz : (cs).length = List.length ([.int .i64 0, .slice none 0 0] : List Value) := (by rw [HCL.out]; rfl)
   refine qc_store rfl (wanted_none rfl) rfl Hx1.out (off := 0) (vs := cs) (by rw [hlz]; kernel_rfl) HOC.out (by rw [hlz]; exact Nat.le_of_eq (Nat.zero_add _)) (E.d 2 0) (ec (E.d 1 1)) ?_
   intro u4_3 qc0 hm
   have qq := qc0.eqv (b := (cs : List Value).toArray) (lay_whole #[.int .i64 0, .slice none 0 0] _ (by rw [hlz]; rfl))
   clear qc0 hlz
   have Hx3 := hid qq
   have zu4_3 := hm.size
   have HMu4_3 := hid hm
   have Cx4 := hid (Mod.goS (S' := (fun _ => False)) Cx2.out hm (fun _ h => h) (by intro k h0 h2; omega))
   clear hm Cx2
   clear act E qq Hx1
   clear HMu4_3
   refine QSeq.nil (t' := [_, _, _, _]) rfl ?_
   obtain rfl := HA0.out
   clear HA0 oe8 oe10
   simp only [pz, Act.put, sIB, sCZ, sCS, List.set_nil]
   go_upto_region 5 with (fail)
   refine wp_region_U 22 [14, 15, 16, 17, 18, 19, 5] [0, 1, 2, 3, 4, 5, 6] (fun a0 HA0 => ?_)
   have oe1 := ev HA0 1 rfl
   have oe5 := ev HA0 5 rfl
   have oe7 := ev HA0 7 rfl
   refine QSeq.pure rfl _ (fun E => ex_move rfl (E.y 6 oe5)) ?_
   refine QSeq.pure rfl _ (fun E => ex_move rfl (E.v oe1)) ?_
   refine QSeq.pure rfl _ (fun E => ex_loadA rfl Try.underlying121 rfl (off := 0) (cs := cs) (by rw [HCL.out]; kernel_rfl) (E.v oe7) (Cs.whole Hx3.out)) ?_
   refine QSeq.go fun act E => ?_
   have ea16 : act.eval (.tmp 16) = .agg cs.toArray := (E.d 2 0)
   refine qc_call (args := #[.agg cs.toArray]) rfl (wanted_none rfl) (by rw [ex_callV rfl (E.d 1 1) Try.func56 (by kernel_rfl) (by kernel_rfl)]; exact congrArg (fun z => Result.ok (Next.enter _ z) _) (by simp only [List.map_toArray, List.map_cons, List.map_nil, ea16]; try rfl)) (cop_Tb _ _ _ _ (HRD.out.mod Cx4.out (fun _ _ h => h)) (by intro k h1; have hb := HBT.out k h1; omega) HPK.out) ?_
   rintro e u5_3 ⟨cn, rfl, qnw, hm⟩
   have HCN := hid (TbR.len qnw)
   refine ⟨_, rfl, ?_⟩
   have Hx5 := hid qnw
   have zu5_3 := hm.size
   have Cx6 := hid (show Mod (fun _ => False) u4_3 u5_3 from hm)
   clear hm
   clear act E qnw ea16
   refine QSeq.go fun act E => ?_
   refine qc_buildS (e := 121) (cs := cn) (zc := [.int .i64 0, .slice none 0 0]) (sz := 2) rfl (wanted_none rfl) rfl Try.underlying49 (by kernel_rfl) rfl (by decide) (by decide) (E.d 3 0) (TbR.len Hx5.out) ?_
   intro u5_4 qrow hm
   have zl5_4 := qrow.lt
   have Hx7 := hid qrow
   have zu5_4 := hm.size
   have HMu5_4 := hid hm
   have Cx8 := hid (Cx6.out.goE hm)
   clear hm Cx6
   clear act E qrow
   refine QSeq.go fun act E => ?_
   refine qc_appS (A := TbR) (e := 121) rfl (wanted_none rfl) rfl (.agg #[.int .i64 0, .slice none 0 0]) 32 Try.underlying49 info_Tb (by rfl) (of_decide_eq_true (by kernel_rfl)) (E.d 0 4) (E.d 4 0) (((HAL.out.mod Cx4.out (fun _ _ h => h) (fun _ _ h => h)).mod Cx8.out (fun _ _ h => h) (fun _ _ h => h))) (RdS.single (R := (fun k => (New u4_3 u5_3 k) ∨ (k = u5_3.heap.size))) Hx7.out ((Hx5.out.mod HMu5_4.out (fun _ _ h => h)).widen (by intro k h1; first | omega | exact h1.elim | exact Or.inl h1 | exact Or.inr (h1))) (by right; rfl)) (by intro k h1 h2; omega) (by have h9 := HL.out; rw [List.length_take]; simp only [List.length_cons, List.length_nil]; omega) (by have h9 := HL.out; rw [List.length_take]; simp only [List.length_cons, List.length_nil]; rw [maxLen_val]; omega) ?_
   intro ao5 cap5 u5_5 qout hm
   have Hx9 := hid (qout.widen (R' := (fun k => (New w wl k) ∨ (New u5_4 u5_5 k))) (E' := (fun k => (New w wl k) ∨ (New u4_3 u5_3 k) ∨ (k = u5_3.heap.size))) (fun _ h => h) (by intro k h1; rcases h1 with h1 | (h1 | h1) <;> first | omega | exact h1.elim | exact Or.inl h1 | exact Or.inr (Or.inl h1) | exact Or.inr (Or.inr (h1))))
   have zu5_5 := hm.size
   have HMu5_5 := hid hm
   have Cx10 := hid (Mod.goS (S' := (fun k => (New w wl k))) Cx8.out hm (fun _ h => h.elim) (by intro k h0 h2; exact h2))
   clear hm Cx8
   clear act E qout HAL
   refine QSeq.pure rfl _ (fun E => ex_assign rfl (E.d 5 0)) ?_
   have Hx11 := hid ((Hx5.out.mod HMu5_4.out (fun _ _ h => h)).mod HMu5_5.out (by intro k h1 h2; omega))
   have Hx12 := hid (Hx7.out.mod HMu5_5.out (by intro h2; omega))
   clear Hx5 Hx7 HMu5_4 HMu5_5
   refine QSeq.nil (t' := [_, _, _, _, _, _, _]) rfl ?_
   obtain rfl := HA0.out
   clear HA0 oe1 oe5 oe7
   simp only [pz, Act.put, sIB, sCZ, sCS]
   have hq := Hx9.out
   rw [show l.take k ++ [l[k]] = l.take (k + 1) from (List.take_succ_eq_append_getElem hlt).symm] at hq
   have HQ := Lib.hid hq
   clear hq
   go_upto_region 6 with (fail)
   refine wp_region_U 22 [20, 10] [0, 1] (fun a0 HA0 => ?_)
   have oe10 := ev HA0 10 rfl
   refine QSeq.pure rfl (.int .i64 (((k : Nat) : Int) + 1)) (fun E => ex_binE rfl (E.y 1 oe10) rfl (guard_ints _ _ _ _ _ _) (run_add_i _ _ Try.underlying3) (congrArg (Value.int .i64) (IntWalk.i64_in _ (by have h9 := HL.out; omega)))) ?_
   refine QSeq.pure rfl _ (fun E => ex_move rfl (E.d 0 0)) ?_
   refine QSeq.nil (t' := [_, _]) rfl ?_
   obtain rfl := HA0.out
   clear HA0 oe10
   simp only [pz, Act.put, sIB, sCZ, sCS]
   go_wp2
   go_roundw
   case rel => exact ⟨k + 1, by go_num, by omega, by omega, HQ.out.widen (by intro b h1; (try dsimp only at h1 ⊢); omega) (by intro b h1; (try dsimp only at h1 ⊢); omega), ((HSL.out.mod Cx4.out (fun _ _ h => h)).mod Cx10.out (sN HBT)), ((HML.out.trans Cx4.out (fun _ _ h => h.elim)).trans Cx10.out (by intro k h1 h2; omega))⟩
   case measure => simp [intOf]; omega
  ·obtain rfl : l.length = k := by omega
   have hq := HAL.out
   rw [List.take_length] at hq
   have HQ := Lib.hid hq
   clear hq
   go_upto_region 3 with (fail)
   refine wp_region_U 22 [11] [0] (fun a0 HA0 => ?_)
   have oe9 := ev HA0 9 rfl
   have oe10 := ev HA0 10 rfl
   refine QSeq.pure rfl (.bool false) (fun E => ex_binE rfl (E.v oe10) (E.v oe9) (guard_ints _ _ _ _ _ _) (run_lss_i _ _ _ Try.underlying3) (congrArg Value.bool (decide_eq_false (by omega)))) ?_
   refine QSeq.nil (t' := [_]) rfl ?_
   obtain rfl := HA0.out
   clear HA0 oe9 oe10
   simp only [pz, Act.put, sIB, sCZ, sCS]
   go_upto_region 7 with (fail)
   refine wp_region_U 22 [21, 4] [0, 1] (fun a0 HA0 => ?_)
   have oe5 := ev HA0 5 rfl
   refine QSeq.pure rfl _ (fun E => ex_move rfl (E.v oe5)) ?_
   refine QSeq.pure rfl _ (fun E => ex_assign rfl (E.d 0 0)) ?_
   refine QSeq.nil (t' := [_, _]) rfl ?_
   obtain rfl := HA0.out
   clear HA0 oe5
   simp only [pz, Act.put, sIB, sCZ, sCS]
   go_wp2
   go_ret
   exact ⟨_, rfl, by rw [List.take_length]; exact HQ.out.rd.widen (by intro b h1; (try dsimp only at h1 ⊢); omega), HML.out⟩
theorem lay_pl1 (x : Op) (u v : Value) (h : x.nc.length = 32) : lay (x.cells u).toArray 1 [v] = (([.int .i64 x.ix, v] ++ x.nc.map bv : List Value)).toArray := by simp [lay, Op.cells, h]
theorem RdR_lenx {R : Nat → Prop} {N : Nat} {w : World} {ao : Option Addr} {n cap : Nat} {bs : List Int} (h : RdR R N w (.slice ao n cap) bs) (hn : n = bs.length) : RdR R bs.length w (.slice ao n cap) bs := ⟨h.1, h.2.1, Nat.le_refl _⟩
set_option maxHeartbeats 4000000 in
theorem cop_Op : CopR OpR cpOp 36 := by
 intro R2 x cs w hx hB2 hP
 obtain ⟨v_l, rfl, hok, hs0⟩ := hx
 obtain ⟨ao, cap, rfl⟩ := hs0.shape
 have HS := Lib.hid hs0
 have HBT := Lib.hid hB2
 have HOK := Lib.hid hok
 have HP := Lib.hid hP
 have HNB := hid (show OwR (fun k => False) 900000 w (.slice none 0 0) [] from ⟨Own.nil _ _ _ _, (fun g h => by cases h), Nat.zero_le _⟩)
 clear hs0 hB2 hok hP
 go_enter Try.func36, Try.ntmps36
 go_upto_region 1 with (fail)
 obtain ⟨w1, hw1⟩ : ∃ zz, zz = ((w.alloc (.cells (x.cells (.slice ao x.pl.length cap) : List Value).toArray 60)).alloc (.cells #[.int .i64 0, .slice none 0 0, .int .u8 0, .int .u8 0, .int .u8 0, .int .u8 0, .int .u8 0, .int .u8 0, .int .u8 0, .int .u8 0, .int .u8 0, .int .u8 0, .int .u8 0, .int .u8 0, .int .u8 0, .int .u8 0, .int .u8 0, .int .u8 0, .int .u8 0, .int .u8 0, .int .u8 0, .int .u8 0, .int .u8 0, .int .u8 0, .int .u8 0, .int .u8 0, .int .u8 0, .int .u8 0, .int .u8 0, .int .u8 0, .int .u8 0, .int .u8 0, .int .u8 0, .int .u8 0] 60)) := ⟨_, rfl⟩
 change Code.wp _ _ _ _ ((w.alloc (.cells (x.cells (.slice ao x.pl.length cap) : List Value).toArray 60)).alloc (.cells #[.int .i64 0, .slice none 0 0, .int .u8 0, .int .u8 0, .int .u8 0, .int .u8 0, .int .u8 0, .int .u8 0, .int .u8 0, .int .u8 0, .int .u8 0, .int .u8 0, .int .u8 0, .int .u8 0, .int .u8 0, .int .u8 0, .int .u8 0, .int .u8 0, .int .u8 0, .int .u8 0, .int .u8 0, .int .u8 0, .int .u8 0, .int .u8 0, .int .u8 0, .int .u8 0, .int .u8 0, .int .u8 0, .int .u8 0, .int .u8 0, .int .u8 0, .int .u8 0, .int .u8 0, .int .u8 0] 60))
 rw [← hw1]
 have HB1 := hid (show Cs w1 (w.heap.size) (x.cells (.slice ao x.pl.length cap) : List Value).toArray 60 by rw [hw1]; exact (Cs.new _ _ _).alloc _)
 have HB2 := hid (show Cs w1 (w.heap.size + 1) #[.int .i64 0, .slice none 0 0, .int .u8 0, .int .u8 0, .int .u8 0, .int .u8 0, .int .u8 0, .int .u8 0, .int .u8 0, .int .u8 0, .int .u8 0, .int .u8 0, .int .u8 0, .int .u8 0, .int .u8 0, .int .u8 0, .int .u8 0, .int .u8 0, .int .u8 0, .int .u8 0, .int .u8 0, .int .u8 0, .int .u8 0, .int .u8 0, .int .u8 0, .int .u8 0, .int .u8 0, .int .u8 0, .int .u8 0, .int .u8 0, .int .u8 0, .int .u8 0, .int .u8 0, .int .u8 0] 60 by rw [hw1]; exact Cs_newN _ _ _ (by simp))
 have hm : Mod (fun _ => False) w w1 := by rw [hw1]; exact ((Mod.refl _ _).alloc _).alloc _
 have HM0 := hid (show Mod (fun _ => False) w w1 from hm.mono (fun _ _ h => h.elim))
 have hs1 : w1.heap.size = w.heap.size + 2 := by rw [hw1]; simp
 have Hx1 := hid (HS.out.mod hm (fun _ _ h => h))
 clear HS
 have Hx2 := hid (HNB.out.mod hm (fun _ _ h => h))
 clear HNB
 clear hw1 hm
 go_upto_region 1 with (fail)
 refine wp_region_U 8 [3, 4, 5, 6, 12] [0, 1, 2, 3, 4] (fun a0 HA0 => ?_)
 have oe1 := ev HA0 1 rfl
 refine QSeq.pure rfl (.pointer (some ⟨w.heap.size, 1, none⟩)) (fun E => ex_field rfl Try.underlying60 rfl (by kernel_rfl) (E.v oe1)) ?_
 refine QSeq.pure rfl _ (fun E => ex_load1 rfl Try.underlying58 rfl (E.d 0 0) (Cs.hd1 HB1.out rfl)) ?_
 refine QSeq.go fun act E => ?_
 refine qc_appR rfl (wanted_none rfl) rfl rfl (E.d 1 0) Hx2.out Hx1.out (by have h9 := HP.out; unfold cpOp at h9; simpa using h9) ?_
 intro ao1 cap1 u1_2 qnb hm
 have Hx3 := hid (qnb.widen (R' := (fun k => (False) ∨ (New w1 u1_2 k))) (fun _ h => h) (Nat.le_refl _))
 have zu1_2 := hm.size
 have Cx4 := hid (show Mod (fun k => (False)) w1 u1_2 from hm)
 clear hm
 clear act E qnb Hx2
 refine QSeq.pure rfl (.pointer (some ⟨w.heap.size, 1, none⟩)) (fun E => ex_field rfl Try.underlying60 rfl (by kernel_rfl) (E.v oe1)) ?_
 refine QSeq.go fun act E => ?_
 refine qc_store rfl (wanted_none rfl) rfl (HB1.out.mod Cx4.out (by intro h2; (try simp only [false_or] at h2) <;> omega)) (off := 1) (vs := [Value.slice ao1 (([] : List Int).length + x.pl.length) cap1]) (by kernel_rfl) one1 (by simp only [List.size_toArray, Op.cells, List.length_append, List.length_map, List.length_cons, List.length_nil, HOK.out.2.1] <;> omega) (E.d 3 0) (ec (E.d 2 1)) ?_
 intro u1_4 qc0 hm
 have qB1 := qc0.eqv (b := (([.int .i64 x.ix, Value.slice ao1 (([] : List Int).length + x.pl.length) cap1] ++ x.nc.map bv) : List Value).toArray) (lay_pl1 x _ _ HOK.out.2.1)
 clear qc0
 have Hx5 := hid qB1
 have zu1_4 := hm.size
 have HMu1_4 := hid hm
 have Cx6 := hid (Mod.goS (S' := (fun k => (False) ∨ (k = w.heap.size))) Cx4.out hm (fun _ h => Or.inl h) (by intro k h0 h2; exact Or.inr (h2)))
 clear hm Cx4
 clear act E qB1 HB1
 have Hx7 := hid (Hx3.out.mod HMu1_4.out (by intro k h1 h2; (try simp only [false_or] at h1 h2) <;> omega))
 clear Hx3 HMu1_4
 refine QSeq.nil (t' := [_, _, _, _, _]) rfl ?_
 obtain rfl := HA0.out
 clear HA0 oe1
 simp only [pz, Act.put, sIB, sCZ, sCS, List.set_nil]
 go_upto_region 2 with (fail)
 refine wp_region_U 8 [7, 9] [0, 1] (fun a0 HA0 => ?_)
 have oe1 := ev HA0 1 rfl
 have oe2 := ev HA0 2 rfl
 refine QSeq.pure rfl _ (fun E => ex_loadA rfl Try.underlying60 rfl (off := 0) (cs := ([.int .i64 x.ix, Value.slice ao1 (([] : List Int).length + x.pl.length) cap1] ++ x.nc.map bv)) (by simp only [List.length_append, List.length_map, HOK.out.2.1]; kernel_rfl) (E.v oe1) (Cs.whole Hx5.out)) ?_
 refine QSeq.go fun act E => ?_
 refine qc_store rfl (wanted_none rfl) rfl (HB2.out.mod Cx6.out (by intro h2; (try simp only [false_or] at h2) <;> omega)) (off := 0) (vs := ([.int .i64 x.ix, Value.slice ao1 (([] : List Int).length + x.pl.length) cap1] ++ x.nc.map bv)) (by simp only [List.length_append, List.length_map, HOK.out.2.1]; kernel_rfl) (by intro u hu; simp only [List.mem_append, List.mem_cons, List.not_mem_nil, or_false, List.mem_map] at hu; rcases hu with (rfl | rfl) | ⟨y, -, rfl⟩ <;> rfl) (by simp only [List.size_toArray, List.length_append, List.length_map, List.length_cons, List.length_nil, HOK.out.2.1]; decide) (E.v oe2) (ec (E.d 0 0)) ?_
 intro u2_1 qc0 hm
 have qB2 := qc0.eqv (b := (([.int .i64 x.ix, Value.slice ao1 (([] : List Int).length + x.pl.length) cap1] ++ x.nc.map bv) : List Value).toArray) (lay_whole _ _ (by simp only [List.length_append, List.length_map, HOK.out.2.1]; rfl))
 clear qc0
 have Hx8 := hid qB2
 have zu2_1 := hm.size
 have Cx9 := hid (show Mod (fun k => (k = w.heap.size + 1)) u1_4 u2_1 from hm)
 clear hm
 clear act E qB2 HB2
 refine QSeq.nil (t' := [_, _]) rfl ?_
 obtain rfl := HA0.out
 clear HA0 oe1 oe2
 simp only [pz, Act.put, sIB, sCZ, sCS, List.set_nil]
 have hq := (Hx7.out.mod Cx9.out (by intro k h1 h2; (try simp only [false_or] at h1 h2) <;> omega))
 rw [List.nil_append] at hq
 go_wp2
 exact bodyPost_ret (results_cellA rfl _ _ (w.heap.size + 1) ([.int .i64 x.ix, Value.slice ao1 (([] : List Int).length + x.pl.length) cap1] ++ x.nc.map bv) rfl (fun k u hu => by rw [Hx8.out.cell]; simpa using hu) Try.underlying60 rfl (by simp only [List.length_append, List.length_map, HOK.out.2.1]; kernel_rfl)) rfl ⟨_, rfl, ⟨_, rfl, HOK.out, RdR_lenx (hq.rd.widen (by intro k h1; rcases h1 with h1 | h1 <;> first | exact h1.elim | omega) (Nat.le_refl _)) (by simp)⟩, ((HM0.out.trans Cx6.out (by intro k h1 h2; (try simp only [false_or] at h1 h2) <;> omega)).trans Cx9.out (by intro k h1 h2; (try simp only [false_or] at h1 h2) <;> omega))⟩
set_option maxHeartbeats 4000000 in
theorem copied_Op : CopL OpR cpOp 54 36 := by
 intro R2 l v w hs hB2 hl hP
 obtain ⟨ao, cap, rfl⟩ := hs.shape
 have HS := Lib.hid hs
 have HBT := Lib.hid hB2
 have HL := Lib.hid hl
 have HP := Lib.hid hP
 clear hs hB2 hl hP
 go_enter Try.func54, Try.ntmps54
 go_upto_region 2 with (fail)
 have HM0 := hid (Mod.refl (fun _ => False) w)
 go_upto_region 2 with (fail)
 refine wp_region_U 22 [8, 9, 10] [0, 1, 2] (fun a0 HA0 => ?_)
 have oe0 := ev HA0 0 rfl
 refine QSeq.pure rfl _ (fun E => ex_move rfl (E.v oe0)) ?_
 refine QSeq.pure rfl (.int .i64 l.length) (fun E => ex_lenS rfl (E.d 0 0) Try.underlying48) ?_
 refine QSeq.pure rfl (.int .i64 0) (fun E => ex_move rfl rfl) ?_
 refine QSeq.nil (t' := [_, _, _]) rfl ?_
 obtain rfl := HA0.out
 clear HA0 oe0
 simp only [pz, Act.put, sIB, sCZ, sCS]
 go_wp2
 go_loopw [5, 10] (fun ta ti wr => ∃ k : Nat, ti = .int .i64 (k : Int) ∧ k ≤ l.length ∧ w.heap.size ≤ wr.heap.size ∧ OwS OpR 60 (fun b => w.heap.size ≤ b ∧ b < wr.heap.size) (fun b => w.heap.size ≤ b ∧ b < wr.heap.size) wr ta (l.take k) ∧ RdS OpR R2 wr (.slice ao l.length cap) l ∧ Mod (fun _ => False) w wr) (fun _ ti _ => l.length - (intOf ti).toNat)
 case atStart => exact ⟨0, rfl, Nat.zero_le _, Nat.le_refl _, OwS.nil _ _ _ _ _, HS.out, HM0.out⟩
 case round =>
  obtain ⟨k, rfl, hk, hz, ha, hs, hm⟩ := hrel
  obtain ⟨wl, rfl⟩ : ∃ x, x = wr := ⟨_, rfl⟩
  obtain ⟨aol, capl, rfl⟩ := ha.shape
  have HAL := Lib.hid ha
  have HSL := Lib.hid hs
  have HML := Lib.hid hm
  clear ha hs hm HS HM0
  by_cases hlt : k < l.length
  ·skip
   go_upto_region 3 with (fail)
   refine wp_region_U 22 [11] [0] (fun a0 HA0 => ?_)
   have oe9 := ev HA0 9 rfl
   have oe10 := ev HA0 10 rfl
   refine QSeq.pure rfl (.bool true) (fun E => ex_binE rfl (E.v oe10) (E.v oe9) (guard_ints _ _ _ _ _ _) (run_lss_i _ _ _ Try.underlying3) (congrArg Value.bool (decide_eq_true (by omega)))) ?_
   refine QSeq.nil (t' := [_]) rfl ?_
   obtain rfl := HA0.out
   clear HA0 oe9 oe10
   simp only [pz, Act.put, sIB, sCZ, sCS]
   obtain ⟨g0, o0, cs, eao, hrg, hrd, hcs⟩ := HSL.out.at hlt
   subst eao
   have HCL := hid (show cs.length = 34 from OpR.len hrd)
   have HAT := hid (show CellsAt R2 wl g0 (o0 + k * 34) cs from ⟨hrg, hcs⟩)
   have HRD := Lib.hid hrd
   have HOC := hid (OpR.one hrd)
   have HPK := hid (HP.out _ (List.getElem_mem hlt))
   clear hrg hrd hcs
   go_upto_region 4 with (fail)
   refine wp_region_U 22 [12, 13, 7, 25] [0, 1, 2, 3] (fun a0 HA0 => ?_)
   have oe8 := ev HA0 8 rfl
   have oe10 := ev HA0 10 rfl
   refine QSeq.pure rfl (.pointer (some ⟨g0, o0 + k * 34, none⟩)) (fun E => ex_idxS (i := k) (s := 34) rfl Try.underlying48 (by kernel_rfl) (E.v oe8) (E.v oe10) (by omega)) ?_
   refine QSeq.pure rfl _ (fun E => ex_loadA rfl Try.underlying60 rfl (off := o0 + k * 34) (cs := cs) (by rw [HCL.out]; kernel_rfl) (E.d 0 0) (fun j u hu => (HAT.out).2 j u hu)) ?_
   refine QSeq.go fun act E => ?_
   refine qc_alloc rfl (wanted_none rfl) rfl (z := [.int .i64 0, .slice none 0 0, .int .u8 0, .int .u8 0, .int .u8 0, .int .u8 0, .int .u8 0, .int .u8 0, .int .u8 0, .int .u8 0, .int .u8 0, .int .u8 0, .int .u8 0, .int .u8 0, .int .u8 0, .int .u8 0, .int .u8 0, .int .u8 0, .int .u8 0, .int .u8 0, .int .u8 0, .int .u8 0, .int .u8 0, .int .u8 0, .int .u8 0, .int .u8 0, .int .u8 0, .int .u8 0, .int .u8 0, .int .u8 0, .int .u8 0, .int .u8 0, .int .u8 0, .int .u8 0]) (by kernel_rfl) ?_
   intro u4_2 qq hm
   have zl4_2 := qq.lt
   have Hx1 := hid qq
   have zu4_2 := hm.size
   have Cx2 := hid (show Mod (fun _ => False) wl u4_2 from hm)
   clear hm
   clear act E qq
   refine QSeq.go fun act E => ?_
   have hlz : (cs).length = List.length ([.int .i64 0, .slice none 0 0, .int .u8 0, .int .u8 0, .int .u8 0, .int .u8 0, .int .u8 0, .int .u8 0, .int .u8 0, .int .u8 0, .int .u8 0, .int .u8 0, .int .u8 0, .int .u8 0, .int .u8 0, .int .u8 0, .int .u8 0, .int .u8 0, .int .u8 0, .int .u8 0, .int .u8 0, .int .u8 0, .int .u8 0, .int .u8 0, .int .u8 0, .int .u8 0, .int .u8 0, .int .u8 0, .int .u8 0, .int .u8 0, .int .u8 0, .int .u8 0, .int .u8 0, .int .u8 0] : List Value) := (by rw [HCL.out]; rfl)
   refine qc_store rfl (wanted_none rfl) rfl Hx1.out (off := 0) (vs := cs) (by rw [hlz]; kernel_rfl) HOC.out (by rw [hlz]; exact Nat.le_of_eq (Nat.zero_add _)) (E.d 2 0) (ec (E.d 1 1)) ?_
   intro u4_3 qc0 hm
   have qq := qc0.eqv (b := (cs : List Value).toArray) (lay_whole #[.int .i64 0, .slice none 0 0, .int .u8 0, .int .u8 0, .int .u8 0, .int .u8 0, .int .u8 0, .int .u8 0, .int .u8 0, .int .u8 0, .int .u8 0, .int .u8 0, .int .u8 0, .int .u8 0, .int .u8 0, .int .u8 0, .int .u8 0, .int .u8 0, .int .u8 0, .int .u8 0, .int .u8 0, .int .u8 0, .int .u8 0, .int .u8 0, .int .u8 0, .int .u8 0, .int .u8 0, .int .u8 0, .int .u8 0, .int .u8 0, .int .u8 0, .int .u8 0, .int .u8 0, .int .u8 0] _ (by rw [hlz]; rfl))
   clear qc0 hlz
   have Hx3 := hid qq
   have zu4_3 := hm.size
   have HMu4_3 := hid hm
   have Cx4 := hid (Mod.goS (S' := (fun _ => False)) Cx2.out hm (fun _ h => h) (by intro k h0 h2; omega))
   clear hm Cx2
   clear act E qq Hx1
   clear HMu4_3
   refine QSeq.nil (t' := [_, _, _, _]) rfl ?_
   obtain rfl := HA0.out
   clear HA0 oe8 oe10
   simp only [pz, Act.put, sIB, sCZ, sCS, List.set_nil]
   go_upto_region 5 with (fail)
   refine wp_region_U 22 [14, 15, 16, 17, 18, 19, 5] [0, 1, 2, 3, 4, 5, 6] (fun a0 HA0 => ?_)
   have oe1 := ev HA0 1 rfl
   have oe5 := ev HA0 5 rfl
   have oe7 := ev HA0 7 rfl
   refine QSeq.pure rfl _ (fun E => ex_move rfl (E.y 6 oe5)) ?_
   refine QSeq.pure rfl _ (fun E => ex_move rfl (E.v oe1)) ?_
   refine QSeq.pure rfl _ (fun E => ex_loadA rfl Try.underlying60 rfl (off := 0) (cs := cs) (by rw [HCL.out]; kernel_rfl) (E.v oe7) (Cs.whole Hx3.out)) ?_
   refine QSeq.go fun act E => ?_
   have ea16 : act.eval (.tmp 16) = .agg cs.toArray := (E.d 2 0)
   refine qc_call (args := #[.agg cs.toArray]) rfl (wanted_none rfl) (by rw [ex_callV rfl (E.d 1 1) Try.func36 (by kernel_rfl) (by kernel_rfl)]; exact congrArg (fun z => Result.ok (Next.enter _ z) _) (by simp only [List.map_toArray, List.map_cons, List.map_nil, ea16]; try rfl)) (cop_Op _ _ _ _ (HRD.out.mod Cx4.out (fun _ _ h => h)) (by intro k h1; have hb := HBT.out k h1; omega) HPK.out) ?_
   rintro e u5_3 ⟨cn, rfl, qnw, hm⟩
   have HCN := hid (OpR.len qnw)
   refine ⟨_, rfl, ?_⟩
   have Hx5 := hid qnw
   have zu5_3 := hm.size
   have Cx6 := hid (show Mod (fun _ => False) u4_3 u5_3 from hm)
   clear hm
   clear act E qnw ea16
   refine QSeq.go fun act E => ?_
   refine qc_buildS (e := 60) (cs := cn) (zc := [.int .i64 0, .slice none 0 0, .int .u8 0, .int .u8 0, .int .u8 0, .int .u8 0, .int .u8 0, .int .u8 0, .int .u8 0, .int .u8 0, .int .u8 0, .int .u8 0, .int .u8 0, .int .u8 0, .int .u8 0, .int .u8 0, .int .u8 0, .int .u8 0, .int .u8 0, .int .u8 0, .int .u8 0, .int .u8 0, .int .u8 0, .int .u8 0, .int .u8 0, .int .u8 0, .int .u8 0, .int .u8 0, .int .u8 0, .int .u8 0, .int .u8 0, .int .u8 0, .int .u8 0, .int .u8 0]) (sz := 34) rfl (wanted_none rfl) rfl Try.underlying48 (by kernel_rfl) rfl (by decide) (by decide) (E.d 3 0) (OpR.len Hx5.out) ?_
   intro u5_4 qrow hm
   have zl5_4 := qrow.lt
   have Hx7 := hid qrow
   have zu5_4 := hm.size
   have HMu5_4 := hid hm
   have Cx8 := hid (Cx6.out.goE hm)
   clear hm Cx6
   clear act E qrow
   refine QSeq.go fun act E => ?_
   refine qc_appS (A := OpR) (e := 60) rfl (wanted_none rfl) rfl (.agg #[.int .i64 0, .slice none 0 0, .int .u8 0, .int .u8 0, .int .u8 0, .int .u8 0, .int .u8 0, .int .u8 0, .int .u8 0, .int .u8 0, .int .u8 0, .int .u8 0, .int .u8 0, .int .u8 0, .int .u8 0, .int .u8 0, .int .u8 0, .int .u8 0, .int .u8 0, .int .u8 0, .int .u8 0, .int .u8 0, .int .u8 0, .int .u8 0, .int .u8 0, .int .u8 0, .int .u8 0, .int .u8 0, .int .u8 0, .int .u8 0, .int .u8 0, .int .u8 0, .int .u8 0, .int .u8 0]) 64 Try.underlying48 info_Op (by rfl) (of_decide_eq_true (by kernel_rfl)) (E.d 0 4) (E.d 4 0) (((HAL.out.mod Cx4.out (fun _ _ h => h) (fun _ _ h => h)).mod Cx8.out (fun _ _ h => h) (fun _ _ h => h))) (RdS.single (R := (fun k => (New u4_3 u5_3 k) ∨ (k = u5_3.heap.size))) Hx7.out ((Hx5.out.mod HMu5_4.out (fun _ _ h => h)).widen (by intro k h1; first | omega | exact h1.elim | exact Or.inl h1 | exact Or.inr (h1))) (by right; rfl)) (by intro k h1 h2; omega) (by have h9 := HL.out; rw [List.length_take]; simp only [List.length_cons, List.length_nil]; omega) (by have h9 := HL.out; rw [List.length_take]; simp only [List.length_cons, List.length_nil]; rw [maxLen_val]; omega) ?_
   intro ao5 cap5 u5_5 qout hm
   have Hx9 := hid (qout.widen (R' := (fun k => (New w wl k) ∨ (New u5_4 u5_5 k))) (E' := (fun k => (New w wl k) ∨ (New u4_3 u5_3 k) ∨ (k = u5_3.heap.size))) (fun _ h => h) (by intro k h1; rcases h1 with h1 | (h1 | h1) <;> first | omega | exact h1.elim | exact Or.inl h1 | exact Or.inr (Or.inl h1) | exact Or.inr (Or.inr (h1))))
   have zu5_5 := hm.size
   have HMu5_5 := hid hm
   have Cx10 := hid (Mod.goS (S' := (fun k => (New w wl k))) Cx8.out hm (fun _ h => h.elim) (by intro k h0 h2; exact h2))
   clear hm Cx8
   clear act E qout HAL
   refine QSeq.pure rfl _ (fun E => ex_assign rfl (E.d 5 0)) ?_
   have Hx11 := hid ((Hx5.out.mod HMu5_4.out (fun _ _ h => h)).mod HMu5_5.out (by intro k h1 h2; omega))
   have Hx12 := hid (Hx7.out.mod HMu5_5.out (by intro h2; omega))
   clear Hx5 Hx7 HMu5_4 HMu5_5
   refine QSeq.nil (t' := [_, _, _, _, _, _, _]) rfl ?_
   obtain rfl := HA0.out
   clear HA0 oe1 oe5 oe7
   simp only [pz, Act.put, sIB, sCZ, sCS]
   have hq := Hx9.out
   rw [show l.take k ++ [l[k]] = l.take (k + 1) from (List.take_succ_eq_append_getElem hlt).symm] at hq
   have HQ := Lib.hid hq
   clear hq
   go_upto_region 6 with (fail)
   refine wp_region_U 22 [20, 10] [0, 1] (fun a0 HA0 => ?_)
   have oe10 := ev HA0 10 rfl
   refine QSeq.pure rfl (.int .i64 (((k : Nat) : Int) + 1)) (fun E => ex_binE rfl (E.y 1 oe10) rfl (guard_ints _ _ _ _ _ _) (run_add_i _ _ Try.underlying3) (congrArg (Value.int .i64) (IntWalk.i64_in _ (by have h9 := HL.out; omega)))) ?_
   refine QSeq.pure rfl _ (fun E => ex_move rfl (E.d 0 0)) ?_
   refine QSeq.nil (t' := [_, _]) rfl ?_
   obtain rfl := HA0.out
   clear HA0 oe10
   simp only [pz, Act.put, sIB, sCZ, sCS]
   go_wp2
   go_roundw
   case rel => exact ⟨k + 1, by go_num, by omega, by omega, HQ.out.widen (by intro b h1; (try dsimp only at h1 ⊢); omega) (by intro b h1; (try dsimp only at h1 ⊢); omega), ((HSL.out.mod Cx4.out (fun _ _ h => h)).mod Cx10.out (sN HBT)), ((HML.out.trans Cx4.out (fun _ _ h => h.elim)).trans Cx10.out (by intro k h1 h2; omega))⟩
   case measure => simp [intOf]; omega
  ·obtain rfl : l.length = k := by omega
   have hq := HAL.out
   rw [List.take_length] at hq
   have HQ := Lib.hid hq
   clear hq
   go_upto_region 3 with (fail)
   refine wp_region_U 22 [11] [0] (fun a0 HA0 => ?_)
   have oe9 := ev HA0 9 rfl
   have oe10 := ev HA0 10 rfl
   refine QSeq.pure rfl (.bool false) (fun E => ex_binE rfl (E.v oe10) (E.v oe9) (guard_ints _ _ _ _ _ _) (run_lss_i _ _ _ Try.underlying3) (congrArg Value.bool (decide_eq_false (by omega)))) ?_
   refine QSeq.nil (t' := [_]) rfl ?_
   obtain rfl := HA0.out
   clear HA0 oe9 oe10
   simp only [pz, Act.put, sIB, sCZ, sCS]
   go_upto_region 7 with (fail)
   refine wp_region_U 22 [21, 4] [0, 1] (fun a0 HA0 => ?_)
   have oe5 := ev HA0 5 rfl
   refine QSeq.pure rfl _ (fun E => ex_move rfl (E.v oe5)) ?_
   refine QSeq.pure rfl _ (fun E => ex_assign rfl (E.d 0 0)) ?_
   refine QSeq.nil (t' := [_, _]) rfl ?_
   obtain rfl := HA0.out
   clear HA0 oe5
   simp only [pz, Act.put, sIB, sCZ, sCS]
   go_wp2
   go_ret
   exact ⟨_, rfl, by rw [List.take_length]; exact HQ.out.rd.widen (by intro b h1; (try dsimp only at h1 ⊢); omega), HML.out⟩
set_option maxHeartbeats 4000000 in
theorem cop_Ba : CopR BaR cpBa 37 := by
 intro R2 x cs w hx hB2 hP
 obtain ⟨v_ps, v_os, v_ts, rfl, hok, hs0, hs1, hs2⟩ := hx
 obtain ⟨ao_ps, cap_ps, rfl⟩ := hs0.shape
 obtain ⟨ao_os, cap_os, rfl⟩ := hs1.shape
 obtain ⟨ao_ts, cap_ts, rfl⟩ := hs2.shape
 have HS0 := Lib.hid hs0
 have HS1 := Lib.hid hs1
 have HS2 := Lib.hid hs2
 have HBT := Lib.hid hB2
 have HOK := Lib.hid hok
 have HP := Lib.hid hP
 clear hs0 hs1 hs2 hB2 hok hP
 go_enter Try.func37, Try.ntmps37
 go_upto_region 1 with (fail)
 obtain ⟨w1, hw1⟩ : ∃ zz, zz = ((w.alloc (.cells #[.int .i64 x.ep, .int .u64 (x.tm : Nat), Value.slice ao_ps x.ps.length cap_ps, Value.slice ao_os x.os.length cap_os, Value.slice ao_ts x.ts.length cap_ts] 51)).alloc (.cells #[.int .i64 0, .int .u64 0, .slice none 0 0, .slice none 0 0, .slice none 0 0] 51)) := ⟨_, rfl⟩
 change Code.wp _ _ _ _ ((w.alloc (.cells #[.int .i64 x.ep, .int .u64 (x.tm : Nat), Value.slice ao_ps x.ps.length cap_ps, Value.slice ao_os x.os.length cap_os, Value.slice ao_ts x.ts.length cap_ts] 51)).alloc (.cells #[.int .i64 0, .int .u64 0, .slice none 0 0, .slice none 0 0, .slice none 0 0] 51))
 rw [← hw1]
 have HB1 := hid (show Cs w1 (w.heap.size) #[.int .i64 x.ep, .int .u64 (x.tm : Nat), Value.slice ao_ps x.ps.length cap_ps, Value.slice ao_os x.os.length cap_os, Value.slice ao_ts x.ts.length cap_ts] 51 by rw [hw1]; exact (Cs.new _ _ _).alloc _)
 have HB2 := hid (show Cs w1 (w.heap.size + 1) #[.int .i64 0, .int .u64 0, .slice none 0 0, .slice none 0 0, .slice none 0 0] 51 by rw [hw1]; exact Cs_newN _ _ _ (by simp))
 have hm : Mod (fun _ => False) w w1 := by rw [hw1]; exact ((Mod.refl _ _).alloc _).alloc _
 have HM0 := hid (show Mod (fun _ => False) w w1 from hm.mono (fun _ _ h => h.elim))
 have hs1 : w1.heap.size = w.heap.size + 2 := by rw [hw1]; simp
 have Hx1 := hid (HS0.out.mod hm (fun _ _ h => h))
 clear HS0
 have Hx2 := hid (HS1.out.mod hm (fun _ _ h => h))
 clear HS1
 have Hx3 := hid (HS2.out.mod hm (fun _ _ h => h))
 clear HS2
 clear hw1 hm
 go_upto_region 1 with (fail)
 generalize ha0 : Act.mk _ _ = a0
 have oe1 : a0.eval (.tmp 1) = .pointer (some ⟨w.heap.size, 0, none⟩) := by rw [← ha0]; rfl
 have hsz0 : a0.tmps.size = 16 := by rw [← ha0]; rfl
 have HA0 := hid ha0
 clear ha0
 refine wp_region_Q1 16 hsz0 [3, 4, 5, 6, 7, 8, 9, 10, 11, 12, 26, 13, 28, 14, 30] (fun k => (k = w.heap.size)) (fun k j => (k = 3 ∧ ((j = w.heap.size))) ∨ (k = 4 ∧ ((j = w.heap.size))) ∨ (k = 5 ∧ ((j = w.heap.size)))) (by intro k j h; (try dsimp only at h ⊢); omega) [qi (.pointer (some ⟨w.heap.size, 2, none⟩)), qi (.slice ao_ps x.ps.length cap_ps), qv 0, qi (.pointer (some ⟨w.heap.size, 3, none⟩)), qi (.slice ao_os x.os.length cap_os), qv 1, qi (.pointer (some ⟨w.heap.size, 4, none⟩)), qi (.slice ao_ts x.ts.length cap_ts), qv 2, qi (.pointer (some ⟨w.heap.size, 2, none⟩)), qv 3, qi (.pointer (some ⟨w.heap.size, 3, none⟩)), qv 4, qi (.pointer (some ⟨w.heap.size, 4, none⟩)), qv 5] ⟨qi_stable, qi_stable, qv_stable, qi_stable, qi_stable, qv_stable, qi_stable, qi_stable, qv_stable, qi_stable, qv_stable, qi_stable, qv_stable, qi_stable, qv_stable, trivial⟩ [2, 5, 8, 10, 12, 14] ⟨?_, ?_, ?_, ?_, ?_, ?_, ?_, ?_, ?_, ?_, ?_, ?_, ?_, ?_, ?_, trivial⟩ ?_
 ·exact stq (fun E => ex_field rfl Try.underlying51 rfl (by kernel_rfl) (E.v oe1))
 ·refine stepq_env rfl rfl rfl fun _ _ _ _ _ _ hm0 _ _ hd hub _ => ?_
  have h0 := hd ⟨0, .data⟩ (by simp) rfl _ rfl
  refine qe_run rfl (wanted_none rfl) (ex_load1 rfl Try.underlying47 rfl h0 (Cs.lit1 (HB1.out.mod hm0 (by intro h2; have hu := hub 3 10 rfl (by kernel_rfl); rcases h2 with ⟨h0, kk, hk, h2⟩ | h2 <;> omega)) rfl)) QE.refl ?_
  rfl
 ·exact stepq_chain rfl
 ·exact stq (fun E => ex_field rfl Try.underlying51 rfl (by kernel_rfl) (E.v oe1))
 ·refine stepq_env rfl rfl rfl fun _ _ _ _ _ _ hm0 _ _ hd hub _ => ?_
  have h3 := hd ⟨3, .data⟩ (by simp) rfl _ rfl
  refine qe_run rfl (wanted_none rfl) (ex_load1 rfl Try.underlying48 rfl h3 (Cs.lit1 (HB1.out.mod hm0 (by intro h2; have hu := hub 3 10 rfl (by kernel_rfl); rcases h2 with ⟨h0, kk, hk, h2⟩ | h2 <;> omega)) rfl)) QE.refl ?_
  rfl
 ·exact stepq_chain rfl
 ·exact stq (fun E => ex_field rfl Try.underlying51 rfl (by kernel_rfl) (E.v oe1))
 ·refine stepq_env rfl rfl rfl fun _ _ _ _ _ _ hm0 _ _ hd hub _ => ?_
  have h6 := hd ⟨6, .data⟩ (by simp) rfl _ rfl
  refine qe_run rfl (wanted_none rfl) (ex_load1 rfl Try.underlying49 rfl h6 (Cs.lit1 (HB1.out.mod hm0 (by intro h2; have hu := hub 3 10 rfl (by kernel_rfl); rcases h2 with ⟨h0, kk, hk, h2⟩ | h2 <;> omega)) rfl)) QE.refl ?_
  rfl
 ·exact stepq_chain rfl
 ·exact stq (fun E => ex_field rfl Try.underlying51 rfl (by kernel_rfl) (E.v oe1))
 ·exact stepq_chain rfl
 ·exact stq (fun E => ex_field rfl Try.underlying51 rfl (by kernel_rfl) (E.v oe1))
 ·exact stepq_chain rfl
 ·exact stq (fun E => ex_field rfl Try.underlying51 rfl (by kernel_rfl) (E.v oe1))
 ·exact stepq_chain rfl
 intro u1_0 hr
 have zu1_0 := hr.size
 have Cx4 := hid (hr.new (S := (fun k => (k = w.heap.size))))
 have Hx5 := hid (HB1.out.mod hr (by intro h2; omega))
 clear HB1
 clear hr
 refine QChain.go fun Z act E => ?_
 refine qc_callF (args := #[.slice ao_ps x.ps.length cap_ps, .func (.func 35) #[] #[]]) rfl (wanted_none rfl) rfl Try.func53 (args2 (E.d 1) rfl) (copied_Pm _ x.ps _ _ (Hx1.out.mod Cx4.out (sB HBT)) (by intro k h1; have hb := HBT.out k h1; omega) HP.out.1.1 HP.out.1.2) ?_
 rintro e u1_1a ⟨vops, rfl, qops, hm⟩
 obtain ⟨ao_ops, cap_ops, rfl⟩ := qops.shape
 have zu1_1a := hm.size
 refine ⟨_, rfl, hm.mono (fun _ _ h => h.elim), (fun _ => rfl), ?_⟩
 intro u1_1 hr
 have zu1_1 := hr.size
 have Hx6 := hid ((qops.widen (R' := (fun k => (New u1_0 u1_1a k))) (fun _ h => h)).mod hr (by intro k h1 h2; omega))
 have hmr := Mod.after hm hr
 have Hx7 := hid (Hx5.out.mod hmr (by intro h2; omega))
 clear Hx5
 clear hmr
 have Cx8 := hid (Cx4.out.go hm hr)
 clear Cx4 hm hr Z act E qops
 refine QChain.go fun Z act E => ?_
 refine qc_callF (args := #[.slice ao_os x.os.length cap_os, .func (.func 36) #[] #[]]) rfl (wanted_none rfl) rfl Try.func54 (args2 (E.d 4) rfl) (copied_Op _ x.os _ _ (Hx2.out.mod Cx8.out (sB HBT)) (by intro k h1; have hb := HBT.out k h1; omega) HP.out.2.1.1 HP.out.2.1.2) ?_
 rintro e u1_2a ⟨voos, rfl, qoos, hm⟩
 obtain ⟨ao_oos, cap_oos, rfl⟩ := qoos.shape
 have zu1_2a := hm.size
 refine ⟨_, rfl, hm.mono (fun _ _ h => h.elim), (fun _ => rfl), ?_⟩
 intro u1_2 hr
 have zu1_2 := hr.size
 have Hx9 := hid ((qoos.widen (R' := (fun k => (New u1_1 u1_2a k))) (fun _ h => h)).mod hr (by intro k h1 h2; omega))
 have hmr := Mod.after hm hr
 have Hx10 := hid (Hx7.out.mod hmr (by intro h2; omega))
 have Hx11 := hid (Hx6.out.mod hmr (by intro k h1 h2; omega))
 clear Hx7 Hx6
 clear hmr
 have Cx12 := hid (Cx8.out.go hm hr)
 clear Cx8 hm hr Z act E qoos
 refine QChain.go fun Z act E => ?_
 refine qc_callF (args := #[.slice ao_ts x.ts.length cap_ts, .func (.func 56) #[] #[]]) rfl (wanted_none rfl) rfl Try.func55 (args2 (E.d 7) rfl) (copied_Tb _ x.ts _ _ (Hx3.out.mod Cx12.out (sB HBT)) (by intro k h1; have hb := HBT.out k h1; omega) HP.out.2.2.1 HP.out.2.2.2) ?_
 rintro e u1_3a ⟨vots, rfl, qots, hm⟩
 obtain ⟨ao_ots, cap_ots, rfl⟩ := qots.shape
 have zu1_3a := hm.size
 refine ⟨_, rfl, hm.mono (fun _ _ h => h.elim), (fun _ => rfl), ?_⟩
 intro u1_3 hr
 have zu1_3 := hr.size
 have Hx13 := hid ((qots.widen (R' := (fun k => (New u1_2 u1_3a k))) (fun _ h => h)).mod hr (by intro k h1 h2; omega))
 have hmr := Mod.after hm hr
 have Hx14 := hid (Hx10.out.mod hmr (by intro h2; omega))
 have Hx15 := hid (Hx11.out.mod hmr (by intro k h1 h2; omega))
 have Hx16 := hid (Hx9.out.mod hmr (by intro k h1 h2; omega))
 clear Hx10 Hx11 Hx9
 clear hmr
 have Cx17 := hid (Cx12.out.go hm hr)
 clear Cx12 hm hr Z act E qots
 refine QChain.go fun Z act E => ?_
 refine qc_store rfl (wanted_none rfl) rfl Hx14.out (off := 2) (vs := [Value.slice ao_ops x.ps.length cap_ops]) (by kernel_rfl) one1 (by show 2 + 1 ≤ 5; decide) (E.d 9) (ec (chv (v := .slice ao_ops x.ps.length cap_ops) (E.d 2))) ?_
 intro u1_4a qc0 hm
 have qB1 := qc0.eqv (b := #[.int .i64 x.ep, .int .u64 (x.tm : Nat), Value.slice ao_ops x.ps.length cap_ops, Value.slice ao_os x.os.length cap_os, Value.slice ao_ts x.ts.length cap_ts]) rfl
 clear qc0
 have zu1_4a := hm.size
 refine ⟨hm.mono (by intro k hk h; omega), (fun _ => rfl), ?_⟩
 intro u1_4 hr
 have zu1_4 := hr.size
 have Hx18 := hid (qB1.mod hr (by intro h2; omega))
 have hmr := hm.two hr
 have Hx19 := hid (Hx15.out.mod hmr (by intro k h1 h2; omega))
 have Hx20 := hid (Hx16.out.mod hmr (by intro k h1 h2; omega))
 have Hx21 := hid (Hx13.out.mod hmr (by intro k h1 h2; omega))
 clear Hx15 Hx16 Hx13
 clear hmr
 have Cx22 := hid (Cx17.out.goM hm hr (fun _ _ h => h))
 clear Cx17 hm hr Z act E qB1 Hx14
 refine QChain.go fun Z act E => ?_
 refine qc_store rfl (wanted_none rfl) rfl Hx18.out (off := 3) (vs := [Value.slice ao_oos x.os.length cap_oos]) (by kernel_rfl) one1 (by show 3 + 1 ≤ 5; decide) (E.d 11) (ec (chv (v := .slice ao_oos x.os.length cap_oos) (E.d 5))) ?_
 intro u1_5a qc0 hm
 have qB1 := qc0.eqv (b := #[.int .i64 x.ep, .int .u64 (x.tm : Nat), Value.slice ao_ops x.ps.length cap_ops, Value.slice ao_oos x.os.length cap_oos, Value.slice ao_ts x.ts.length cap_ts]) rfl
 clear qc0
 have zu1_5a := hm.size
 refine ⟨hm.mono (by intro k hk h; omega), (fun _ => rfl), ?_⟩
 intro u1_5 hr
 have zu1_5 := hr.size
 have Hx23 := hid (qB1.mod hr (by intro h2; omega))
 have hmr := hm.two hr
 have Hx24 := hid (Hx19.out.mod hmr (by intro k h1 h2; omega))
 have Hx25 := hid (Hx20.out.mod hmr (by intro k h1 h2; omega))
 have Hx26 := hid (Hx21.out.mod hmr (by intro k h1 h2; omega))
 clear Hx19 Hx20 Hx21
 clear hmr
 have Cx27 := hid (Cx22.out.goM hm hr (fun _ _ h => h))
 clear Cx22 hm hr Z act E qB1 Hx18
 refine QChain.go fun Z act E => ?_
 refine qc_store rfl (wanted_none rfl) rfl Hx23.out (off := 4) (vs := [Value.slice ao_ots x.ts.length cap_ots]) (by kernel_rfl) one1 (by show 4 + 1 ≤ 5; decide) (E.d 13) (ec (chv (v := .slice ao_ots x.ts.length cap_ots) (E.d 8))) ?_
 intro u1_6a qc0 hm
 have qB1 := qc0.eqv (b := #[.int .i64 x.ep, .int .u64 (x.tm : Nat), Value.slice ao_ops x.ps.length cap_ops, Value.slice ao_oos x.os.length cap_oos, Value.slice ao_ots x.ts.length cap_ots]) rfl
 clear qc0
 have zu1_6a := hm.size
 refine ⟨hm.mono (by intro k hk h; omega), (fun _ => rfl), ?_⟩
 intro u1_6 hr
 have zu1_6 := hr.size
 have Hx28 := hid (qB1.mod hr (by intro h2; omega))
 have hmr := hm.two hr
 have Hx29 := hid (Hx24.out.mod hmr (by intro k h1 h2; omega))
 have Hx30 := hid (Hx25.out.mod hmr (by intro k h1 h2; omega))
 have Hx31 := hid (Hx26.out.mod hmr (by intro k h1 h2; omega))
 clear Hx24 Hx25 Hx26
 clear hmr
 have Cx32 := hid (Cx27.out.goM hm hr (fun _ _ h => h))
 clear Cx27 hm hr Z act E qB1 Hx23
 refine QChain.nil fun vs hl hzz hrows hne => ?_
 obtain ⟨Z, hYZ, hZb, hV⟩ := hzz
 have f2 := fvc hV hl 2
 have f5 := fvc hV hl 5
 have f8 := fvc hV hl 8
 rw [show vs = [gw vs 0, gw vs 1, gw vs 2, gw vs 3, gw vs 4, gw vs 5, gw vs 6, gw vs 7, gw vs 8, gw vs 9, gw vs 10, gw vs 11, gw vs 12, gw vs 13, gw vs 14] from (gw_eta hl).trans rfl]
 have ha0 := HA0.out
 subst ha0
 clear HA0 hV hYZ hZb hsz0 hrows hne oe1
 simp only [putAll, Act.put, sIB, sCZ, sCS, List.set_nil, f2, f5, f8]
 clear hl f2 f5 f8
 go_upto_region 2 with (fail)
 refine wp_region_U 16 [15, 17] [0, 1] (fun a0 HA0 => ?_)
 have oe1 := ev HA0 1 rfl
 have oe2 := ev HA0 2 rfl
 refine QSeq.pure rfl _ (fun E => ex_loadA rfl Try.underlying51 rfl (off := 0) (cs := [.int .i64 x.ep, .int .u64 (x.tm : Nat), Value.slice ao_ops x.ps.length cap_ops, Value.slice ao_oos x.os.length cap_oos, Value.slice ao_ots x.ts.length cap_ots]) (by kernel_rfl) (E.v oe1) (Cs.whole Hx28.out)) ?_
 refine QSeq.go fun act E => ?_
 refine qc_store rfl (wanted_none rfl) rfl (HB2.out.mod Cx32.out (by intro h2; omega)) (off := 0) (vs := [.int .i64 x.ep, .int .u64 (x.tm : Nat), Value.slice ao_ops x.ps.length cap_ops, Value.slice ao_oos x.os.length cap_oos, Value.slice ao_ots x.ts.length cap_ots]) (by kernel_rfl) (by intro u hu; simp only [List.mem_cons, List.not_mem_nil, or_false] at hu; rcases hu with rfl | rfl | rfl | rfl | rfl <;> rfl) (by show 0 + 5 ≤ 5; decide) (E.v oe2) (ec (E.d 0 0)) ?_
 intro u2_1 qc0 hm
 have qB2 := qc0.eqv (b := #[.int .i64 x.ep, .int .u64 (x.tm : Nat), Value.slice ao_ops x.ps.length cap_ops, Value.slice ao_oos x.os.length cap_oos, Value.slice ao_ots x.ts.length cap_ots]) (lay_whole _ _ rfl)
 clear qc0
 have Hx33 := hid qB2
 have zu2_1 := hm.size
 have Cx34 := hid (show Mod (fun k => (k = w.heap.size + 1)) u1_6 u2_1 from hm)
 clear hm
 clear act E qB2 HB2
 refine QSeq.nil (t' := [_, _]) rfl ?_
 obtain rfl := HA0.out
 clear HA0 oe1 oe2
 simp only [pz, Act.put, sIB, sCZ, sCS, List.set_nil]
 go_wp2
 exact bodyPost_ret (results_cellA rfl _ _ (w.heap.size + 1) ([.int .i64 x.ep, .int .u64 (x.tm : Nat), Value.slice ao_ops x.ps.length cap_ops, Value.slice ao_oos x.os.length cap_oos, Value.slice ao_ots x.ts.length cap_ots]) rfl (fun k u hu => by rw [Hx33.out.cell]; simpa using hu) Try.underlying51 rfl (by kernel_rfl)) rfl ⟨_, rfl, ⟨_, _, _, rfl, HOK.out, (Hx29.out.mod Cx34.out (by intro k h1 h2; omega)).widen (by intro k h1; omega), (Hx30.out.mod Cx34.out (by intro k h1 h2; omega)).widen (by intro k h1; omega), (Hx31.out.mod Cx34.out (by intro k h1 h2; omega)).widen (by intro k h1; omega)⟩, ((HM0.out.trans Cx32.out (by intro k h1 h2; omega)).trans Cx34.out (by intro k h1 h2; omega))⟩
end Go.Proofs.Ytekbmpjdombedaa

/- msgs.Copy. -/
namespace Go.Proofs.Ytekbmpjdombedaa
open Go Go.RowKit Go.Gv


/-- what is asked of a message that is copied: short lists -/
def cpMg (x : Mg) : Prop := cpCe x.ce ∧ cpPm x.pm ∧ cpOp x.op ∧ cpBa x.pr.ba ∧ cpBa x.dc.ba ∧ x.dc.l.length ≤ 1000
theorem lay_sub {segs : List (List Value)} {ns : List Nat} (hn : segs.map List.length = ns) (i : Nat) {seg : List Value} (hs : segs[i]? = some seg) {off o k n : Nat} (ho : (ns.take i).sum = o) (hk : off = o + k) {vs : List Value} (hv : vs.length = n) (hl : k + n ≤ seg.length) :
    lay segs.flatten.toArray off vs = ((segs.set i (seg.take k ++ (vs ++ seg.drop (k + n)))).flatten).toArray := by
  subst hn hk hv
  obtain ⟨a, b, h1, h2, h3⟩ := seg_split segs i hs
  have e1 : seg = seg.take k ++ ((seg.drop k).take vs.length ++ seg.drop (k + vs.length)) := by
    rw [← List.drop_drop, List.take_append_drop, List.take_append_drop]
  have h4 := lay_mid (a ++ seg.take k) ((seg.drop k).take vs.length) (seg.drop (k + vs.length) ++ b) vs (by rw [List.length_take, List.length_drop]; omega)
  have e2 : (a ++ seg.take k).length = o + k := by rw [List.length_append, List.length_take, h2, ho]; omega
  rw [e2] at h4
  rw [h1, h3]
  have e3 : a ++ (seg ++ b) = (a ++ seg.take k) ++ ((seg.drop k).take vs.length ++ (seg.drop (k + vs.length) ++ b)) := by
    conv => lhs; rw [e1]
    simp only [List.append_assoc]
  rw [e3, h4]
  simp only [List.append_assoc]
set_option maxHeartbeats 8000000 in
theorem cop_Mg : CopR MgR cpMg 20 := by
  intro R2 x cs w hx hB2 hP
  obtain ⟨c5, c10, c11, c15, c18, rfl, hok, h5, h10, h11, h15, h18⟩ := hx
  have HC5 := hid (CeR.len h5)
  have HC10 := hid (PmR.len h10)
  have HC15 := hid (OpR.len h15)
  have HLN := hid (Mg.lns hok h5 h10 h11 h15 h18)
  obtain ⟨p_ps, p_os, p_ts, rfl, hokp, hp0, hp1, hp2⟩ := h11
  obtain ⟨d_ps, d_os, d_ts, d_l, rfl, hokd, hd0, hd1, hd2, hd3⟩ := h18
  have H5 := Lib.hid h5
  have H10 := Lib.hid h10
  have H15 := Lib.hid h15
  have HP0 := Lib.hid hp0
  have HP1 := Lib.hid hp1
  have HP2 := Lib.hid hp2
  have HD0 := Lib.hid hd0
  have HD1 := Lib.hid hd1
  have HD2 := Lib.hid hd2
  have HD3 := Lib.hid hd3
  have HBT := Lib.hid hB2
  have HOK := Lib.hid hok
  have HOP := Lib.hid hokp
  have HOD := Lib.hid hokd
  have HP := Lib.hid hP
  clear hB2 hok hokp hokd hP h5 h10 h15 hp0 hp1 hp2 hd0 hd1 hd2 hd3
  go_enter Try.func20, Try.ntmps20
  go_upto_region 1 with (fail)
  obtain ⟨w1, hw1⟩ : ∃ zz, zz = ((w.alloc (.cells ((Mg.segs x c5 c10 (x.pr.cells p_ps p_os p_ts) c15 (x.dc.cells d_ps d_os d_ts d_l)).flatten : List Value).toArray 67)).alloc (.cells ((mg0C 0 0 0) : List Value).toArray 67)) := ⟨_, rfl⟩
  change Code.wp _ _ _ _ ((w.alloc (.cells ((Mg.segs x c5 c10 (x.pr.cells p_ps p_os p_ts) c15 (x.dc.cells d_ps d_os d_ts d_l)).flatten : List Value).toArray 67)).alloc (.cells ((mg0C 0 0 0) : List Value).toArray 67))
  rw [← hw1]
  have HB1 := hid (show Cs w1 (w.heap.size) ((Mg.segs x c5 c10 (x.pr.cells p_ps p_os p_ts) c15 (x.dc.cells d_ps d_os d_ts d_l)).flatten : List Value).toArray 67 by rw [hw1]; exact (Cs.new _ _ _).alloc _)
  have HB2 := hid (show Cs w1 (w.heap.size + 1) ((mg0C 0 0 0) : List Value).toArray 67 by rw [hw1]; exact Cs_newN _ _ _ (by simp))
  have hm : Mod (fun _ => False) w w1 := by rw [hw1]; exact ((Mod.refl _ _).alloc _).alloc _
  have HM0 := hid (show Mod (fun _ => False) w w1 from hm.mono (fun _ _ h => h.elim))
  have hs1 : w1.heap.size = w.heap.size + 2 := by rw [hw1]; simp
  have Hx1 := hid (H5.out.mod hm (fun _ _ h => h))
  clear H5
  have Hx2 := hid (H10.out.mod hm (fun _ _ h => h))
  clear H10
  have Hx3 := hid (H15.out.mod hm (fun _ _ h => h))
  clear H15
  have Hx4 := hid (HP0.out.mod hm (fun _ _ h => h))
  clear HP0
  have Hx5 := hid (HP1.out.mod hm (fun _ _ h => h))
  clear HP1
  have Hx6 := hid (HP2.out.mod hm (fun _ _ h => h))
  clear HP2
  have Hx7 := hid (HD0.out.mod hm (fun _ _ h => h))
  clear HD0
  have Hx8 := hid (HD1.out.mod hm (fun _ _ h => h))
  clear HD1
  have Hx9 := hid (HD2.out.mod hm (fun _ _ h => h))
  clear HD2
  have Hx10 := hid (HD3.out.mod hm (fun _ _ h => h))
  clear HD3
  clear hw1 hm
  go_upto_region 1 with (fail)
  generalize ha0 : Act.mk _ _ = a0
  have oe1 : a0.eval (.tmp 1) = .pointer (some ⟨w.heap.size, 0, none⟩) := by rw [← ha0]; rfl
  have hsz0 : a0.tmps.size = 34 := by rw [← ha0]; rfl
  have HA0 := hid ha0
  clear ha0
  refine wp_region_Q1 34 hsz0 [3, 4, 5, 6, 7, 8, 9, 10, 11, 12, 44, 13, 46, 14, 48] (fun k => (k = w.heap.size)) (fun k j => (k = 3 ∧ ((j = w.heap.size))) ∨ (k = 4 ∧ ((j = w.heap.size))) ∨ (k = 5 ∧ ((j = w.heap.size)))) (by intro k j h; (try dsimp only at h ⊢); omega) [qi (.pointer (some ⟨w.heap.size, 78, none⟩)), qi (.agg (c5).toArray), qv 0, qi (.pointer (some ⟨w.heap.size, 157, none⟩)), qi (.agg (c10).toArray), qv 1, qi (.pointer (some ⟨w.heap.size, 248, none⟩)), qi (.agg (c15).toArray), qv 2, qi (.pointer (some ⟨w.heap.size, 78, none⟩)), qv 3, qi (.pointer (some ⟨w.heap.size, 157, none⟩)), qv 4, qi (.pointer (some ⟨w.heap.size, 248, none⟩)), qv 5] ⟨qi_stable, qi_stable, qv_stable, qi_stable, qi_stable, qv_stable, qi_stable, qi_stable, qv_stable, qi_stable, qv_stable, qi_stable, qv_stable, qi_stable, qv_stable, trivial⟩ [2, 5, 8, 10, 12, 14] ⟨?_, ?_, ?_, ?_, ?_, ?_, ?_, ?_, ?_, ?_, ?_, ?_, ?_, ?_, ?_, trivial⟩ ?_
  · exact stq (fun E => ex_field rfl Try.underlying67 rfl (by kernel_rfl) (E.v oe1))
  · refine stepq_env rfl rfl rfl fun _ _ _ _ _ _ hm0 _ _ hd hub _ => ?_
    have h0 := hd ⟨0, .data⟩ (by simp) rfl _ rfl
    refine qe_run rfl (wanted_none rfl) (ex_loadA rfl Try.underlying41 rfl (off := 78) (cs := (c5)) (by rw [HC5.out]; kernel_rfl) h0 (Cs.seg (HB1.out.mod hm0 (by intro h2; have hu := hub 3 10 rfl (by kernel_rfl); rcases h2 with ⟨h0, kk, hk, h2⟩ | h2 <;> omega)) HLN.out 5 rfl rfl)) QE.refl ?_
    rfl
  · exact stepq_chain rfl
  · exact stq (fun E => ex_field rfl Try.underlying67 rfl (by kernel_rfl) (E.v oe1))
  · refine stepq_env rfl rfl rfl fun _ _ _ _ _ _ hm0 _ _ hd hub _ => ?_
    have h3 := hd ⟨3, .data⟩ (by simp) rfl _ rfl
    refine qe_run rfl (wanted_none rfl) (ex_loadA rfl Try.underlying46 rfl (off := 157) (cs := (c10)) (by rw [HC10.out]; kernel_rfl) h3 (Cs.seg (HB1.out.mod hm0 (by intro h2; have hu := hub 3 10 rfl (by kernel_rfl); rcases h2 with ⟨h0, kk, hk, h2⟩ | h2 <;> omega)) HLN.out 10 rfl rfl)) QE.refl ?_
    rfl
  · exact stepq_chain rfl
  · exact stq (fun E => ex_field rfl Try.underlying67 rfl (by kernel_rfl) (E.v oe1))
  · refine stepq_env rfl rfl rfl fun _ _ _ _ _ _ hm0 _ _ hd hub _ => ?_
    have h6 := hd ⟨6, .data⟩ (by simp) rfl _ rfl
    refine qe_run rfl (wanted_none rfl) (ex_loadA rfl Try.underlying60 rfl (off := 248) (cs := (c15)) (by rw [HC15.out]; kernel_rfl) h6 (Cs.seg (HB1.out.mod hm0 (by intro h2; have hu := hub 3 10 rfl (by kernel_rfl); rcases h2 with ⟨h0, kk, hk, h2⟩ | h2 <;> omega)) HLN.out 15 rfl rfl)) QE.refl ?_
    rfl
  · exact stepq_chain rfl
  · exact stq (fun E => ex_field rfl Try.underlying67 rfl (by kernel_rfl) (E.v oe1))
  · exact stepq_chain rfl
  · exact stq (fun E => ex_field rfl Try.underlying67 rfl (by kernel_rfl) (E.v oe1))
  · exact stepq_chain rfl
  · exact stq (fun E => ex_field rfl Try.underlying67 rfl (by kernel_rfl) (E.v oe1))
  · exact stepq_chain rfl
  intro u1_0 hr
  have zu1_0 := hr.size
  have Cx11 := hid (hr.new (S := (fun k => (k = w.heap.size))))
  have Hx12 := hid (HB1.out.mod hr (by intro h2; omega))
  clear HB1
  clear hr
  refine QChain.go fun Z act E => ?_
  refine qc_callF (args := #[.agg (c5).toArray]) rfl (wanted_none rfl) rfl Try.func34 (args1 (E.d 1)) (cop_Ce R2 _ _ _ (Hx1.out.mod Cx11.out (sB HBT)) (by intro k h1; have hb := HBT.out k h1; omega) HP.out.1) ?_
  rintro e u1_1a ⟨cn5, rfl, qn5, hm⟩
  have HLn5 := hid (CeR.len qn5)
  have HOn5 := hid (CeR.one qn5)
  have zu1_1a := hm.size
  refine ⟨_, rfl, hm.mono (fun _ _ h => h.elim), (fun _ => rfl), ?_⟩
  intro u1_1 hr
  have zu1_1 := hr.size
  have Hx13 := hid ((qn5.widen (R' := (fun k => (New u1_0 u1_1a k))) (fun _ h => h)).mod hr (by intro k h1 h2; omega))
  have hmr := Mod.after hm hr
  have Hx14 := hid (Hx12.out.mod hmr (by intro h2; omega))
  clear Hx12
  clear hmr
  have Cx15 := hid (Cx11.out.go hm hr)
  clear Cx11 hm hr Z act E qn5
  refine QChain.go fun Z act E => ?_
  refine qc_callF (args := #[.agg (c10).toArray]) rfl (wanted_none rfl) rfl Try.func35 (args1 (E.d 4)) (cop_Pm R2 _ _ _ (Hx2.out.mod Cx15.out (sB HBT)) (by intro k h1; have hb := HBT.out k h1; omega) HP.out.2.1) ?_
  rintro e u1_2a ⟨cn10, rfl, qn10, hm⟩
  have HLn10 := hid (PmR.len qn10)
  have HOn10 := hid (PmR.one qn10)
  have zu1_2a := hm.size
  refine ⟨_, rfl, hm.mono (fun _ _ h => h.elim), (fun _ => rfl), ?_⟩
  intro u1_2 hr
  have zu1_2 := hr.size
  have Hx16 := hid ((qn10.widen (R' := (fun k => (New u1_1 u1_2a k))) (fun _ h => h)).mod hr (by intro k h1 h2; omega))
  have hmr := Mod.after hm hr
  have Hx17 := hid (Hx14.out.mod hmr (by intro h2; omega))
  have Hx18 := hid (Hx13.out.mod hmr (by intro k h1 h2; omega))
  clear Hx14 Hx13
  clear hmr
  have Cx19 := hid (Cx15.out.go hm hr)
  clear Cx15 hm hr Z act E qn10
  refine QChain.go fun Z act E => ?_
  refine qc_callF (args := #[.agg (c15).toArray]) rfl (wanted_none rfl) rfl Try.func36 (args1 (E.d 7)) (cop_Op R2 _ _ _ (Hx3.out.mod Cx19.out (sB HBT)) (by intro k h1; have hb := HBT.out k h1; omega) HP.out.2.2.1) ?_
  rintro e u1_3a ⟨cn15, rfl, qn15, hm⟩
  have HLn15 := hid (OpR.len qn15)
  have HOn15 := hid (OpR.one qn15)
  have zu1_3a := hm.size
  refine ⟨_, rfl, hm.mono (fun _ _ h => h.elim), (fun _ => rfl), ?_⟩
  intro u1_3 hr
  have zu1_3 := hr.size
  have Hx20 := hid ((qn15.widen (R' := (fun k => (New u1_2 u1_3a k))) (fun _ h => h)).mod hr (by intro k h1 h2; omega))
  have hmr := Mod.after hm hr
  have Hx21 := hid (Hx17.out.mod hmr (by intro h2; omega))
  have Hx22 := hid (Hx18.out.mod hmr (by intro k h1 h2; omega))
  have Hx23 := hid (Hx16.out.mod hmr (by intro k h1 h2; omega))
  clear Hx17 Hx18 Hx16
  clear hmr
  have Cx24 := hid (Cx19.out.go hm hr)
  clear Cx19 hm hr Z act E qn15
  refine QChain.go fun Z act E => ?_
  refine qc_store rfl (wanted_none rfl) rfl Hx21.out (off := 78) (vs := cn5) (by rw [HLn5.out]; kernel_rfl) HOn5.out (by rw [List.size_toArray, flat_sum, (Mg.lens HOK.out HC5.out HC10.out rfl HC15.out rfl)]; show 78 + _ ≤ 295; rw [HLn5.out]; decide) (E.d 9) (ec (chv (v := .agg cn5.toArray) (E.d 2))) ?_
  intro u1_4a qc0 hm
  have qB1 := qc0.eqv (b := ((Mg.segs x cn5 c10 (x.pr.cells p_ps p_os p_ts) c15 (x.dc.cells d_ps d_os d_ts d_l)).flatten : List Value).toArray) ((lay_seg (Mg.lens HOK.out HC5.out HC10.out rfl HC15.out rfl) 5 (by rw [HLn5.out]; rfl) rfl).trans rfl)
  clear qc0
  have zu1_4a := hm.size
  refine ⟨hm.mono (by intro k hk h; omega), (fun _ => rfl), ?_⟩
  intro u1_4 hr
  have zu1_4 := hr.size
  have Hx25 := hid (qB1.mod hr (by intro h2; omega))
  have hmr := hm.two hr
  have Hx26 := hid (Hx22.out.mod hmr (by intro k h1 h2; omega))
  have Hx27 := hid (Hx23.out.mod hmr (by intro k h1 h2; omega))
  have Hx28 := hid (Hx20.out.mod hmr (by intro k h1 h2; omega))
  clear Hx22 Hx23 Hx20
  clear hmr
  have Cx29 := hid (Cx24.out.goM hm hr (fun _ _ h => h))
  clear Cx24 hm hr Z act E qB1 Hx21
  refine QChain.go fun Z act E => ?_
  refine qc_store rfl (wanted_none rfl) rfl Hx25.out (off := 157) (vs := cn10) (by rw [HLn10.out]; kernel_rfl) HOn10.out (by rw [List.size_toArray, flat_sum, (Mg.lens HOK.out HLn5.out HC10.out rfl HC15.out rfl)]; show 157 + _ ≤ 295; rw [HLn10.out]; decide) (E.d 11) (ec (chv (v := .agg cn10.toArray) (E.d 5))) ?_
  intro u1_5a qc0 hm
  have qB1 := qc0.eqv (b := ((Mg.segs x cn5 cn10 (x.pr.cells p_ps p_os p_ts) c15 (x.dc.cells d_ps d_os d_ts d_l)).flatten : List Value).toArray) ((lay_seg (Mg.lens HOK.out HLn5.out HC10.out rfl HC15.out rfl) 10 (by rw [HLn10.out]; rfl) rfl).trans rfl)
  clear qc0
  have zu1_5a := hm.size
  refine ⟨hm.mono (by intro k hk h; omega), (fun _ => rfl), ?_⟩
  intro u1_5 hr
  have zu1_5 := hr.size
  have Hx30 := hid (qB1.mod hr (by intro h2; omega))
  have hmr := hm.two hr
  have Hx31 := hid (Hx26.out.mod hmr (by intro k h1 h2; omega))
  have Hx32 := hid (Hx27.out.mod hmr (by intro k h1 h2; omega))
  have Hx33 := hid (Hx28.out.mod hmr (by intro k h1 h2; omega))
  clear Hx26 Hx27 Hx28
  clear hmr
  have Cx34 := hid (Cx29.out.goM hm hr (fun _ _ h => h))
  clear Cx29 hm hr Z act E qB1 Hx25
  refine QChain.go fun Z act E => ?_
  refine qc_store rfl (wanted_none rfl) rfl Hx30.out (off := 248) (vs := cn15) (by rw [HLn15.out]; kernel_rfl) HOn15.out (by rw [List.size_toArray, flat_sum, (Mg.lens HOK.out HLn5.out HLn10.out rfl HC15.out rfl)]; show 248 + _ ≤ 295; rw [HLn15.out]; decide) (E.d 13) (ec (chv (v := .agg cn15.toArray) (E.d 8))) ?_
  intro u1_6a qc0 hm
  have qB1 := qc0.eqv (b := ((Mg.segs x cn5 cn10 (x.pr.cells p_ps p_os p_ts) cn15 (x.dc.cells d_ps d_os d_ts d_l)).flatten : List Value).toArray) ((lay_seg (Mg.lens HOK.out HLn5.out HLn10.out rfl HC15.out rfl) 15 (by rw [HLn15.out]; rfl) rfl).trans rfl)
  clear qc0
  have zu1_6a := hm.size
  refine ⟨hm.mono (by intro k hk h; omega), (fun _ => rfl), ?_⟩
  intro u1_6 hr
  have zu1_6 := hr.size
  have Hx35 := hid (qB1.mod hr (by intro h2; omega))
  have hmr := hm.two hr
  have Hx36 := hid (Hx31.out.mod hmr (by intro k h1 h2; omega))
  have Hx37 := hid (Hx32.out.mod hmr (by intro k h1 h2; omega))
  have Hx38 := hid (Hx33.out.mod hmr (by intro k h1 h2; omega))
  clear Hx31 Hx32 Hx33
  clear hmr
  have Cx39 := hid (Cx34.out.goM hm hr (fun _ _ h => h))
  clear Cx34 hm hr Z act E qB1 Hx30
  refine QChain.nil fun vs hl hzz hrows hne => ?_
  obtain ⟨Z, hYZ, hZb, hV⟩ := hzz
  have f2 := fvc hV hl 2
  have f5 := fvc hV hl 5
  have f8 := fvc hV hl 8
  rw [show vs = [gw vs 0, gw vs 1, gw vs 2, gw vs 3, gw vs 4, gw vs 5, gw vs 6, gw vs 7, gw vs 8, gw vs 9, gw vs 10, gw vs 11, gw vs 12, gw vs 13, gw vs 14] from (gw_eta hl).trans rfl]
  have ha0 := HA0.out
  subst ha0
  clear HA0 hV hYZ hZb hsz0 hrows hne oe1
  simp only [putAll, Act.put, sIB, sCZ, sCS, List.set_nil, f2, f5, f8]
  clear hl f2 f5 f8
  go_upto_region 2 with (fail)
  refine wp_region_U 34 [15, 16, 17, 18, 19, 20, 40] [0, 1, 2, 3, 4, 5, 6] (fun a0 HA0 => ?_)
  have oe1 := ev HA0 1 rfl
  refine QSeq.pure rfl (.pointer (some ⟨w.heap.size, 163, none⟩)) (fun E => ex_field rfl Try.underlying67 rfl (by kernel_rfl) (E.v oe1)) ?_
  refine QSeq.pure rfl (.pointer (some ⟨w.heap.size, 167, none⟩)) (fun E => ex_field rfl Try.underlying53 rfl (by kernel_rfl) (E.d 0 0)) ?_
  refine QSeq.pure rfl _ (fun E => ex_loadA rfl Try.underlying51 rfl (off := 167) (cs := [.int .i64 x.pr.ba.ep, .int .u64 (x.pr.ba.tm : Nat), p_ps, p_os, p_ts]) (by kernel_rfl) (E.d 1 0) (Cs.segA Hx35.out (Mg.lens HOK.out HLn5.out HLn10.out rfl HLn15.out rfl) 11 rfl (o := 163) (k := 4) rfl rfl rfl)) ?_
  refine QSeq.call rfl rfl Try.func37 (cop_Ba R2 _ _ _ ⟨_, _, _, rfl, HOP.out.2.2.2.2.1, (Hx4.out.mod Cx39.out (sB HBT)), (Hx5.out.mod Cx39.out (sB HBT)), (Hx6.out.mod Cx39.out (sB HBT))⟩ (by intro k h1; have hb := HBT.out k h1; omega) HP.out.2.2.2.1) (fun E => args1 (E.d 2 0)) ?_
  rintro e u2_3 ⟨cbe, rfl, qe0, hm⟩
  have HOe := hid (BaR.one qe0)
  obtain ⟨e_ps, e_os, e_ts, rfl, hokb, qe0, qe1, qe2⟩ := qe0
  clear hokb
  refine ⟨_, rfl, ?_⟩
  have Hx40 := hid qe0
  have Hx41 := hid qe1
  have Hx42 := hid qe2
  have zu2_3 := hm.size
  have Cx43 := hid (show Mod (fun _ => False) u1_6 u2_3 from hm)
  clear hm
  clear qe0 qe1 qe2
  refine QSeq.pure rfl (.pointer (some ⟨w.heap.size, 163, none⟩)) (fun E => ex_field rfl Try.underlying67 rfl (by kernel_rfl) (E.v oe1)) ?_
  refine QSeq.pure rfl (.pointer (some ⟨w.heap.size, 167, none⟩)) (fun E => ex_field rfl Try.underlying53 rfl (by kernel_rfl) (E.d 4 0)) ?_
  refine QSeq.go fun act E => ?_
  refine qc_store rfl (wanted_none rfl) rfl (Hx35.out.mod Cx43.out (fun h => h)) (off := 167) (vs := [.int .i64 x.pr.ba.ep, .int .u64 (x.pr.ba.tm : Nat), e_ps, e_os, e_ts]) (by kernel_rfl) HOe.out (by rw [List.size_toArray, flat_sum, (Mg.lens HOK.out HLn5.out HLn10.out rfl HLn15.out rfl)]; show 167 + 5 ≤ 295; decide) (E.d 5 0) (ec (E.d 3 2)) ?_
  intro u2_6 qc0 hm
  have qB1 := qc0.eqv (b := ((Mg.segs x cn5 cn10 (x.pr.cells e_ps e_os e_ts) cn15 (x.dc.cells d_ps d_os d_ts d_l)).flatten : List Value).toArray) ((lay_sub (Mg.lens HOK.out HLn5.out HLn10.out rfl HLn15.out rfl) 11 rfl (o := 163) (k := 4) (n := 5) rfl rfl rfl (by show 4 + 5 ≤ 11; decide)).trans rfl)
  clear qc0
  have Hx44 := hid qB1
  have zu2_6 := hm.size
  have HMu2_6 := hid hm
  have Cx45 := hid (Mod.goS (S' := (fun k => (k = w.heap.size))) Cx43.out hm (fun _ h => h.elim) (by intro k h0 h2; exact h2))
  clear hm Cx43
  clear act E qB1 Hx35
  have Hx46 := hid (Hx40.out.mod HMu2_6.out (by intro k h1 h2; omega))
  have Hx47 := hid (Hx41.out.mod HMu2_6.out (by intro k h1 h2; omega))
  have Hx48 := hid (Hx42.out.mod HMu2_6.out (by intro k h1 h2; omega))
  clear Hx40 Hx41 Hx42 HMu2_6
  refine QSeq.nil (t' := [_, _, _, _, _, _, _]) rfl ?_
  obtain rfl := HA0.out
  clear HA0 oe1
  simp only [pz, Act.put, sIB, sCZ, sCS, List.set_nil]
  go_upto_region 3 with (fail)
  generalize ha0 : Act.mk _ _ = a0
  have oe1 : a0.eval (.tmp 1) = .pointer (some ⟨w.heap.size, 0, none⟩) := by rw [← ha0]; rfl
  have hsz0 : a0.tmps.size = 34 := by rw [← ha0]; rfl
  have HA0 := hid ha0
  clear ha0
  refine wp_region_Q1 34 hsz0 [21, 22, 23, 24, 25, 26, 27, 28, 29, 30, 44, 31, 32, 47] (fun k => (k = w.heap.size)) (fun k j => (k = 2 ∧ ((j = w.heap.size))) ∨ (k = 3 ∧ ((j = w.heap.size)))) (by intro k j h; (try dsimp only at h ⊢); omega) [qi (.pointer (some ⟨w.heap.size, 287, none⟩)), qi (.pointer (some ⟨w.heap.size, 289, none⟩)), qi (.agg #[.int .i64 x.dc.ba.ep, .int .u64 (x.dc.ba.tm : Nat), d_ps, d_os, d_ts]), qv 0, qi (.pointer (some ⟨w.heap.size, 287, none⟩)), qi (.pointer (some ⟨w.heap.size, 294, none⟩)), qi (d_l), qv 1, qi (.pointer (some ⟨w.heap.size, 287, none⟩)), qi (.pointer (some ⟨w.heap.size, 289, none⟩)), qv 2, qi (.pointer (some ⟨w.heap.size, 287, none⟩)), qi (.pointer (some ⟨w.heap.size, 294, none⟩)), qv 3] ⟨qi_stable, qi_stable, qi_stable, qv_stable, qi_stable, qi_stable, qi_stable, qv_stable, qi_stable, qi_stable, qv_stable, qi_stable, qi_stable, qv_stable, trivial⟩ [3, 7, 10, 13] ⟨?_, ?_, ?_, ?_, ?_, ?_, ?_, ?_, ?_, ?_, ?_, ?_, ?_, ?_, trivial⟩ ?_
  · exact stq (fun E => ex_field rfl Try.underlying67 rfl (by kernel_rfl) (E.v oe1))
  · exact stq (fun E => ex_field rfl Try.underlying65 rfl (by kernel_rfl) (E.d 0))
  · refine stepq_env rfl rfl rfl fun _ _ _ _ _ _ hm0 _ _ hd hub _ => ?_
    have h1 := hd ⟨1, .data⟩ (by simp) rfl _ rfl
    refine qe_run rfl (wanted_none rfl) (ex_loadA rfl Try.underlying51 rfl (off := 289) (cs := [.int .i64 x.dc.ba.ep, .int .u64 (x.dc.ba.tm : Nat), d_ps, d_os, d_ts]) (by kernel_rfl) h1 (Cs.segA (Hx44.out.mod hm0 (by intro h2; have hu := hub 2 10 rfl (by kernel_rfl); rcases h2 with ⟨h0, kk, hk, h2⟩ | h2 <;> omega)) (Mg.lens HOK.out HLn5.out HLn10.out rfl HLn15.out rfl) 18 rfl (o := 287) (k := 2) rfl rfl rfl)) QE.refl ?_
    rfl
  · exact stepq_chain rfl
  · exact stq (fun E => ex_field rfl Try.underlying67 rfl (by kernel_rfl) (E.v oe1))
  · exact stq (fun E => ex_field rfl Try.underlying65 rfl (by kernel_rfl) (E.d 4))
  · refine stepq_env rfl rfl rfl fun _ _ _ _ _ _ hm0 _ _ hd hub _ => ?_
    have h5 := hd ⟨5, .data⟩ (by simp) rfl _ rfl
    refine qe_run rfl (wanted_none rfl) (ex_load1 rfl Try.underlying63 rfl h5 (Cs.seg1 (Hx44.out.mod hm0 (by intro h2; have hu := hub 2 10 rfl (by kernel_rfl); rcases h2 with ⟨h0, kk, hk, h2⟩ | h2 <;> omega)) (Mg.lens HOK.out HLn5.out HLn10.out rfl HLn15.out rfl) 18 rfl (o := 287) (k := 7) rfl rfl rfl)) QE.refl ?_
    rfl
  · exact stepq_chain rfl
  · exact stq (fun E => ex_field rfl Try.underlying67 rfl (by kernel_rfl) (E.v oe1))
  · exact stq (fun E => ex_field rfl Try.underlying65 rfl (by kernel_rfl) (E.d 8))
  · exact stepq_chain rfl
  · exact stq (fun E => ex_field rfl Try.underlying67 rfl (by kernel_rfl) (E.v oe1))
  · exact stq (fun E => ex_field rfl Try.underlying65 rfl (by kernel_rfl) (E.d 11))
  · exact stepq_chain rfl
  intro u3_0 hr
  have zu3_0 := hr.size
  have Cx49 := hid (hr.new (S := (fun k => (k = w.heap.size))))
  have Hx50 := hid (Hx44.out.mod hr (by intro h2; omega))
  clear Hx44
  clear hr
  refine QChain.go fun Z act E => ?_
  refine qc_callF (args := #[.agg #[.int .i64 x.dc.ba.ep, .int .u64 (x.dc.ba.tm : Nat), d_ps, d_os, d_ts]]) rfl (wanted_none rfl) rfl Try.func37 (args1 (E.d 2)) (cop_Ba R2 _ _ _ ⟨_, _, _, rfl, HOD.out.2.2, (((Hx7.out.mod Cx39.out (sB HBT)).mod Cx45.out (sB HBT)).mod Cx49.out (sB HBT)), (((Hx8.out.mod Cx39.out (sB HBT)).mod Cx45.out (sB HBT)).mod Cx49.out (sB HBT)), (((Hx9.out.mod Cx39.out (sB HBT)).mod Cx45.out (sB HBT)).mod Cx49.out (sB HBT))⟩ (by intro k h1; have hb := HBT.out k h1; omega) HP.out.2.2.2.2.1) ?_
  rintro e u3_1a ⟨cbf, rfl, qf0, hm⟩
  have HOf := hid (BaR.one qf0)
  obtain ⟨f_ps, f_os, f_ts, rfl, hokb, qf0, qf1, qf2⟩ := qf0
  clear hokb
  have zu3_1a := hm.size
  refine ⟨_, rfl, hm.mono (fun _ _ h => h.elim), (fun _ => rfl), ?_⟩
  intro u3_1 hr
  have zu3_1 := hr.size
  have Hx51 := hid ((qf0.widen (R' := (fun k => (New u3_0 u3_1a k))) (fun _ h => h)).mod hr (by intro k h1 h2; omega))
  have Hx52 := hid ((qf1.widen (R' := (fun k => (New u3_0 u3_1a k))) (fun _ h => h)).mod hr (by intro k h1 h2; omega))
  have Hx53 := hid ((qf2.widen (R' := (fun k => (New u3_0 u3_1a k))) (fun _ h => h)).mod hr (by intro k h1 h2; omega))
  have hmr := Mod.after hm hr
  have Hx54 := hid (Hx50.out.mod hmr (by intro h2; omega))
  clear Hx50
  clear hmr
  have Cx55 := hid (Cx49.out.go hm hr)
  clear Cx49 hm hr Z act E qf0 qf1 qf2
  refine QChain.go fun Z act E => ?_
  refine qc_callF (args := #[d_l, .func (.func 39) #[] #[]]) rfl (wanted_none rfl) rfl Try.func38 (args2 (E.d 6) rfl) (copied_Vt _ x.dc.l _ _ (((Hx10.out.mod Cx39.out (sB HBT)).mod Cx45.out (sB HBT)).mod Cx55.out (sB HBT)) (by intro k h1; have hb := HBT.out k h1; omega) HP.out.2.2.2.2.2 (fun _ _ => trivial)) ?_
  rintro e u3_2a ⟨vg, rfl, qg, hm⟩
  obtain ⟨ao_g, cap_g, rfl⟩ := qg.shape
  have zu3_2a := hm.size
  refine ⟨_, rfl, hm.mono (fun _ _ h => h.elim), (fun _ => rfl), ?_⟩
  intro u3_2 hr
  have zu3_2 := hr.size
  have Hx56 := hid ((qg.widen (R' := (fun k => (New u3_1 u3_2a k))) (fun _ h => h)).mod hr (by intro k h1 h2; omega))
  have hmr := Mod.after hm hr
  have Hx57 := hid (Hx54.out.mod hmr (by intro h2; omega))
  have Hx58 := hid (Hx51.out.mod hmr (by intro k h1 h2; omega))
  have Hx59 := hid (Hx52.out.mod hmr (by intro k h1 h2; omega))
  have Hx60 := hid (Hx53.out.mod hmr (by intro k h1 h2; omega))
  clear Hx54 Hx51 Hx52 Hx53
  clear hmr
  have Cx61 := hid (Cx55.out.go hm hr)
  clear Cx55 hm hr Z act E qg
  refine QChain.go fun Z act E => ?_
  refine qc_store rfl (wanted_none rfl) rfl Hx57.out (off := 289) (vs := [.int .i64 x.dc.ba.ep, .int .u64 (x.dc.ba.tm : Nat), f_ps, f_os, f_ts]) (by kernel_rfl) HOf.out (by rw [List.size_toArray, flat_sum, (Mg.lens HOK.out HLn5.out HLn10.out rfl HLn15.out rfl)]; show 289 + 5 ≤ 295; decide) (E.d 9) (ec (chv (v := .agg #[.int .i64 x.dc.ba.ep, .int .u64 (x.dc.ba.tm : Nat), f_ps, f_os, f_ts]) (E.d 3))) ?_
  intro u3_3a qc0 hm
  have qB1 := qc0.eqv (b := ((Mg.segs x cn5 cn10 (x.pr.cells e_ps e_os e_ts) cn15 (x.dc.cells f_ps f_os f_ts d_l)).flatten : List Value).toArray) ((lay_sub (Mg.lens HOK.out HLn5.out HLn10.out rfl HLn15.out rfl) 18 rfl (o := 287) (k := 2) (n := 5) rfl rfl rfl (by show 2 + 5 ≤ 8; decide)).trans rfl)
  clear qc0
  have zu3_3a := hm.size
  refine ⟨hm.mono (by intro k hk h; omega), (fun _ => rfl), ?_⟩
  intro u3_3 hr
  have zu3_3 := hr.size
  have Hx62 := hid (qB1.mod hr (by intro h2; omega))
  have hmr := hm.two hr
  have Hx63 := hid (Hx58.out.mod hmr (by intro k h1 h2; omega))
  have Hx64 := hid (Hx59.out.mod hmr (by intro k h1 h2; omega))
  have Hx65 := hid (Hx60.out.mod hmr (by intro k h1 h2; omega))
  have Hx66 := hid (Hx56.out.mod hmr (by intro k h1 h2; omega))
  clear Hx58 Hx59 Hx60 Hx56
  clear hmr
  have Cx67 := hid (Cx61.out.goM hm hr (fun _ _ h => h))
  clear Cx61 hm hr Z act E qB1 Hx57
  refine QChain.go fun Z act E => ?_
  refine qc_store rfl (wanted_none rfl) rfl Hx62.out (off := 294) (vs := [Value.slice ao_g x.dc.l.length cap_g]) (by kernel_rfl) one1 (by rw [List.size_toArray, flat_sum, (Mg.lens HOK.out HLn5.out HLn10.out rfl HLn15.out rfl)]; show 294 + 1 ≤ 295; decide) (E.d 12) (ec (chv (v := .slice ao_g x.dc.l.length cap_g) (E.d 7))) ?_
  intro u3_4a qc0 hm
  have qB1 := qc0.eqv (b := ((Mg.segs x cn5 cn10 (x.pr.cells e_ps e_os e_ts) cn15 (x.dc.cells f_ps f_os f_ts (Value.slice ao_g x.dc.l.length cap_g))).flatten : List Value).toArray) ((lay_sub (Mg.lens HOK.out HLn5.out HLn10.out rfl HLn15.out rfl) 18 rfl (o := 287) (k := 7) (n := 1) rfl rfl rfl (by show 7 + 1 ≤ 8; decide)).trans rfl)
  clear qc0
  have zu3_4a := hm.size
  refine ⟨hm.mono (by intro k hk h; omega), (fun _ => rfl), ?_⟩
  intro u3_4 hr
  have zu3_4 := hr.size
  have Hx68 := hid (qB1.mod hr (by intro h2; omega))
  have hmr := hm.two hr
  have Hx69 := hid (Hx63.out.mod hmr (by intro k h1 h2; omega))
  have Hx70 := hid (Hx64.out.mod hmr (by intro k h1 h2; omega))
  have Hx71 := hid (Hx65.out.mod hmr (by intro k h1 h2; omega))
  have Hx72 := hid (Hx66.out.mod hmr (by intro k h1 h2; omega))
  clear Hx63 Hx64 Hx65 Hx66
  clear hmr
  have Cx73 := hid (Cx67.out.goM hm hr (fun _ _ h => h))
  clear Cx67 hm hr Z act E qB1 Hx62
  refine QChain.nil fun vs hl hzz hrows hne => ?_
  obtain ⟨Z, hYZ, hZb, hV⟩ := hzz
  have f3 := fvc hV hl 3
  have f7 := fvc hV hl 7
  rw [show vs = [gw vs 0, gw vs 1, gw vs 2, gw vs 3, gw vs 4, gw vs 5, gw vs 6, gw vs 7, gw vs 8, gw vs 9, gw vs 10, gw vs 11, gw vs 12, gw vs 13] from (gw_eta hl).trans rfl]
  have ha0 := HA0.out
  subst ha0
  clear HA0 hV hYZ hZb hsz0 hrows hne oe1
  simp only [putAll, Act.put, sIB, sCZ, sCS, List.set_nil, f3, f7]
  clear hl f3 f7
  have HSZ := hid (show ((Mg.segs x cn5 cn10 (x.pr.cells e_ps e_os e_ts) cn15 (x.dc.cells f_ps f_os f_ts (Value.slice ao_g x.dc.l.length cap_g))).flatten).length = 295 by rw [flat_sum, (Mg.lens HOK.out HLn5.out HLn10.out rfl HLn15.out rfl)]; rfl)
  have HRM := hid (show MgR.rd (fun k => (New w1 u3_4 k)) u3_4 ((Mg.segs x cn5 cn10 (x.pr.cells e_ps e_os e_ts) cn15 (x.dc.cells f_ps f_os f_ts (Value.slice ao_g x.dc.l.length cap_g))).flatten) x from ⟨_, _, _, _, _, rfl, HOK.out, ((Hx36.out.mod Cx45.out (by intro k h1 h2; omega)).mod Cx73.out (by intro k h1 h2; omega)).widen (by intro k h1; omega), ((Hx37.out.mod Cx45.out (by intro k h1 h2; omega)).mod Cx73.out (by intro k h1 h2; omega)).widen (by intro k h1; omega), ⟨_, _, _, rfl, HOP.out, (Hx46.out.mod Cx73.out (by intro k h1 h2; omega)).widen (by intro k h1; omega), (Hx47.out.mod Cx73.out (by intro k h1 h2; omega)).widen (by intro k h1; omega), (Hx48.out.mod Cx73.out (by intro k h1 h2; omega)).widen (by intro k h1; omega)⟩, ((Hx38.out.mod Cx45.out (by intro k h1 h2; omega)).mod Cx73.out (by intro k h1 h2; omega)).widen (by intro k h1; omega), ⟨_, _, _, _, rfl, HOD.out, Hx69.out.widen (by intro k h1; omega), Hx70.out.widen (by intro k h1; omega), Hx71.out.widen (by intro k h1; omega), Hx72.out.widen (by intro k h1; omega)⟩⟩)
  have HON := hid (MgR.one HRM.out)
  clear Hx36
  clear Hx37
  clear Hx38
  clear Hx46
  clear Hx47
  clear Hx48
  clear Hx69
  clear Hx70
  clear Hx71
  clear Hx72
  go_upto_region 4 with (fail)
  refine wp_region_U 34 [33, 35] [0, 1] (fun a0 HA0 => ?_)
  have oe1 := ev HA0 1 rfl
  have oe2 := ev HA0 2 rfl
  refine QSeq.pure rfl _ (fun E => ex_loadA rfl Try.underlying67 rfl (off := 0) (cs := ((Mg.segs x cn5 cn10 (x.pr.cells e_ps e_os e_ts) cn15 (x.dc.cells f_ps f_os f_ts (Value.slice ao_g x.dc.l.length cap_g))).flatten)) (by rw [HSZ.out]; kernel_rfl) (E.v oe1) (Cs.whole Hx68.out)) ?_
  refine QSeq.go fun act E => ?_
  refine qc_store rfl (wanted_none rfl) rfl (((HB2.out.mod Cx39.out (by intro h2; omega)).mod Cx45.out (by intro h2; omega)).mod Cx73.out (by intro h2; omega)) (off := 0) (vs := ((Mg.segs x cn5 cn10 (x.pr.cells e_ps e_os e_ts) cn15 (x.dc.cells f_ps f_os f_ts (Value.slice ao_g x.dc.l.length cap_g))).flatten)) (by rw [HSZ.out]; kernel_rfl) HON.out (by rw [HSZ.out]; show 0 + 295 ≤ 295; decide) (E.v oe2) (ec (E.d 0 0)) ?_
  intro u4_1 qc0 hm
  have qB2 := qc0.eqv (b := (((Mg.segs x cn5 cn10 (x.pr.cells e_ps e_os e_ts) cn15 (x.dc.cells f_ps f_os f_ts (Value.slice ao_g x.dc.l.length cap_g))).flatten) : List Value).toArray) (lay_whole _ _ (by rw [HSZ.out]; rfl))
  clear qc0
  have Hx74 := hid qB2
  have zu4_1 := hm.size
  have Cx75 := hid (show Mod (fun k => (k = w.heap.size + 1)) u3_4 u4_1 from hm)
  clear hm
  clear act E qB2 HB2
  refine QSeq.nil (t' := [_, _]) rfl ?_
  obtain rfl := HA0.out
  clear HA0 oe1 oe2
  simp only [pz, Act.put, sIB, sCZ, sCS, List.set_nil]
  go_wp2
  exact bodyPost_ret (results_cellA rfl _ _ (w.heap.size + 1) ((Mg.segs x cn5 cn10 (x.pr.cells e_ps e_os e_ts) cn15 (x.dc.cells f_ps f_os f_ts (Value.slice ao_g x.dc.l.length cap_g))).flatten) rfl (fun k u hu => by rw [Hx74.out.cell]; simpa using hu) Try.underlying67 rfl (by rw [HSZ.out]; kernel_rfl)) rfl ⟨_, rfl, (HRM.out.mod Cx75.out (by intro k h1 h2; omega)).widen (by intro k h1; (try dsimp only at h1 ⊢); omega), ((((HM0.out.trans Cx39.out (by intro k h1 h2; omega)).trans Cx45.out (by intro k h1 h2; omega)).trans Cx73.out (by intro k h1 h2; omega)).trans Cx75.out (by intro k h1 h2; omega))⟩
end Go.Proofs.Ytekbmpjdombedaa

/- slices.Delete over messages. -/
namespace Go.Proofs.Ytekbmpjdombedaa
open Go Go.RowKit Go.Gv

theorem info_Mg : (Try.prog.info? 67).map (fun i => (i.zero, i.size, i.bytes)) = some (some (.agg (mg0C 0 0 0).toArray), 295, 960) := by kernel_rfl
theorem info_Mg2 : (Try.prog.info? 67).map (fun i => (i.zero, i.size)) = some (some (.agg (mg0C 0 0 0).toArray), 295) := by kernel_rfl
theorem zMg_one (w : World) : ∀ u ∈ (Value.agg (mg0C 0 0 0).toArray).cells.toList, u.oneCell' = true := fun u hu => MgR.one (mg0_rd (k := 0) (f := 0) (t := 0) I64_0 I64_0 I64_0 (fun _ => False) w) u (by simpa [Value.cells] using hu)
set_option maxHeartbeats 4000000 in
theorem Delete_Q {R E : Nat → Prop} {w : World} {v : Value} {l : List Mg} {k : Nat} (h : OwS MgR 67 R E w v l) (hk : k < l.length) :
    Calls Try.prog 21 #[v, .int .i64 ((k : Nat) : Int), .int .i64 ((k + 1 : Nat) : Int)] w fun e w' => ∃ v', e = .returned v' ∧ OwS MgR 67 R E w' v' (l.eraseIdx k) ∧ Mod R w w' := by
  obtain ⟨g, cap, cur, css, rfl, hg, hc, hnc, hcm, hcl, hcz, hsz, htk, hone, hrd⟩ := h.opened (by omega)
  rw [show MgR.sz = 295 from rfl] at hsz htk hcz
  have HCU := Lib.hid hc
  have hgl := hc.lt
  have HG := Lib.hid hg
  have HCZ := Lib.hid hcz
  have HSZ := Lib.hid hsz
  have HTK := Lib.hid htk
  have HON := Lib.hid hone
  have HRD := Lib.hid hrd
  have hbd : cap ≤ 9223372036854775807 := by rw [← maxLen_val]; exact hcm
  clear hc hg hcz hsz htk hone hrd
  obtain ⟨n1, hn1⟩ : ∃ n1, l.length - 1 = n1 := ⟨_, rfl⟩
  go_enter Try.func21, Try.ntmps21
  go_upto_region 1 with (fail)
  have HM0 := hid (Mod.refl (fun k => (k = g)) w)
  go_upto_region 1 with (fail)
  refine wp_region_U 33 [8, 9, 10, 11, 12, 13] [0, 1, 2, 3, 4, 5] (fun a0 HA0 => ?_)
  have oe0 := ev HA0 0 rfl
  have oe1 := ev HA0 1 rfl
  have oe2 := ev HA0 2 rfl
  refine QSeq.pure rfl _ (fun E => ex_move rfl (E.v oe0)) ?_
  refine QSeq.pure rfl _ (fun E => ex_move rfl (E.v oe1)) ?_
  refine QSeq.pure rfl _ (fun E => ex_move rfl (E.v oe2)) ?_
  refine QSeq.pure rfl _ (fun E => ex_move rfl (E.v oe0)) ?_
  refine QSeq.pure rfl (.int .i64 l.length) (fun E => ex_lenS rfl (E.d 3 0) Try.underlying76) ?_
  refine QSeq.pure rfl (.slice (if l.length = k then (some ⟨g, 0, none⟩) else (some (⟨g, 0, none⟩ : Addr)).map fun x => x.add (k * 295)) (k + 1 - k) (l.length - k)) (fun E => ex_slice3 (lo := k) (hi := k + 1) (m := l.length) (s := 295) rfl Try.underlying76 (by kernel_rfl) (E.d 0 4) (E.d 1 3) (E.d 2 2) (E.d 4 0) (by omega) (by omega) (by omega)) ?_
  refine QSeq.nil (t' := [_, _, _, _, _, _]) rfl ?_
  obtain rfl := HA0.out
  clear HA0 oe0 oe1 oe2
  simp only [pz, Act.put, sIB, sCZ, sCS]
  go_upto_region 2 with (fail)
  refine wp_region_U 33 [14, 15, 16] [0, 1, 2] (fun a0 HA0 => ?_)
  have oe1 := ev HA0 1 rfl
  have oe2 := ev HA0 2 rfl
  refine QSeq.pure rfl _ (fun E => ex_move rfl (E.v oe1)) ?_
  refine QSeq.pure rfl _ (fun E => ex_move rfl (E.v oe2)) ?_
  refine QSeq.pure rfl (.bool false) (fun E => ex_binE rfl (E.d 0 1) (E.d 1 0) (guard_ints _ _ _ _ _ _) (run_eql_i _ _ _ Try.underlying3) (congrArg Value.bool (eq_ff (by omega)))) ?_
  refine QSeq.nil (t' := [_, _, _]) rfl ?_
  obtain rfl := HA0.out
  clear HA0 oe1 oe2
  simp only [pz, Act.put, sIB, sCZ, sCS]
  go_upto_region 4 with (fail)
  refine wp_region_U 33 [18, 19, 7] [0, 1, 2] (fun a0 HA0 => ?_)
  have oe0 := ev HA0 0 rfl
  refine QSeq.pure rfl _ (fun E => ex_move rfl (E.v oe0)) ?_
  refine QSeq.pure rfl (.int .i64 l.length) (fun E => ex_lenS rfl (E.d 0 0) Try.underlying76) ?_
  refine QSeq.pure rfl _ (fun E => ex_assign rfl (E.d 1 0)) ?_
  refine QSeq.nil (t' := [_, _, _]) rfl ?_
  obtain rfl := HA0.out
  clear HA0 oe0
  simp only [pz, Act.put, sIB, sCZ, sCS]
  go_upto_region 5 with (fail)
  generalize ha0 : Act.mk _ _ = a0
  have oe0 : a0.eval (.tmp 0) = .slice (some ⟨g, 0, none⟩) l.length cap := by rw [← ha0]; rfl
  have oe1 : a0.eval (.tmp 1) = .int .i64 ((k : Nat) : Int) := by rw [← ha0]; rfl
  have oe2 : a0.eval (.tmp 2) = .int .i64 ((k + 1 : Nat) : Int) := by rw [← ha0]; rfl
  have hsz0 : a0.tmps.size = 33 := by rw [← ha0]; rfl
  have HA0 := hid ha0
  clear ha0
  refine wp_region_Q1 33 hsz0 [20, 21, 22, 23, 24, 25, 26, 0] (fun k => (k = g)) (fun k j => (k = 0 ∧ ((j = g)))) (fun _ _ h => h.2) [qi (.slice (some ⟨g, 0, none⟩) l.length cap), qi (.int .i64 ((k : Nat) : Int)), qi (.slice (some ⟨g, 0, none⟩) k cap), qi (.slice (some ⟨g, 0, none⟩) l.length cap), qi (.int .i64 ((k + 1 : Nat) : Int)), qi (slV 295 (some ⟨g, 0, none⟩) (k + 1) l.length cap), qv 0, qv 0] ⟨qi_stable, qi_stable, qi_stable, qi_stable, qi_stable, qi_stable, qv_stable, qv_stable, trivial⟩ [6] ⟨?_, ?_, ?_, ?_, ?_, ?_, ?_, ?_, trivial⟩ ?_
  · exact stq (fun E => ex_move rfl ((E.pre 7 0 rfl (by kernel_rfl)).trans oe0))
  · exact stq (fun E => ex_move rfl (E.v oe1))
  · exact stq (fun E => ex_sliceTo (i := k) (s := 295) rfl Try.underlying76 (by kernel_rfl) (E.d 0) (E.d 1) (by omega))
  · exact stq (fun E => ex_move rfl ((E.pre 7 0 rfl (by kernel_rfl)).trans oe0))
  · exact stq (fun E => ex_move rfl (E.v oe2))
  · exact stq (fun E => ex_slice1 (lo := k + 1) (s := 295) rfl Try.underlying76 (by kernel_rfl) (E.d 3) (E.d 4) (by omega) hnc)
  · exact stepq_chain rfl
  · refine stepq_env rfl rfl rfl fun _ _ _ _ _ _ _ _ _ hd _ _ => ?_
    have h6 := hd ⟨6, .data⟩ (by simp) rfl _ rfl
    exact qe_run rfl (wanted_none rfl) (ex_assign rfl rfl) QE.refl h6
  intro u5_0 hr
  have zu5_0 := hr.size
  have Cx1 := hid (hr.new (S := (fun k => (k = g))))
  have Hx2 := hid (HCU.out.mod hr (by intro h2; omega))
  clear HCU
  clear hr
  refine QChain.go fun Z act E => ?_
  refine qc_appDel (g := g) (k := k) (n := l.length) (cap := cap) (cur := cur) (css := css) rfl (wanted_none rfl) rfl Try.underlying76 info_Mg (E.d 2) (E.d 5) Hx2.out (by omega) hnc hcl HCZ.out HSZ.out HTK.out HON.out hn1 ?_
  intro u5_1a cur1 qcu hz1 ht1 ho1 hm
  have HZ1 := Lib.hid hz1
  have HT1 := Lib.hid ht1
  have HO1 := Lib.hid ho1
  clear hz1 ht1 ho1
  have zu5_1a := hm.size
  refine ⟨hm.mono (by intro k hk h; omega), (fun _ => rfl), ?_⟩
  intro u5_1 hr
  have zu5_1 := hr.size
  have Hx3 := hid (qcu.mod hr (by intro h2; omega))
  have Cx4 := hid (Cx1.out.goM hm hr (fun _ _ h => h))
  clear Cx1 hm hr Z act E qcu Hx2
  refine QChain.nil fun vs hl hzz hrows hne => ?_
  obtain ⟨Z, hYZ, hZb, hV⟩ := hzz
  have f0 := fvi hV hl 0
  have f1 := fvi hV hl 1
  have f3 := fvi hV hl 3
  have f4 := fvi hV hl 4
  have f6 := fvc hV hl 6
  have f7 := fvc hV hl 7
  rw [show vs = [gw vs 0, gw vs 1, gw vs 2, gw vs 3, gw vs 4, gw vs 5, gw vs 6, gw vs 7] from (gw_eta hl).trans rfl]
  have ha0 := HA0.out
  subst ha0
  clear HA0 hV hYZ hZb hsz0 hrows hne oe0 oe1 oe2
  simp only [putAll, Act.put, sIB, sCZ, sCS, f0, f1, f3, f4, f6, f7]
  clear hl f0 f1 f3 f4 f6 f7
  go_upto_region 6 with (fail)
  refine wp_region_U 33 [27, 28, 29, 30, 31, 38] [0, 1, 2, 3, 4, 5] (fun a0 HA0 => ?_)
  have oe0 := ev HA0 0 rfl
  have oe7 := ev HA0 7 rfl
  refine QSeq.pure rfl _ (fun E => ex_move rfl (E.v oe0)) ?_
  refine QSeq.pure rfl _ (fun E => ex_move rfl (E.v oe0)) ?_
  refine QSeq.pure rfl (.int .i64 n1) (fun E => ex_lenS rfl (E.d 1 0) Try.underlying76) ?_
  refine QSeq.pure rfl _ (fun E => ex_move rfl (E.v oe7)) ?_
  refine QSeq.pure rfl (slV 295 (some ⟨g, 0, none⟩) n1 l.length cap) (fun E => ex_slice2 (lo := n1) (hi := l.length) (s := 295) rfl Try.underlying76 (by kernel_rfl) (E.d 0 3) (E.d 2 1) (E.d 3 0) (by omega) hnc) ?_
  refine QSeq.go fun act E => ?_
  refine qc_clear1 (g := g) (n := l.length) (cap := cap) (cur := cur1) rfl (wanted_none rfl) rfl Try.underlying76 info_Mg2 rfl (zMg_one w) hn1 (E.d 4 0) Hx3.out (by omega) hnc (by rw [HZ1.out]; exact HSZ.out) HO1.out ?_
  intro u6_5 cur2 qcu hz2 ht2 ho2 hm
  have HZ2 := Lib.hid hz2
  have HT2 := Lib.hid ht2
  have HO2 := Lib.hid ho2
  clear hz2 ht2 ho2
  have Hx5 := hid qcu
  have zu6_5 := hm.size
  have Cx6 := hid (show Mod (fun k => (k = g)) u5_1 u6_5 from hm)
  clear hm
  clear act E qcu Hx3
  refine QSeq.nil (t' := [_, _, _, _, _, _]) rfl ?_
  obtain rfl := HA0.out
  clear HA0 oe0 oe7
  simp only [pz, Act.put, sIB, sCZ, sCS, List.set_nil]
  go_upto_region 7 with (fail)
  refine wp_region_U 33 [32, 6] [0, 1] (fun a0 HA0 => ?_)
  have oe0 := ev HA0 0 rfl
  refine QSeq.pure rfl _ (fun E => ex_move rfl (E.v oe0)) ?_
  refine QSeq.pure rfl _ (fun E => ex_assign rfl (E.d 0 0)) ?_
  refine QSeq.nil (t' := [_, _]) rfl ?_
  obtain rfl := HA0.out
  clear HA0 oe0
  simp only [pz, Act.put, sIB, sCZ, sCS]
  go_wp2
  go_ret
  subst hn1
  exact ⟨_, rfl, OwS.cutOut HG.out hcl HCZ.out HRD.out hk hnc hcm Hx5.out ((HM0.out.trans Cx4.out (fun _ _ h => h)).trans Cx6.out (fun _ _ h => h)) (by rw [HZ2.out, HZ1.out]; exact HSZ.out) HO2.out (HT2.out.trans HT1.out), ((HM0.out.trans Cx4.out (fun _ _ h => h)).trans Cx6.out (fun _ _ h => h)).mono (fun b _ hb => by rw [hb]; exact HG.out)⟩
end Go.Proofs.Ytekbmpjdombedaa

/- net.Net: New, Len, Sent, Lost, in. -/
namespace Go.Proofs.Ytekbmpjdombedaa
open Go Go.RowKit Go.Gv

set_option maxHeartbeats 4000000 in
theorem NNew_Q {mo : Int} (hm : 1 ≤ mo ∧ mo ≤ 4096) (w : World) : Calls Try.prog 7 #[.int .i64 mo] w fun e w' => ∃ x, e = .returned (.tuple #[.pointer (some ⟨x, 0, none⟩), .int .i64 0]) ∧ NtR (New w w') w' x mo [] 0 0 ∧ Mod (fun _ => False) w w' := by
 go_enter Try.func7, Try.ntmps7
 go_upto_region 1 with (fail)
 have HM0 := hid (Mod.refl (fun _ => False) w)
 go_upto_region 1 with (fail)
 refine wp_region_U 13 [4, 5, 6, 7, 8, 9] [0, 1, 2, 3, 4, 5] (fun a0 HA0 => ?_)
 have oe0 := ev HA0 0 rfl
 refine QSeq.pure rfl _ (fun E => ex_move rfl (E.v oe0)) ?_
 refine QSeq.pure rfl (.bool false) (fun E => ex_binE rfl (E.d 0 0) rfl (guard_ints _ _ _ _ _ _) (run_lss_i _ _ _ Try.underlying3) (congrArg Value.bool (decide_eq_false (by omega)))) ?_
 refine QSeq.pure rfl _ (fun E => ex_move rfl (E.d 1 0)) ?_
 refine QSeq.pureG rfl (.int .i64 mo) (fun E => ((wanted_of rfl rfl (E.sz 6 (by decide)) (E.d 2 0)).trans rfl)) (fun E => ex_move rfl (E.v oe0)) ?_
 refine QSeq.pureG rfl (.bool false) (fun E => ((wanted_of rfl rfl (E.sz 6 (by decide)) (E.d 2 1)).trans rfl)) (fun E => ex_binE rfl (E.d 3 0) rfl (guard_ints _ _ _ _ _ _) (run_gtr_i _ _ _ Try.underlying3) (congrArg Value.bool (decide_eq_false (by omega)))) ?_
 refine QSeq.pure rfl (.bool false) (fun E => ex_pick rfl (E.d 2 2) rfl (E.d 4 0)) ?_
 refine QSeq.nil (t' := [_, _, _, _, _, _]) rfl ?_
 obtain rfl := HA0.out
 clear HA0 oe0
 simp only [pz, Act.put, sIB, sCZ, sCS]
 go_upto_region 3 with (fail)
 refine wp_region_U 13 [10, 11, 12, 2, 3] [0, 1, 2, 3, 4] (fun a0 HA0 => ?_)
 have oe0 := ev HA0 0 rfl
 refine QSeq.pure rfl _ (fun E => ex_move rfl (E.v oe0)) ?_
 refine QSeq.go fun act E => ?_
 refine qc_run rfl (wanted_none rfl) (v := .agg #[.int .i64 mo, Value.slice none 0 0, .int .i64 0, .int .i64 0]) (ex_build rfl (z := [.int .i64 0, .slice none 0 0, .int .i64 0, .int .i64 0]) (places := [(0, 1), (1, 1), (2, 1), (3, 1)]) (by kernel_rfl) (parts := [(0, .int .i64 mo)]) (by simp only [List.map_toArray, List.map_cons, List.map_nil, show act.eval (.tmp 10) = .int .i64 mo from (E.d 0 0)]; try rfl) (r := [.int .i64 mo, Value.slice none 0 0, .int .i64 0, .int .i64 0]) (by rfl)) ?_
 clear act E
 refine QSeq.go fun act E => ?_
 refine qc_box rfl (wanted_none rfl) rfl (vs := [.int .i64 mo, Value.slice none 0 0, .int .i64 0, .int .i64 0]) (by rw [show act.eval (.tmp 11) = _ from (E.d 1 0)]; rfl) ?_
 intro u3_2 qnt hm
 have zl3_2 := qnt.lt
 have Hx1 := hid qnt
 have zu3_2 := hm.size
 have Cx2 := hid (show Mod (fun _ => False) w u3_2 from hm)
 clear hm
 clear act E qnt
 refine QSeq.pure rfl _ (fun E => ex_assign rfl (E.d 2 0)) ?_
 refine QSeq.pure rfl (.int .i64 0) (fun E => ex_assign rfl rfl) ?_
 refine QSeq.nil (t' := [_, _, _, _, _]) rfl ?_
 obtain rfl := HA0.out
 clear HA0 oe0
 simp only [pz, Act.put, sIB, sCZ, sCS]
 go_wp2
 refine bodyPost_ret (results_tmp2 rfl _ _ _) rfl ?_
 exact ⟨_, rfl, ⟨(fun _ => False), _, ⟨Hx1.out, (fun _ h => h.elim), (fun h => h), (fun h => by cases h), OwS.nil _ _ _ _ _⟩, by (try dsimp only); unfold New; omega, (fun k hk => by cases hk), (fun _ h => h.elim)⟩, (HM0.out.trans Cx2.out (fun _ _ h => h.elim))⟩
set_option maxHeartbeats 4000000 in
theorem NNew_lo {mo : Int} (hm : mo < 1) (w : World) : Calls Try.prog 7 #[.int .i64 mo] w fun e w' => e = .returned (.tuple #[.pointer none, .int .i64 1]) ∧ Mod (fun _ => False) w w' := by
 go_enter Try.func7, Try.ntmps7
 go_upto_region 1 with (fail)
 have HM0 := hid (Mod.refl (fun _ => False) w)
 go_upto_region 1 with (fail)
 refine wp_region_U 13 [4, 5, 6, 7, 8, 9] [0, 1, 2, 3, 4, 5] (fun a0 HA0 => ?_)
 have oe0 := ev HA0 0 rfl
 refine QSeq.pure rfl _ (fun E => ex_move rfl (E.v oe0)) ?_
 refine QSeq.pure rfl (.bool true) (fun E => ex_binE rfl (E.d 0 0) rfl (guard_ints _ _ _ _ _ _) (run_lss_i _ _ _ Try.underlying3) (congrArg Value.bool (decide_eq_true (by omega)))) ?_
 refine QSeq.pure rfl _ (fun E => ex_move rfl (E.d 1 0)) ?_
 refine QSeq.skip rfl (fun E => ((wanted_of rfl rfl (E.sz 6 (by decide)) (E.d 2 0)).trans rfl)) ?_
 refine QSeq.skip rfl (fun E => ((wanted_of rfl rfl (E.sz 6 (by decide)) (E.d 2 1)).trans rfl)) ?_
 refine QSeq.pure rfl (.bool true) (fun E => ex_pick rfl (E.d 2 2) rfl (E.d 4 0)) ?_
 refine QSeq.nil (t' := [_, _, _, _, _, _]) rfl ?_
 obtain rfl := HA0.out
 clear HA0 oe0
 simp only [pz, Act.put, sIB, sCZ, sCS]
 go_upto_region 2 with (fail)
 refine wp_region_U 13 [2, 3] [0, 1] (fun a0 HA0 => ?_)
 refine QSeq.pure rfl (.pointer none) (fun E => ex_assign rfl rfl) ?_
 refine QSeq.pure rfl (.int .i64 1) (fun E => ex_assign rfl rfl) ?_
 refine QSeq.nil (t' := [_, _]) rfl ?_
 obtain rfl := HA0.out
 clear HA0
 simp only [pz, Act.put, sIB, sCZ, sCS]
 go_wp2
 refine bodyPost_ret (results_tmp2 rfl _ _ _) rfl ?_
 exact ⟨rfl, HM0.out⟩
set_option maxHeartbeats 4000000 in
theorem NNew_hi {mo : Int} (hm : 4096 < mo) (w : World) : Calls Try.prog 7 #[.int .i64 mo] w fun e w' => e = .returned (.tuple #[.pointer none, .int .i64 1]) ∧ Mod (fun _ => False) w w' := by
 go_enter Try.func7, Try.ntmps7
 go_upto_region 1 with (fail)
 have HM0 := hid (Mod.refl (fun _ => False) w)
 go_upto_region 1 with (fail)
 refine wp_region_U 13 [4, 5, 6, 7, 8, 9] [0, 1, 2, 3, 4, 5] (fun a0 HA0 => ?_)
 have oe0 := ev HA0 0 rfl
 refine QSeq.pure rfl _ (fun E => ex_move rfl (E.v oe0)) ?_
 refine QSeq.pure rfl (.bool false) (fun E => ex_binE rfl (E.d 0 0) rfl (guard_ints _ _ _ _ _ _) (run_lss_i _ _ _ Try.underlying3) (congrArg Value.bool (decide_eq_false (by omega)))) ?_
 refine QSeq.pure rfl _ (fun E => ex_move rfl (E.d 1 0)) ?_
 refine QSeq.pureG rfl (.int .i64 mo) (fun E => ((wanted_of rfl rfl (E.sz 6 (by decide)) (E.d 2 0)).trans rfl)) (fun E => ex_move rfl (E.v oe0)) ?_
 refine QSeq.pureG rfl (.bool true) (fun E => ((wanted_of rfl rfl (E.sz 6 (by decide)) (E.d 2 1)).trans rfl)) (fun E => ex_binE rfl (E.d 3 0) rfl (guard_ints _ _ _ _ _ _) (run_gtr_i _ _ _ Try.underlying3) (congrArg Value.bool (decide_eq_true (by omega)))) ?_
 refine QSeq.pure rfl (.bool true) (fun E => ex_pick rfl (E.d 2 2) rfl (E.d 4 0)) ?_
 refine QSeq.nil (t' := [_, _, _, _, _, _]) rfl ?_
 obtain rfl := HA0.out
 clear HA0 oe0
 simp only [pz, Act.put, sIB, sCZ, sCS]
 go_upto_region 2 with (fail)
 refine wp_region_U 13 [2, 3] [0, 1] (fun a0 HA0 => ?_)
 refine QSeq.pure rfl (.pointer none) (fun E => ex_assign rfl rfl) ?_
 refine QSeq.pure rfl (.int .i64 1) (fun E => ex_assign rfl rfl) ?_
 refine QSeq.nil (t' := [_, _]) rfl ?_
 obtain rfl := HA0.out
 clear HA0
 simp only [pz, Act.put, sIB, sCZ, sCS]
 go_wp2
 refine bodyPost_ret (results_tmp2 rfl _ _ _) rfl ?_
 exact ⟨rfl, HM0.out⟩
theorem NLen_Q {Eb : Nat → Prop} {w : World} {x : Nat} {v : Value} {mo sn lo : Int} {l : List Mg} (h : NtV Eb w x v mo l sn lo) : Calls Try.prog 11 #[.pointer (some ⟨x, 0, none⟩)] w fun e w' => e = .returned (.int .i64 ((l.length : Nat) : Int)) ∧ w = w' := by
 obtain ⟨h1, -, -, -, h3⟩ := h
 obtain ⟨ao, cap, rfl⟩ := h3.shape
 have c1 : w.cell? ⟨x, 1, none⟩ = some (.slice ao l.length cap) := (h1.cell 1).trans rfl
 clear h1 h3
 go_enter Try.func11, Try.ntmps11
 go_wp2
 go_ret
 exact ⟨rfl, rfl⟩
theorem NSent_Q {Eb : Nat → Prop} {w : World} {x : Nat} {v : Value} {mo sn lo : Int} {l : List Mg} (h : NtV Eb w x v mo l sn lo) : Calls Try.prog 12 #[.pointer (some ⟨x, 0, none⟩)] w fun e w' => e = .returned (.int .i64 sn) ∧ w = w' := by
 obtain ⟨h1, -, -, -, h3⟩ := h
 obtain ⟨ao, cap, rfl⟩ := h3.shape
 have c1 : w.cell? ⟨x, 2, none⟩ = some (.int .i64 sn) := (h1.cell 2).trans rfl
 clear h1 h3
 go_enter Try.func12, Try.ntmps12
 go_wp2
 go_ret
 exact ⟨rfl, rfl⟩
theorem NLost_Q {Eb : Nat → Prop} {w : World} {x : Nat} {v : Value} {mo sn lo : Int} {l : List Mg} (h : NtV Eb w x v mo l sn lo) : Calls Try.prog 17 #[.pointer (some ⟨x, 0, none⟩)] w fun e w' => e = .returned (.int .i64 lo) ∧ w = w' := by
 obtain ⟨h1, -, -, -, h3⟩ := h
 obtain ⟨ao, cap, rfl⟩ := h3.shape
 have c1 : w.cell? ⟨x, 3, none⟩ = some (.int .i64 lo) := (h1.cell 3).trans rfl
 clear h1 h3
 go_enter Try.func17, Try.ntmps17
 go_wp2
 go_ret
 exact ⟨rfl, rfl⟩
set_option maxHeartbeats 4000000 in
theorem NIn_yes {w : World} {x n cap : Nat} {mo sn lo k : Int} {ao : Option Addr} (h : Cs w x #[.int .i64 mo, Value.slice ao n cap, .int .i64 sn, .int .i64 lo] 87) (hk : 0 ≤ k ∧ k < (n : Nat)) : Calls Try.prog 22 #[.pointer (some ⟨x, 0, none⟩), .int .i64 k] w fun e w' => e = .returned (.bool true) ∧ Mod (fun _ => False) w w' := by
 have hxl := h.lt
 have HNT := Lib.hid h
 clear h
 go_enter Try.func22, Try.ntmps22
 go_upto_region 1 with (fail)
 have HM0 := hid (Mod.refl (fun _ => False) w)
 go_upto_region 1 with (fail)
 refine wp_region_U 16 [5, 6, 7, 8, 9, 10, 11, 12, 13, 14, 15, 4] [0, 1, 2, 3, 4, 5, 6, 7, 8, 9, 10, 11] (fun a0 HA0 => ?_)
 have oe0 := ev HA0 0 rfl
 have oe1 := ev HA0 1 rfl
 refine QSeq.pure rfl _ (fun E => ex_move rfl (E.v oe1)) ?_
 refine QSeq.pure rfl (.bool true) (fun E => ex_binE rfl (E.d 0 0) rfl (guard_ints _ _ _ _ _ _) (run_geq_i _ _ _ Try.underlying3) (congrArg Value.bool (decide_eq_true (by omega)))) ?_
 refine QSeq.pure rfl _ (fun E => ex_move rfl (E.d 1 0)) ?_
 refine QSeq.pureG rfl (.int .i64 k) (fun E => ((wanted_of rfl rfl (E.sz 7 (by decide)) (E.d 2 0)).trans rfl)) (fun E => ex_move rfl (E.v oe1)) ?_
 refine QSeq.pureG rfl (.pointer (some ⟨x, 0, none⟩)) (fun E => ((wanted_of rfl rfl (E.sz 7 (by decide)) (E.d 2 1)).trans rfl)) (fun E => ex_move rfl (E.v oe0)) ?_
 refine QSeq.pureG rfl (.pointer (some ⟨x, 0, none⟩)) (fun E => ((wanted_of rfl rfl (E.sz 7 (by decide)) (E.d 2 2)).trans rfl)) (fun E => ex_nil rfl (E.d 4 0)) ?_
 refine QSeq.pureG rfl (.pointer (some ⟨x, 1, none⟩)) (fun E => ((wanted_of rfl rfl (E.sz 7 (by decide)) (E.d 2 3)).trans rfl)) (fun E => ex_field rfl Try.underlying87 rfl (by kernel_rfl) (E.d 5 0)) ?_
 refine QSeq.pureG rfl (.slice ao n cap) (fun E => ((wanted_of rfl rfl (E.sz 7 (by decide)) (E.d 2 4)).trans rfl)) (fun E => ex_load1 rfl Try.underlying76 rfl (E.d 6 0) (Cs.lit1 HNT.out rfl)) ?_
 refine QSeq.pureG rfl (.int .i64 n) (fun E => ((wanted_of rfl rfl (E.sz 7 (by decide)) (E.d 2 5)).trans rfl)) (fun E => ex_lenS rfl (E.d 7 0) Try.underlying76) ?_
 refine QSeq.pureG rfl (.bool true) (fun E => ((wanted_of rfl rfl (E.sz 7 (by decide)) (E.d 2 6)).trans rfl)) (fun E => ex_binE rfl (E.d 3 5) (E.d 8 0) (guard_ints _ _ _ _ _ _) (run_lss_i _ _ _ Try.underlying3) (congrArg Value.bool (decide_eq_true (by omega)))) ?_
 refine QSeq.pure rfl (.bool true) (fun E => ex_pick rfl (E.d 2 7) (E.d 9 0) rfl) ?_
 refine QSeq.pure rfl _ (fun E => ex_assign rfl (E.d 10 0)) ?_
 refine QSeq.nil (t' := [_, _, _, _, _, _, _, _, _, _, _, _]) rfl ?_
 obtain rfl := HA0.out
 clear HA0 oe0 oe1
 simp only [pz, Act.put, sIB, sCZ, sCS]
 go_wp2
 go_ret
 exact ⟨rfl, HM0.out⟩
set_option maxHeartbeats 4000000 in
theorem NIn_no {w : World} {x n cap : Nat} {mo sn lo k : Int} {ao : Option Addr} (h : Cs w x #[.int .i64 mo, Value.slice ao n cap, .int .i64 sn, .int .i64 lo] 87) (hk : ¬ (0 ≤ k ∧ k < (n : Nat))) : Calls Try.prog 22 #[.pointer (some ⟨x, 0, none⟩), .int .i64 k] w fun e w' => e = .returned (.bool false) ∧ Mod (fun _ => False) w w' := by
 have hxl := h.lt
 have HNT := Lib.hid h
 clear h
 go_enter Try.func22, Try.ntmps22
 go_upto_region 1 with (fail)
 have HM0 := hid (Mod.refl (fun _ => False) w)
 by_cases h0 : 0 ≤ k
 ·skip
  go_upto_region 1 with (fail)
  refine wp_region_U 16 [5, 6, 7, 8, 9, 10, 11, 12, 13, 14, 15, 4] [0, 1, 2, 3, 4, 5, 6, 7, 8, 9, 10, 11] (fun a0 HA0 => ?_)
  have oe0 := ev HA0 0 rfl
  have oe1 := ev HA0 1 rfl
  refine QSeq.pure rfl _ (fun E => ex_move rfl (E.v oe1)) ?_
  refine QSeq.pure rfl (.bool true) (fun E => ex_binE rfl (E.d 0 0) rfl (guard_ints _ _ _ _ _ _) (run_geq_i _ _ _ Try.underlying3) (congrArg Value.bool (decide_eq_true (by omega)))) ?_
  refine QSeq.pure rfl _ (fun E => ex_move rfl (E.d 1 0)) ?_
  refine QSeq.pureG rfl (.int .i64 k) (fun E => ((wanted_of rfl rfl (E.sz 7 (by decide)) (E.d 2 0)).trans rfl)) (fun E => ex_move rfl (E.v oe1)) ?_
  refine QSeq.pureG rfl (.pointer (some ⟨x, 0, none⟩)) (fun E => ((wanted_of rfl rfl (E.sz 7 (by decide)) (E.d 2 1)).trans rfl)) (fun E => ex_move rfl (E.v oe0)) ?_
  refine QSeq.pureG rfl (.pointer (some ⟨x, 0, none⟩)) (fun E => ((wanted_of rfl rfl (E.sz 7 (by decide)) (E.d 2 2)).trans rfl)) (fun E => ex_nil rfl (E.d 4 0)) ?_
  refine QSeq.pureG rfl (.pointer (some ⟨x, 1, none⟩)) (fun E => ((wanted_of rfl rfl (E.sz 7 (by decide)) (E.d 2 3)).trans rfl)) (fun E => ex_field rfl Try.underlying87 rfl (by kernel_rfl) (E.d 5 0)) ?_
  refine QSeq.pureG rfl (.slice ao n cap) (fun E => ((wanted_of rfl rfl (E.sz 7 (by decide)) (E.d 2 4)).trans rfl)) (fun E => ex_load1 rfl Try.underlying76 rfl (E.d 6 0) (Cs.lit1 HNT.out rfl)) ?_
  refine QSeq.pureG rfl (.int .i64 n) (fun E => ((wanted_of rfl rfl (E.sz 7 (by decide)) (E.d 2 5)).trans rfl)) (fun E => ex_lenS rfl (E.d 7 0) Try.underlying76) ?_
  refine QSeq.pureG rfl (.bool false) (fun E => ((wanted_of rfl rfl (E.sz 7 (by decide)) (E.d 2 6)).trans rfl)) (fun E => ex_binE rfl (E.d 3 5) (E.d 8 0) (guard_ints _ _ _ _ _ _) (run_lss_i _ _ _ Try.underlying3) (congrArg Value.bool (decide_eq_false (by omega)))) ?_
  refine QSeq.pure rfl (.bool false) (fun E => ex_pick rfl (E.d 2 7) (E.d 9 0) rfl) ?_
  refine QSeq.pure rfl _ (fun E => ex_assign rfl (E.d 10 0)) ?_
  refine QSeq.nil (t' := [_, _, _, _, _, _, _, _, _, _, _, _]) rfl ?_
  obtain rfl := HA0.out
  clear HA0 oe0 oe1
  simp only [pz, Act.put, sIB, sCZ, sCS]
  go_wp2
  go_ret
  exact ⟨rfl, HM0.out⟩
 ·skip
  go_upto_region 1 with (fail)
  refine wp_region_U 16 [5, 6, 7, 8, 9, 10, 11, 12, 13, 14, 15, 4] [0, 1, 2, 3, 4, 5, 6, 7, 8, 9, 10, 11] (fun a0 HA0 => ?_)
  have oe1 := ev HA0 1 rfl
  refine QSeq.pure rfl _ (fun E => ex_move rfl (E.v oe1)) ?_
  refine QSeq.pure rfl (.bool false) (fun E => ex_binE rfl (E.d 0 0) rfl (guard_ints _ _ _ _ _ _) (run_geq_i _ _ _ Try.underlying3) (congrArg Value.bool (decide_eq_false (by omega)))) ?_
  refine QSeq.pure rfl _ (fun E => ex_move rfl (E.d 1 0)) ?_
  refine QSeq.skip rfl (fun E => ((wanted_of rfl rfl (E.sz 7 (by decide)) (E.d 2 0)).trans rfl)) ?_
  refine QSeq.skip rfl (fun E => ((wanted_of rfl rfl (E.sz 7 (by decide)) (E.d 2 1)).trans rfl)) ?_
  refine QSeq.skip rfl (fun E => ((wanted_of rfl rfl (E.sz 7 (by decide)) (E.d 2 2)).trans rfl)) ?_
  refine QSeq.skip rfl (fun E => ((wanted_of rfl rfl (E.sz 7 (by decide)) (E.d 2 3)).trans rfl)) ?_
  refine QSeq.skip rfl (fun E => ((wanted_of rfl rfl (E.sz 7 (by decide)) (E.d 2 4)).trans rfl)) ?_
  refine QSeq.skip rfl (fun E => ((wanted_of rfl rfl (E.sz 7 (by decide)) (E.d 2 5)).trans rfl)) ?_
  refine QSeq.skip rfl (fun E => ((wanted_of rfl rfl (E.sz 7 (by decide)) (E.d 2 6)).trans rfl)) ?_
  refine QSeq.pure rfl (.bool false) (fun E => ex_pick rfl (E.d 2 7) (E.d 9 0) rfl) ?_
  refine QSeq.pure rfl _ (fun E => ex_assign rfl (E.d 10 0)) ?_
  refine QSeq.nil (t' := [_, _, _, _, _, _, _, _, _, _, _, _]) rfl ?_
  obtain rfl := HA0.out
  clear HA0 oe1
  simp only [pz, Act.put, sIB, sCZ, sCS]
  go_wp2
  go_ret
  exact ⟨rfl, HM0.out⟩
end Go.Proofs.Ytekbmpjdombedaa
