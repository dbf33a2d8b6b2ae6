/- Texts that are built one behind the other: XRb, XRt, XEq. No condition. -/
import Derived.Test.YtgnmdnmmemdemaaR7
/- The reference's book. -/
set_option maxRecDepth 100000
set_option linter.unusedVariables false
namespace Go.Proofs.Ytgnmdnmmemdemaa
open Go Go.RowKit Go.Gv


/-- the program's book, in blocks of R -/
def BkR (R : Nat → Prop) (w : World) (g : Nat) (L : List (Int × List Int)) : Prop := ∃ b, BookIs w g b L ∧ R g ∧ R b
theorem BkR.mod {R S : Nat → Prop} {w w' : World} {g : Nat} {L : List (Int × List Int)} (h : BkR R w g L) (hm : Mod S w w') (hs : ∀ k, R k → S k → False) : BkR R w' g L := by
  obtain ⟨b, h1, h2, h3⟩ := h
  exact ⟨b, h1.mod hm (hs g h2) (hs b h3), h2, h3⟩
theorem BkR.widen {R R' : Nat → Prop} {w : World} {g : Nat} {L : List (Int × List Int)} (h : BkR R w g L) (hs : ∀ k, R k → R' k) : BkR R' w g L := by
  obtain ⟨b, h1, h2, h3⟩ := h
  exact ⟨b, h1, hs g h2, hs b h3⟩
theorem Book_new_Q (w : World) : Calls Try.prog 18 #[] w fun e w' => ∃ g, e = .returned (.pointer (some ⟨g, 0, none⟩)) ∧ BkR (New w w') w' g [] ∧ Mod (fun _ => False) w w' :=
  (Book_new w).mono fun e w' ⟨g, b, he, h1, h2, h3, hm⟩ => ⟨g, he, ⟨b, h3, ⟨h1, h3.cell.lt⟩, ⟨h2, h3.map.lt⟩⟩, hm⟩
theorem Make_Q {R R' : Nat → Prop} {N : Nat} {w : World} {g : Nat} {L : List (Int × List Int)} (hbk : BkR R w g L) (hLL : L.length ≤ 1000000) (a b : Int) (h bs : List Int) {v : Value} (ha : I64 a) (hsi : I64 (1000 + a)) (hb : I64 b) (hh : HK h) (hr : RdR R' N w v bs) (hl : bs.length ≤ 800000) :
    Calls Try.prog 19 #[.pointer (some ⟨g, 0, none⟩), .agg #[.int .i64 a, .int .i64 b], hv h, v] w fun e w' => e = .returned (mkCm L a b h bs).val ∧ BkR R w' g (mkBook L a b h bs) ∧ Mod R w w' := by
  obtain ⟨b', h1, h2, h3⟩ := hbk
  exact (Make_any h1 hLL a b h bs v ha hsi hb hh hr.1 hl).mono fun e w' ⟨he, k, hm⟩ => ⟨he, ⟨b', k, h2, h3⟩, hm.mono fun _ _ e => by rw [e]; exact h3⟩
theorem Right_Q {R : Nat → Prop} {w : World} {g : Nat} {L : List (Int × List Int)} (hbk : BkR R w g L) (f k : Int) (c : Cm) (hc : c.OK) (hsi : I64 (1000 + c.cl)) :
    Calls Try.prog 21 #[.agg #[.int .i64 f, .int .i64 k], .pointer (some ⟨g, 0, none⟩), c.val] w fun e w' => e = .returned (.bool (rightC L k c)) ∧ Mod (fun _ => False) w w' := by
  obtain ⟨b', h1, h2, h3⟩ := hbk
  exact Right_any h1 f k c hc hsi
/-- a signature of the reference's book -/
def sgC (k : Int × List Int) : List Value := [.int .i64 k.1, .string (strOfNums k.2)]
def SgR : Rep (Int × List Int) := Rep.flat 2 (by decide) sgC SgK (fun _ _ => rfl) (fun a _ u hu => by simp [sgC] at hu; rcases hu with rfl | rfl <;> rfl)
theorem info_Sg : (Try.prog.info? 119).map (fun i => (i.zero, i.size, i.bytes)) = some (some (.agg #[.int .i64 0, .string ByteArray.empty]), 2, 24) := by kernel_rfl
/-- the reference's book, of some signatures -/
def RbR (R : Nat → Prop) (w : World) (g : Nat) (L : List (Int × List Int)) : Prop := ∃ v, Cs w g #[v] 43 ∧ R g ∧ RdS SgR R w v L
theorem RbR.mod {R S : Nat → Prop} {w w' : World} {g : Nat} {L : List (Int × List Int)} (h : RbR R w g L) (hm : Mod S w w') (hs : ∀ k, R k → S k → False) : RbR R w' g L := by
  obtain ⟨v, h1, h2, h3⟩ := h
  exact ⟨v, h1.mod hm (hs g h2), h2, h3.mod hm hs⟩
theorem RbR.widen {R R' : Nat → Prop} {w : World} {g : Nat} {L : List (Int × List Int)} (h : RbR R w g L) (hs : ∀ k, R k → R' k) : RbR R' w g L := by
  obtain ⟨v, h1, h2, h3⟩ := h
  exact ⟨v, h1, hs g h2, h3.widen hs⟩
theorem run_eql_strN {t : TypeId} {a b : List Int} (ha : Bytes a) (hb : Bytes b) (w : World) : (binOp .eql t (.string (strOfNums a)) (.string (strOfNums b))).run Try.prog w = .ok (.bool (decide (a = b))) w := by
  rw [binOp_string_eql, Sem.run_pure]
  congr 2
  by_cases h : a = b
  · rw [h, decide_eq_true rfl]; exact beq_self_eq_true _
  · rw [decide_eq_false h, beq_eq_false_iff_ne]
    intro e
    refine h (strOf_inj ha hb ?_)
    exact ByteArray.ext (Array.toList_inj.1 (by simpa [ByteArray.toList_eq] using e))
theorem guard_str {op : BinOp} {t : TypeId} {x y : Operand} {s : ByteArray} {v : Value} (w : World) : (eqGuard op t x y (.string s) v).run Try.prog w = .ok () w := by cases op <;> simp [eqGuard]
abbrev wReq : ByteArray := { data := #[114, 101, 113, 117, 101, 115, 116] }
def txQ (x : Cm) : List Int := wordB wReq ++ (encI x.cl ++ (encI x.sq ++ (x.h ++ encI x.ln)))
theorem txQ_T (x : Cm) : txQ x = txT x := by
  have h : wordB wReq = encN requestLit.length ++ requestLit := by unfold wordB; rfl
  simp [txQ, h, txT, txC]
theorem mkN_one (k0 k : Int × List Int) : mkN [k0] k = if k0 = k then 1 else 0 := by
  unfold mkN
  simp only [marksFrom, mlook_cons, mlook_nil]
  split <;> rfl
theorem rightF_one (k0 k : Int × List Int) (m : Int) : rightF [k0] k m = (decide (k0 = k) && (m == 1)) := by
  unfold rightF
  rw [mkN_one]
  by_cases h : k0 = k
  · rw [if_pos h, decide_eq_true h]
    by_cases h2 : m = 1
    · subst h2; rfl
    · have e1 : (((1 : Nat) : Int) == m) = false := by rw [beq_eq_false_iff_ne]; exact fun e => h2 (by omega)
      have e2 : (m == 1) = false := by rw [beq_eq_false_iff_ne]; exact h2
      rw [e1, e2]; rfl
  · rw [if_neg h, decide_eq_false h]; rfl
set_option maxHeartbeats 4000000 in
theorem RefTextQ : Makes CmR 31 txQ := by
  intro R2 cs x w hx hB2 hl
  obtain ⟨rfl, hok⟩ := hx
  have HBT := Lib.hid hB2
  have HOK := Lib.hid hok
  have HL := Lib.hid hl
  clear hB2 hl hok
  unfold txQ at HL
  go_enter Try.func31, Try.ntmps31
  go_upto_region 1 with (fail)
  obtain ⟨w1, hw1⟩ : ∃ zz, zz = (w.alloc (.cells (x.cells : List Value).toArray 32)) := ⟨_, rfl⟩
  change Code.wp _ _ _ _ (w.alloc (.cells (x.cells : List Value).toArray 32))
  rw [← hw1]
  have HB1 := hid (show Cs w1 (w.heap.size) (x.cells : List Value).toArray 32 by rw [hw1]; exact Cs.new _ _ _)
  have hm : Mod (fun _ => False) w w1 := by rw [hw1]; exact (Mod.refl _ _).alloc _
  have HM0 := hid (show Mod (fun _ => False) w w1 from hm.mono (fun _ _ h => h.elim))
  have hs1 : w1.heap.size = w.heap.size + 1 := by rw [hw1]; simp
  clear hw1 hm
  go_upto_region 1 with (fail)
  generalize ha0 : Act.mk _ _ = a0
  have oe1 : a0.eval (.tmp 1) = .pointer (some ⟨w.heap.size, 0, none⟩) := by rw [← ha0]; rfl
  have hsz0 : a0.tmps.size = 21 := by rw [← ha0]; rfl
  have HA0 := hid ha0
  clear ha0
  refine wp_region_Q0 21 hsz0 [3, 4, 5, 6, 7, 8, 9, 10, 11, 12, 13, 14, 15, 16, 17, 18, 19, 20, 2] [ql w1.heap.size 5 ([114, 101, 113, 117, 101, 115, 116].map bv).toArray, ql w1.heap.size 5 ([114, 101, 113, 117, 101, 115, 116].map bv).toArray, qv 0, qi (.pointer (some ⟨w.heap.size, 0, none⟩)), qi (.pointer (some ⟨w.heap.size, 0, none⟩)), qi (.int .i64 x.cl), qv 1, qi (.pointer (some ⟨w.heap.size, 0, none⟩)), qi (.pointer (some ⟨w.heap.size, 1, none⟩)), qi (.int .i64 x.sq), qv 2, qi (.pointer (some ⟨w.heap.size, 2, none⟩)), qi (.slice (some ⟨w.heap.size, 2, none⟩) 32 32), qi (.pointer (some ⟨w.heap.size, 34, none⟩)), qi (.int .i64 x.ln), qv 3, qv 4, qv 5, qv 5] ⟨ql_stable, ql_stable, qv_stable, qi_stable, qi_stable, qi_stable, qv_stable, qi_stable, qi_stable, qi_stable, qv_stable, qi_stable, qi_stable, qi_stable, qi_stable, qv_stable, qv_stable, qv_stable, qv_stable, trivial⟩ [2, 6, 10, 15, 16, 17] ⟨?_, ?_, ?_, ?_, ?_, ?_, ?_, ?_, ?_, ?_, ?_, ?_, ?_, ?_, ?_, ?_, ?_, ?_, ?_, trivial⟩ ?_
  · refine stepq_env rfl rfl rfl fun _ tr _ _ hZ hm _ _ _ _ _ _ => ?_
    exact qe_run rfl (wanted_none rfl) (ex_lit rfl Try.underlying36 (by kernel_rfl) (by decide) (C := ([114, 101, 113, 117, 101, 115, 116].map bv).toArray) (by simp only [List.map_toArray, List.map_cons, List.map_nil, Act.eval]; kernel_rfl)) (QE.still ((Mod.refl _ _).alloc _)) (ql_new (t := tr) (C := ([114, 101, 113, 117, 101, 115, 116].map bv).toArray) hm.size hZ)
  · refine stepq_env rfl rfl rfl fun _ _ _ _ _ _ _ _ _ hd _ _ => ?_
    have h0 := hd ⟨0, .data⟩ (by simp) rfl _ rfl
    exact qe_mark rfl (wanted_none rfl) rfl Try.underlying36 Try.underlying5 h0 (fun _ _ h => h)
  · exact stepq_chain rfl
  · exact stq (fun E => ex_field rfl Try.underlying32 rfl (by kernel_rfl) (E.v oe1))
  · exact stq (fun E => ex_field rfl Try.underlying26 rfl (by kernel_rfl) (E.d 3))
  · exact stq (fun E => ex_load1 rfl Try.underlying3 rfl (E.d 4) ((HB1.out.mod E.m.old (by intro h2; omega)).c0))
  · exact stepq_chain rfl
  · exact stq (fun E => ex_field rfl Try.underlying32 rfl (by kernel_rfl) (E.v oe1))
  · exact stq (fun E => ex_field rfl Try.underlying26 rfl (by kernel_rfl) (E.d 7))
  · exact stq (fun E => ex_load1 rfl Try.underlying3 rfl (E.d 8) ((HB1.out.mod E.m.old (by intro h2; omega)).c1))
  · exact stepq_chain rfl
  · exact stq (fun E => ex_field rfl Try.underlying32 rfl (by kernel_rfl) (E.v oe1))
  · exact stq (fun E => ex_sliceArr rfl Try.underlying28 (by kernel_rfl) (E.d 11) (by decide))
  · exact stq (fun E => ex_field rfl Try.underlying32 rfl (by kernel_rfl) (E.v oe1))
  · exact stq (fun E => ex_load1 rfl Try.underlying3 rfl (E.d 13) ((HB1.out.mod E.m.old (by intro h2; omega)).c34 HOK.out.2.1))
  · exact stepq_chain rfl
  · exact stepq_chain rfl
  · exact stepq_chain rfl
  · refine stepq_env rfl rfl rfl fun _ _ _ _ _ _ _ _ _ hd _ _ => ?_
    have h17 := hd ⟨17, .data⟩ (by simp) rfl _ rfl
    exact qe_run rfl (wanted_none rfl) (ex_assign rfl rfl) QE.refl h17
  intro u1_0 hr
  have zu1_0 := hr.size
  have Cx1 := hid (hr.new (S := (fun _ => False)))
  clear hr
  refine QChain.go fun Z act E => ?_
  have hq2 : ql w1.heap.size 5 ([114, 101, 113, 117, 101, 115, 116].map bv).toArray Z [] (act.eval (.tmp 4)) u1_0 := (E.d 1)
  obtain ⟨R3, hR3, hrd2⟩ := ql.rd (by unfold Bytes; decide) hq2 (by decide)
  refine qc_callF (args := #[act.eval (.tmp 4)]) rfl (wanted_none rfl) rfl Try.func66 (args1 rfl) (RefRow_W wReq rfl hrd2 (by have := HL.out; simp only [List.length_append] at this ⊢; omega)) ?_
  rintro e u1_1a ⟨v_a1, rfl, qa1, hm⟩
  obtain ⟨ao_a1, cap_a1, rfl⟩ := qa1.shape
  have zu1_1a := hm.size
  refine ⟨_, rfl, hm.mono (fun _ _ h => h.elim), (fun _ => rfl), ?_⟩
  intro u1_1 hr
  have zu1_1 := hr.size
  have Hx2 := hid ((qa1.widen (R' := (fun k => (New u1_0 u1_1a k))) (fun _ h => h) (Nat.le_refl _)).mod hr (by intro k h1 h2; omega))
  have Cx3 := hid (Cx1.out.go hm hr)
  clear Cx1 hm hr qa1
  refine QChain.go fun Z act E => ?_
  refine qc_callF (args := #[.int .i64 x.cl]) rfl (wanted_none rfl) rfl Try.func67 (args1 (E.d 5)) (RefInt_Q _ HOK.out.1.1 _) ?_
  rintro e u1_2a ⟨v_a2, rfl, qa2, hm⟩
  obtain ⟨ao_a2, cap_a2, rfl⟩ := qa2.shape
  have zu1_2a := hm.size
  refine ⟨_, rfl, hm.mono (fun _ _ h => h.elim), (fun _ => rfl), ?_⟩
  intro u1_2 hr
  have zu1_2 := hr.size
  have Hx4 := hid ((qa2.widen (R' := (fun k => (New u1_1 u1_2a k))) (fun _ h => h) (Nat.le_refl _)).mod hr (by intro k h1 h2; omega))
  have hmr := Mod.after hm hr
  have Hx5 := hid (Hx2.out.mod hmr (by intro k h1 h2; omega))
  clear Hx2
  clear hmr
  have Cx6 := hid (Cx3.out.go hm hr)
  clear Cx3 hm hr Z act E qa2
  refine QChain.go fun Z act E => ?_
  refine qc_callF (args := #[.int .i64 x.sq]) rfl (wanted_none rfl) rfl Try.func67 (args1 (E.d 9)) (RefInt_Q _ HOK.out.1.2.1 _) ?_
  rintro e u1_3a ⟨v_a3, rfl, qa3, hm⟩
  obtain ⟨ao_a3, cap_a3, rfl⟩ := qa3.shape
  have zu1_3a := hm.size
  refine ⟨_, rfl, hm.mono (fun _ _ h => h.elim), (fun _ => rfl), ?_⟩
  intro u1_3 hr
  have zu1_3 := hr.size
  have Hx7 := hid ((qa3.widen (R' := (fun k => (New u1_2 u1_3a k))) (fun _ h => h) (Nat.le_refl _)).mod hr (by intro k h1 h2; omega))
  have hmr := Mod.after hm hr
  have Hx8 := hid (Hx5.out.mod hmr (by intro k h1 h2; omega))
  have Hx9 := hid (Hx4.out.mod hmr (by intro k h1 h2; omega))
  clear Hx5 Hx4
  clear hmr
  have Cx10 := hid (Cx6.out.go hm hr)
  clear Cx6 hm hr Z act E qa3
  refine QChain.go fun Z act E => ?_
  refine qc_callF (args := #[.int .i64 x.ln]) rfl (wanted_none rfl) rfl Try.func67 (args1 (E.d 14)) (RefInt_Q _ HOK.out.1.2.2.1 _) ?_
  rintro e u1_4a ⟨v_a4, rfl, qa4, hm⟩
  obtain ⟨ao_a4, cap_a4, rfl⟩ := qa4.shape
  have zu1_4a := hm.size
  refine ⟨_, rfl, hm.mono (fun _ _ h => h.elim), (fun _ => rfl), ?_⟩
  intro u1_4 hr
  have zu1_4 := hr.size
  have Hx11 := hid ((qa4.widen (R' := (fun k => (New u1_3 u1_4a k))) (fun _ h => h) (Nat.le_refl _)).mod hr (by intro k h1 h2; omega))
  have hmr := Mod.after hm hr
  have Hx12 := hid (Hx8.out.mod hmr (by intro k h1 h2; omega))
  have Hx13 := hid (Hx9.out.mod hmr (by intro k h1 h2; omega))
  have Hx14 := hid (Hx7.out.mod hmr (by intro k h1 h2; omega))
  clear Hx8 Hx9 Hx7
  clear hmr
  have Cx15 := hid (Cx10.out.go hm hr)
  clear Cx10 hm hr Z act E qa4
  refine QChain.go fun Z act E => ?_
  have ea5 : act.eval (.tmp 5) = .slice ao_a1 ((wordB wReq).length) cap_a1 := (chv (v := .slice ao_a1 ((wordB wReq).length) cap_a1) (E.d 2))
  have ea9 : act.eval (.tmp 9) = .slice ao_a2 ((encI x.cl).length) cap_a2 := (chv (v := .slice ao_a2 ((encI x.cl).length) cap_a2) (E.d 6))
  have ea13 : act.eval (.tmp 13) = .slice ao_a3 ((encI x.sq).length) cap_a3 := (chv (v := .slice ao_a3 ((encI x.sq).length) cap_a3) (E.d 10))
  have ea15 : act.eval (.tmp 15) = .slice (some ⟨w.heap.size, 2, none⟩) 32 32 := (E.d 12)
  have ea18 : act.eval (.tmp 18) = .slice ao_a4 ((encI x.ln).length) cap_a4 := (chv (v := .slice ao_a4 ((encI x.ln).length) cap_a4) (E.d 15))
  refine qc_rows rfl (wanted_none rfl) rfl Try.underlying68 (by decide) (C := #[.slice ao_a1 ((wordB wReq).length) cap_a1, .slice ao_a2 ((encI x.cl).length) cap_a2, .slice ao_a3 ((encI x.sq).length) cap_a3, .slice (some ⟨w.heap.size, 2, none⟩) 32 32, .slice ao_a4 ((encI x.ln).length) cap_a4]) (by simp only [List.map_toArray, List.map_cons, List.map_nil, ea5, ea9, ea13, ea15, ea18]; kernel_rfl) ?_
  intro u1_5a qrow16 hm
  have zl1_16 := qrow16.lt
  have zu1_5a := hm.size
  refine ⟨hm.mono (fun _ _ h => h.elim), (fun _ => rfl), ?_⟩
  intro u1_5 hr
  have zu1_5 := hr.size
  have Hx16 := hid (qrow16.mod hr (by intro h2; omega))
  have hmr := Mod.after hm hr
  have Hx17 := hid (Hx12.out.mod hmr (by intro k h1 h2; omega))
  have Hx18 := hid (Hx13.out.mod hmr (by intro k h1 h2; omega))
  have Hx19 := hid (Hx14.out.mod hmr (by intro k h1 h2; omega))
  have Hx20 := hid (Hx11.out.mod hmr (by intro k h1 h2; omega))
  clear Hx12 Hx13 Hx14 Hx11
  clear hmr
  have Cx21 := hid (Cx15.out.go hm hr)
  clear Cx15 hm hr Z act E qrow16 ea5 ea9 ea13 ea15 ea18
  refine QChain.go fun Z act E => ?_
  refine qc_callF (args := #[.slice (some ⟨u1_4.heap.size, 0, none⟩) 5 5]) rfl (wanted_none rfl) rfl Try.func65 (args1 (chv (v := .slice (some ⟨u1_4.heap.size, 0, none⟩) 5 5) (E.d 16))) (Join_Q (n := 5)  Hx16.out [(.slice ao_a1 ((wordB wReq).length) cap_a1, wordB wReq), (.slice ao_a2 ((encI x.cl).length) cap_a2, encI x.cl), (.slice ao_a3 ((encI x.sq).length) cap_a3, encI x.sq), (.slice (some ⟨w.heap.size, 2, none⟩) 32 32, x.h), (.slice ao_a4 ((encI x.ln).length) cap_a4, encI x.ln)] rfl rfl (by intro p hp; simp only [List.mem_cons, List.not_mem_nil, or_false] at hp; rcases hp with rfl | rfl | rfl | rfl | rfl <;> first | exact Hx17.out.rd.1 | exact Hx18.out.rd.1 | exact Hx19.out.rd.1 | exact RdB_arr3 ((HB1.out.mod Cx21.out (fun h => h)).hash) HOK.out.2 | exact Hx20.out.rd.1) (by simp) (show flat _ = wordB wReq ++ (encI x.cl ++ (encI x.sq ++ (x.h ++ encI x.ln))) from by simp only [flat, List.map_cons, List.map_nil, List.flatten_cons, List.flatten_nil, List.append_nil]) (by have := HL.out; simp only [List.length_append] at this ⊢; omega)) ?_
  rintro e u1_6a ⟨v_join1, rfl, qjoin1, hm⟩
  have zu1_6a := hm.size
  refine ⟨_, rfl, hm.mono (fun _ _ h => h.elim), (fun _ => rfl), ?_⟩
  intro u1_6 hr
  have zu1_6 := hr.size
  have Hx22 := hid ((qjoin1.widen (R' := (fun k => (New u1_5 u1_6a k))) (fun _ h => h) (Nat.le_refl _)).mod hr (by intro k h1 h2; omega))
  have hmr := Mod.after hm hr
  have Hx23 := hid (Hx17.out.mod hmr (by intro k h1 h2; omega))
  have Hx24 := hid (Hx18.out.mod hmr (by intro k h1 h2; omega))
  have Hx25 := hid (Hx19.out.mod hmr (by intro k h1 h2; omega))
  have Hx26 := hid (Hx20.out.mod hmr (by intro k h1 h2; omega))
  have Hx27 := hid (Hx16.out.mod hmr (by intro h2; omega))
  clear Hx17 Hx18 Hx19 Hx20 Hx16
  clear hmr
  have Cx28 := hid (Cx21.out.go hm hr)
  clear Cx21 hm hr Z act E qjoin1
  refine QChain.nil fun vs hl hzz hrows hne => ?_
  obtain ⟨Z, hYZ, hZb, hV⟩ := hzz
  have f2 := fvc hV hl 2
  have f6 := fvc hV hl 6
  have f10 := fvc hV hl 10
  have f15 := fvc hV hl 15
  have f16 := fvc hV hl 16
  have f17 := fvc hV hl 17
  have f18 := fvc hV hl 18
  rw [show vs = [gw vs 0, gw vs 1, gw vs 2, gw vs 3, gw vs 4, gw vs 5, gw vs 6, gw vs 7, gw vs 8, gw vs 9, gw vs 10, gw vs 11, gw vs 12, gw vs 13, gw vs 14, gw vs 15, gw vs 16, gw vs 17, gw vs 18] from (gw_eta hl).trans rfl]
  have ha0 := HA0.out
  subst ha0
  clear HA0 hV hYZ hZb hsz0 hrows hne oe1
  simp only [putAll, Act.put, List.setIfInBounds_toArray, List.set_cons_zero, List.set_cons_succ, f2, f6, f10, f15, f16, f17, f18]
  clear hl f2 f6 f10 f15 f16 f17 f18
  go_wp2
  go_ret
  have hq := (Hx22.out.widen (R' := (fun k => New w u1_6 k)) (by intro k h1; omega) (Nat.le_refl _))
  (try simp only [List.append_assoc] at hq)
  exact ⟨v_join1, rfl, by simpa only [txQ, List.append_assoc] using hq, (HM0.out.trans Cx28.out (fun _ _ h => h.elim))⟩
set_option maxHeartbeats 2000000 in
theorem RefSign_E {w : World} {g : Nat} (hc : Cs w g #[.slice none 0 0] 43) (y : Int) {R : Nat → Prop} {N : Nat} {v : Value} {bs : List Int} (hr : RdR R N w v bs) (hk : SgK (y, bs)) :
    Calls Try.prog 55 #[.pointer (some ⟨g, 0, none⟩), .int .i64 y, v] w fun e w' => e = .returned (.agg #[.int .i64 y, .int .i64 1]) ∧ RbR (fun k => k = g ∨ New w w' k) w' g [(y, bs)] ∧ Mod (fun k => k = g) w w' := by
  have zg := hc.lt
  have HBK := Lib.hid hc
  have HTX := Lib.hid (show RdR (fun k => k < w.heap.size ∨ k = g) N w v bs from ⟨hr.1, (fun h0 k hk => Or.inl (hr.1.block_lt h0 k hk)), hr.2.2⟩)
  have HK := Lib.hid hk
  clear hr hk
  go_enter Try.func55, Try.ntmps55
  go_upto_region 1 with (fail)
  obtain ⟨w1, hw1⟩ : ∃ zz, zz = (w.alloc (.cells #[.int .i64 0, .int .i64 0] 30)) := ⟨_, rfl⟩
  change Code.wp _ _ _ _ (w.alloc (.cells #[.int .i64 0, .int .i64 0] 30))
  rw [← hw1]
  have HB6 := hid (show Cs w1 (w.heap.size) #[.int .i64 0, .int .i64 0] 30 by rw [hw1]; exact Cs.new _ _ _)
  have hm : Mod (fun _ => False) w w1 := by rw [hw1]; exact (Mod.refl _ _).alloc _
  have HM0 := hid (show Mod (fun k => (k = g)) w w1 from hm.mono (fun _ _ h => h.elim))
  have hs1 : w1.heap.size = w.heap.size + 1 := by rw [hw1]; simp
  have Hx1 := hid (HBK.out.mod hm (fun h => h))
  clear HBK
  have Hx2 := hid (HTX.out.mod hm (fun _ _ h => h))
  clear HTX
  clear hw1 hm
  go_upto_region 1 with (fail)
  generalize ha0 : Act.mk _ _ = a0
  have oe0 : a0.eval (.tmp 0) = .pointer (some ⟨g, 0, none⟩) := by rw [← ha0]; rfl
  have hsz0 : a0.tmps.size = 64 := by rw [← ha0]; rfl
  have HA0 := hid ha0
  clear ha0
  refine wp_region_Q0 64 hsz0 [8, 9, 10, 11, 12, 13] [qi (.pointer (some ⟨g, 0, none⟩)), qi (.pointer (some ⟨g, 0, none⟩)), qi (.pointer (some ⟨g, 0, none⟩)), qi (.slice none 0 0), qi (.int .i64 0), qi (.int .i64 0)] ⟨qi_stable, qi_stable, qi_stable, qi_stable, qi_stable, qi_stable, trivial⟩ [] ⟨?_, ?_, ?_, ?_, ?_, ?_, trivial⟩ ?_
  · exact stq (fun E => ex_move rfl (E.v oe0))
  · exact stq (fun E => ex_nil rfl (E.d 0))
  · exact stq (fun E => ex_field rfl Try.underlying43 rfl (by kernel_rfl) (E.d 1))
  · exact stq (fun E => ex_load1 rfl Try.underlying41 rfl (E.d 2) (Cs.lit1 (Hx1.out.mod E.m.old (by intro h2; omega)) rfl))
  · exact stq (fun E => ex_lenS rfl (E.d 3) Try.underlying41)
  · exact stq (fun E => ex_move rfl rfl)
  intro u1_0 hr
  have zu1_0 := hr.size
  have Cx3 := hid (hr.new (S := (fun _ => False)))
  clear hr
  refine QChain.nil fun vs hl hzz hrows hne => ?_
  obtain ⟨Z, hYZ, hZb, hV⟩ := hzz
  have f0 := fvi hV hl 0
  have f4 := fvi hV hl 4
  have f5 := fvi hV hl 5
  rw [show vs = [gw vs 0, gw vs 1, gw vs 2, gw vs 3, gw vs 4, gw vs 5] from (gw_eta hl).trans rfl]
  have ha0 := HA0.out
  subst ha0
  clear HA0 hV hYZ hZb hsz0 hrows hne oe0
  simp only [putAll, Act.put, List.setIfInBounds_toArray, List.set_cons_zero, List.set_cons_succ, f0, f4, f5]
  clear hl f0 f4 f5
  go_wp2
  go_loopw [13] (fun t wr => t = .int .i64 0 ∧ wr = u1_0) (fun _ _ => 0)
  case atStart => exact ⟨rfl, rfl⟩
  case round =>
    obtain ⟨e1, e2⟩ := hrel
    subst e1
    subst e2
    have HEL := hid (show SgR.rd (fun _ => False) wr (sgC (y, bs)) (y, bs) from ⟨rfl, HK.out⟩)
    go_upto_region 7 with (fail)
    generalize ha0 : Act.mk _ _ = a0
    have oe0 : a0.eval (.tmp 0) = .pointer (some ⟨g, 0, none⟩) := by rw [← ha0]; rfl
    have oe1 : a0.eval (.tmp 1) = .int .i64 y := by rw [← ha0]; rfl
    have oe2 : a0.eval (.tmp 2) = v := by rw [← ha0]; rfl
    have hsz0 : a0.tmps.size = 64 := by rw [← ha0]; rfl
    have HA0 := hid ha0
    clear ha0
    refine wp_region_Q1 64 hsz0 [44, 45, 46, 47, 48, 49, 50, 51, 52, 53, 54, 55, 56, 77] (fun k => (k = g)) (fun k j => (k = 2 ∧ ((j = g)))) (fun _ _ h => h.2) [qi (.pointer (some ⟨g, 0, none⟩)), qi (.pointer (some ⟨g, 0, none⟩)), qi (.pointer (some ⟨g, 0, none⟩)), qi (.pointer (some ⟨g, 0, none⟩)), qi (.slice none 0 0), qi (.int .i64 y), qi (v), qi (.string (strOfNums bs)), qi (.agg #[.int .i64 y, .string (strOfNums bs)]), qv 0, qv 1, qi (.pointer (some ⟨g, 0, none⟩)), qi (.pointer (some ⟨g, 0, none⟩)), qv 2] ⟨qi_stable, qi_stable, qi_stable, qi_stable, qi_stable, qi_stable, qi_stable, qi_stable, qi_stable, qv_stable, qv_stable, qi_stable, qi_stable, qv_stable, trivial⟩ [9, 10, 13] ⟨?_, ?_, ?_, ?_, ?_, ?_, ?_, ?_, ?_, ?_, ?_, ?_, ?_, ?_, trivial⟩ ?_
    · exact stq (fun E => ex_move rfl (E.v oe0))
    · exact stq (fun E => ex_move rfl (E.v oe0))
    · exact stq (fun E => ex_nil rfl (E.d 1))
    · exact stq (fun E => ex_field rfl Try.underlying43 rfl (by kernel_rfl) (E.d 2))
    · refine stepq_env rfl rfl rfl fun _ _ _ _ _ _ hm0 _ _ hd hub _ => ?_
      have h3 := hd ⟨3, .data⟩ (by simp) rfl _ rfl
      refine qe_run rfl (wanted_none rfl) (ex_load1 rfl Try.underlying41 rfl h3 (Cs.lit1 ((Hx1.out.mod Cx3.out (fun h => h)).mod hm0 (by intro h2; have hu := hub 2 13 rfl (by kernel_rfl); rcases h2 with ⟨h0, kk, hk, h2⟩ | h2 <;> omega)) rfl)) QE.refl ?_
      rfl
    · exact stq (fun E => ex_move rfl (E.v oe1))
    · exact stq (fun E => ex_move rfl (E.v oe2))
    · refine stepq_env rfl rfl rfl fun _ _ _ _ _ _ hm0 _ _ hd hub _ => ?_
      have h6 := hd ⟨6, .data⟩ (by simp) rfl _ rfl
      refine qe_run rfl (wanted_none rfl) (ex_conv rfl h6 (bytes_string ((Hx2.out.mod Cx3.out (fun _ _ h => h)).mod hm0 (by intro k h1 h2; have hu := hub 2 13 rfl (by kernel_rfl); rcases h2 with ⟨h0, kk, hk, h2⟩ | h2 <;> first | omega | (omega))).1)) QE.refl ?_
      rfl
    · refine stepq_env rfl rfl rfl fun _ _ act _ _ _ _ _ _ hd _ _ => ?_
      have h5 := hd ⟨5, .data⟩ (by simp) rfl _ rfl
      have h7 := hd ⟨7, .data⟩ (by simp) rfl _ rfl
      refine qe_run rfl (wanted_none rfl) (ex_build rfl (z := [.int .i64 0, .string ByteArray.empty]) (places := [(0, 1), (1, 1)]) (by kernel_rfl) (parts := [(0, .int .i64 y), (1, .string (strOfNums bs))]) (by simp only [List.map_toArray, List.map_cons, List.map_nil, show act.eval (.tmp 49) = _ from h5, show act.eval (.tmp 51) = _ from h7]; try rfl) (r := [.int .i64 y, .string (strOfNums bs)]) (by rfl)) QE.refl ?_
      rfl
    · exact stepq_chain rfl
    · exact stepq_chain rfl
    · exact stq (fun E => ex_nil rfl (E.d 0))
    · exact stq (fun E => ex_field rfl Try.underlying43 rfl (by kernel_rfl) (E.d 11))
    · exact stepq_chain rfl
    intro u7_0 hr
    have zu7_0 := hr.size
    clear Hx2
    have Cx4 := hid (hr.new (S := (fun k => (k = g))))
    have Hx5 := hid ((Hx1.out.mod Cx3.out (fun h => h)).mod hr (by intro h2; omega))
    clear Hx1
    clear hr
    refine QChain.go fun Z act E => ?_
    refine qc_buildS (e := 119) (cs := sgC (y, bs)) (zc := [.int .i64 0, .string ByteArray.empty]) (sz := 2) rfl (wanted_none rfl) rfl Try.underlying41 (by kernel_rfl) rfl (by decide) (by decide) (E.d 8) rfl ?_
    intro u7_1a qrow hm
    have zl7_9 := qrow.lt
    have zu7_1a := hm.size
    refine ⟨hm.mono (fun _ _ h => h.elim), (fun _ => rfl), ?_⟩
    intro u7_1 hr
    have zu7_1 := hr.size
    have Hx6 := hid (qrow.mod hr (by intro h2; omega))
    have hmr := Mod.after hm hr
    have Hx7 := hid (Hx5.out.mod hmr (by intro h2; omega))
    clear Hx5
    clear hmr
    have Cx8 := hid (Cx4.out.go hm hr)
    clear Cx4 hm hr Z act E qrow
    refine QChain.go fun Z act E => ?_
    refine qc_appS (A := SgR) (e := 119) rfl (wanted_none rfl) rfl (.agg #[.int .i64 0, .string ByteArray.empty]) 24 Try.underlying41 info_Sg (by rfl) (of_decide_eq_true (by kernel_rfl)) (E.d 4) (chv (v := .slice (some ⟨u7_0.heap.size, 0, none⟩) 1 1) (E.d 9)) (OwS.nil _ _ (fun _ => False) (fun _ => False) _) (RdS.single (R := (fun k => (k = u7_0.heap.size))) Hx6.out ((HEL.out.mod Cx8.out (by intro k h1 h2; omega)).widen (fun _ h => h.elim)) (by first | exact Or.inr rfl | exact rfl)) (fun _ _ h => h) (by show 1 * 24 ≤ _; decide) (by show 1 ≤ maxLen; rw [maxLen_val]; decide) ?_
    intro ao5 cap5 u7_2a qacc hm
    have zu7_2a := hm.size
    refine ⟨hm.mono (fun _ _ h => h.elim), (fun _ => rfl), ?_⟩
    intro u7_2 hr
    have zu7_2 := hr.size
    have Hx9 := hid ((qacc.widen (R' := (fun k => (New u7_1 u7_2a k))) (E' := (fun k => (k = u7_0.heap.size))) (fun _ h => h.elim (fun h => h.elim) (fun h => h)) (by intro k h1; rcases h1 with h1 | h1 <;> first | omega | exact h1.elim | exact h1)).mod hr (by intro k h1 h2; omega) (by intro k h1 h2; omega))
    have hmr := Mod.after hm hr
    have Hx10 := hid (Hx7.out.mod hmr (by intro h2; omega))
    have Hx11 := hid (Hx6.out.mod hmr (by intro h2; omega))
    clear Hx7 Hx6
    clear hmr
    have Cx12 := hid (Cx8.out.go hm hr)
    clear Cx8 hm hr Z act E qacc
    refine QChain.go fun Z act E => ?_
    refine qc_store rfl (wanted_none rfl) rfl Hx10.out (off := 0) (vs := [Value.slice ao5 (1) cap5]) (by kernel_rfl) (by intro u hu; simp at hu; subst hu; rfl) (by simp) (E.d 12) (by rw [show act.eval ((.tmp 54)) = _ from (chv (v := .slice ao5 (1) cap5) (E.d 10))]; rfl) ?_
    intro u7_3a qc0 hm
    have qbk : Cs u7_3a (g) #[Value.slice ao5 (1) cap5] 43 := by rw [show lay _ 0 _ = #[Value.slice ao5 (1) cap5] from rfl] at qc0; exact qc0
    clear qc0
    have zu7_3a := hm.size
    refine ⟨hm.mono (by intro k hk h; omega), (fun _ => rfl), ?_⟩
    intro u7_3 hr
    have zu7_3 := hr.size
    have Hx13 := hid (qbk.mod hr (by intro h2; omega))
    have hmr := hm.two hr
    have Hx14 := hid (Hx11.out.mod hmr (by intro h2; omega))
    have Hx15 := hid (Hx9.out.mod hmr (by intro k h1 h2; omega) (by intro k h1 h2; omega))
    clear Hx11 Hx9
    clear hmr
    have Cx16 := hid (Cx12.out.goM hm hr (fun _ _ h => h))
    clear Cx12 hm hr Z act E qbk Hx10
    refine QChain.nil fun vs hl hzz hrows hne => ?_
    obtain ⟨Z, hYZ, hZb, hV⟩ := hzz
    have f0 := fvi hV hl 0
    have f1 := fvi hV hl 1
    have f5 := fvi hV hl 5
    have f6 := fvi hV hl 6
    have f9 := fvc hV hl 9
    have f10 := fvc hV hl 10
    rw [show vs = [gw vs 0, gw vs 1, gw vs 2, gw vs 3, gw vs 4, gw vs 5, gw vs 6, gw vs 7, gw vs 8, gw vs 9, gw vs 10, gw vs 11, gw vs 12, gw vs 13] from (gw_eta hl).trans rfl]
    have ha0 := HA0.out
    subst ha0
    clear HA0 hV hYZ hZb hsz0 hrows hne oe0 oe1 oe2
    simp only [putAll, Act.put, List.setIfInBounds_toArray, List.set_cons_zero, List.set_cons_succ, List.set_nil, f0, f1, f5, f6, f9, f10]
    clear hl f0 f1 f5 f6 f9 f10
    go_upto_region 8 with (fail)
    generalize ha0 : Act.mk _ _ = a0
    have oe0 : a0.eval (.tmp 0) = .pointer (some ⟨g, 0, none⟩) := by rw [← ha0]; rfl
    have oe1 : a0.eval (.tmp 1) = .int .i64 y := by rw [← ha0]; rfl
    have oe6 : a0.eval (.tmp 6) = .pointer (some ⟨w.heap.size, 0, none⟩) := by rw [← ha0]; rfl
    have hsz0 : a0.tmps.size = 64 := by rw [← ha0]; rfl
    have HA0 := hid ha0
    clear ha0
    refine wp_region_Q1 64 hsz0 [57, 58, 59, 60, 61, 62, 63, 71] (fun k => (k = w.heap.size)) (fun k j => (k = 0 ∧ ((j = w.heap.size)))) (fun _ _ h => h.2) [qi (.int .i64 y), qi (.pointer (some ⟨g, 0, none⟩)), qi (.pointer (some ⟨g, 0, none⟩)), qi (.pointer (some ⟨g, 0, none⟩)), qi (.slice ao5 (1) cap5), qi (.int .i64 (1)), qi (.agg #[.int .i64 y, .int .i64 1]), qv 0] ⟨qi_stable, qi_stable, qi_stable, qi_stable, qi_stable, qi_stable, qi_stable, qv_stable, trivial⟩ [7] ⟨?_, ?_, ?_, ?_, ?_, ?_, ?_, ?_, trivial⟩ ?_
    · exact stq (fun E => ex_move rfl (E.v oe1))
    · exact stq (fun E => ex_move rfl (E.v oe0))
    · exact stq (fun E => ex_nil rfl (E.d 1))
    · exact stq (fun E => ex_field rfl Try.underlying43 rfl (by kernel_rfl) (E.d 2))
    · exact stq (fun E => ex_load1 rfl Try.underlying41 rfl (E.d 3) (Cs.lit1 (Hx13.out.mod E.m (by intro h2; omega)) rfl))
    · exact stq (fun E => ex_lenS rfl (E.d 4) Try.underlying41)
    · refine stepq_env rfl rfl rfl fun _ _ act _ _ _ _ _ _ hd _ _ => ?_
      have h0 := hd ⟨0, .data⟩ (by simp) rfl _ rfl
      have h5 := hd ⟨5, .data⟩ (by simp) rfl _ rfl
      refine qe_run rfl (wanted_none rfl) (ex_build rfl (z := [.int .i64 0, .int .i64 0]) (places := [(0, 1), (1, 1)]) (by kernel_rfl) (parts := [(0, .int .i64 y), (1, .int .i64 (1))]) (by simp only [List.map_toArray, List.map_cons, List.map_nil, show act.eval (.tmp 57) = _ from h0, show act.eval (.tmp 62) = _ from h5]; try rfl) (r := [.int .i64 y, .int .i64 1]) (by rfl)) QE.refl ?_
      rfl
    · exact stepq_chain rfl
    intro u8_0 hr
    have zu8_0 := hr.size
    have Cx17 := hid (hr.new (S := (fun k => (k = w.heap.size))))
    have Hx18 := hid (((HB6.out.mod Cx3.out (fun h => h)).mod Cx16.out (by intro h2; omega)).mod hr (by intro h2; omega))
    clear HB6
    clear hr
    refine QChain.go fun Z act E => ?_
    refine qc_store rfl (wanted_none rfl) rfl Hx18.out (off := 0) (vs := [.int .i64 y, .int .i64 1]) (by kernel_rfl) (by intro u hu; simp at hu; rcases hu with rfl | rfl <;> rfl) (by simp) (E.v oe6) (by rw [show act.eval ((.tmp 63)) = _ from (E.d 6)]; rfl) ?_
    intro u8_1a qc0 hm
    have qB6 : Cs u8_1a (w.heap.size) #[.int .i64 y, .int .i64 1] 30 := by rw [show lay _ 0 _ = #[.int .i64 y, .int .i64 1] from rfl] at qc0; exact qc0
    clear qc0
    have zu8_1a := hm.size
    refine ⟨hm.mono (by intro k hk h; omega), (fun _ => rfl), ?_⟩
    intro u8_1 hr
    have zu8_1 := hr.size
    have Hx19 := hid (qB6.mod hr (by intro h2; omega))
    have Cx20 := hid (Cx17.out.goM hm hr (fun _ _ h => h))
    clear Cx17 hm hr Z act E qB6 Hx18
    refine QChain.nil fun vs hl hzz hrows hne => ?_
    obtain ⟨Z, hYZ, hZb, hV⟩ := hzz
    have f0 := fvi hV hl 0
    have f1 := fvi hV hl 1
    have f5 := fvi hV hl 5
    rw [show vs = [gw vs 0, gw vs 1, gw vs 2, gw vs 3, gw vs 4, gw vs 5, gw vs 6, gw vs 7] from (gw_eta hl).trans rfl]
    have ha0 := HA0.out
    subst ha0
    clear HA0 hV hYZ hZb hsz0 hrows hne oe0 oe1 oe6
    simp only [putAll, Act.put, List.setIfInBounds_toArray, List.set_cons_zero, List.set_cons_succ, List.set_nil, f0, f1, f5]
    clear hl f0 f1 f5
    go_wp2
    refine bodyPost_ret (results_cellA rfl _ _ (w.heap.size) ([.int .i64 y, .int .i64 1]) rfl (fun k u hu => by rw [Hx19.out.cell]; simpa using hu) Try.underlying30 rfl (by kernel_rfl)) rfl ⟨rfl, ⟨_, (Hx13.out.mod Cx20.out (by intro h2; omega)), Or.inl rfl, (Hx15.out.mod Cx20.out (by intro k h1 h2; omega) (by intro k h1 h2; omega)).rd.widen ?_⟩, (((HM0.out.trans Cx3.out (fun _ _ h => h.elim)).trans Cx16.out (fun _ _ h => h)).trans Cx20.out (by intro k h1 h2; first | exact h2 | omega))⟩
    intro k h
    right
    omega

theorem pair_right (k0 : Int × List Int) (y : Int) (bs : List Int) : (k0.1 == y && decide (k0.2 = bs)) = rightF [k0] (y, bs) 1 := by
  rw [rightF_one]
  obtain ⟨a, l⟩ := k0
  by_cases h1 : a = y
  · by_cases h2 : l = bs
    · simp [h1, h2]
    · simp [h1, h2]
  · simp [h1]
theorem right_not {k0 k : Int × List Int} {m : Int} (h : ¬ m = 1) : false = rightF [k0] k m := by
  rw [rightF_one, show (m == 1) = false from by rw [beq_eq_false_iff_ne]; exact h, Bool.and_false]
/-- the commitment that is made first -/
def cm1 (a b : Int) (h bs : List Int) : Cm := { cm0 a b h bs with sb := 1000 + a, mr := 1 }
theorem mkBook_nil (a b : Int) (h bs : List Int) : mkBook [] a b h bs = [mkKey a b h bs] := rfl
theorem mkCm_nil (a b : Int) (h bs : List Int) : mkCm [] a b h bs = cm1 a b h bs := by
  unfold mkCm cm1
  rw [mkBook_nil, mkN_one, if_pos rfl]
  rfl
theorem cm0_ok {a b : Int} {h bs : List Int} (ha : I64 a) (hb : I64 b) (hl : bs.length ≤ 1000000) : (cm0 a b h bs).OK := ⟨⟨ha, hb, by unfold I64; constructor <;> (show _ ≤ _; simp only [cm0]; omega), (show I64 0 by unfold I64; decide), (show I64 0 by unfold I64; decide)⟩, shaF_len _, shaF_bytes _⟩
theorem cm1_ok {a b : Int} {h bs : List Int} (ha : I64 a) (hs : I64 (1000 + a)) (hb : I64 b) (hl : bs.length ≤ 1000000) : (cm1 a b h bs).OK := ⟨⟨ha, hb, (cm0_ok (h := h) ha hb hl).1.2.2.1, hs, (show I64 1 by unfold I64; decide)⟩, shaF_len _, shaF_bytes _⟩
theorem wReq_B : wordB wReq = [7, 114, 101, 113, 117, 101, 115, 116] := by
  unfold wordB
  rw [show bytesOf wReq = [114, 101, 113, 117, 101, 115, 116] from rfl, encN_lt (by decide)]
  rfl
theorem txT_bytes {c : Cm} (h : c.OK) : Bytes (txT c) := by
  rw [← txQ_T]
  intro b hb
  simp only [txQ, wReq_B, List.mem_append] at hb
  have h1 : Bytes [7, 114, 101, 113, 117, 101, 115, 116] := by unfold Bytes; decide
  rcases hb with hb | hb | hb | hb | hb
  · exact h1 b hb
  · exact encI_bytes _ b hb
  · exact encI_bytes _ b hb
  · exact h.2.2 b hb
  · exact encI_bytes _ b hb
theorem txT_len {c : Cm} (h : c.OK) : (txT c).length ≤ 500 := by
  have h1 := encI_len c.cl h.1.1.2; have h2 := encI_len c.sq h.1.2.1.2; have h3 := encI_len c.ln h.1.2.2.1.2; have h4 := h.2.1
  rw [← txQ_T]
  simp only [txQ, wReq_B, List.length_append, List.length_cons, List.length_nil]
  omega
theorem key_ok {a b : Int} {h bs : List Int} (ha : I64 a) (hs : I64 (1000 + a)) (hb : I64 b) (hl : bs.length ≤ 1000000) : SgK (mkKey a b h bs) := ⟨hs, txT_bytes (cm0_ok (h := h) ha hb hl), Nat.le_trans (txT_len (cm0_ok (h := h) ha hb hl)) (by decide)⟩
set_option maxHeartbeats 4000000 in
theorem RefRight_1 {R : Nat → Prop} {w : World} {g : Nat} {k0 : Int × List Int} (hb : RbR R w g [k0]) (hB : ∀ k, R k → k < w.heap.size) (hk0 : SgK k0) (y m : Int) {R' : Nat → Prop} {N : Nat} {v : Value} {bs : List Int} (hr : RdR R' N w v bs) (hk : SgK (y, bs)) :
    Calls Try.prog 57 #[.pointer (some ⟨g, 0, none⟩), .agg #[.int .i64 y, .int .i64 m], v] w fun e w' => e = .returned (.bool (rightF [k0] (y, bs) m)) ∧ Mod (fun _ => False) w w' := by
  obtain ⟨v0, hc, hg, hs⟩ := hb
  have zg := hc.lt
  have HTX := hid (show RdR (fun k => k < w.heap.size) N w v bs from ⟨hr.1, (fun h0 k hk => hr.1.block_lt h0 k hk), hr.2.2⟩)
  have HBR := Lib.hid hB
  have HK := Lib.hid hk
  have HK0 := Lib.hid hk0
  obtain ⟨ao, cap, rfl⟩ := hs.shape
  obtain ⟨g1, o1, cs1, eao, hrg, hrd, hcs⟩ := hs.at (i := 0) (Nat.lt_succ_self 0)
  subst eao
  obtain ⟨rfl, -⟩ := hrd
  have HAT := hid (show CellsAt R w g1 (o1 + 0 * 2) (sgC k0) from ⟨hrg, hcs⟩)
  have HBK := Lib.hid hc
  clear hr hk hB hk0 hc hs hrg hcs hg
  go_enter Try.func57, Try.ntmps57
  go_upto_region 1 with (fail)
  obtain ⟨w1, hw1⟩ : ∃ zz, zz = (w.alloc (.cells #[.int .i64 y, .int .i64 m] 30)) := ⟨_, rfl⟩
  change Code.wp _ _ _ _ (w.alloc (.cells #[.int .i64 y, .int .i64 m] 30))
  rw [← hw1]
  have HB4 := hid (show Cs w1 (w.heap.size) #[.int .i64 y, .int .i64 m] 30 by rw [hw1]; exact Cs.new _ _ _)
  have hm : Mod (fun _ => False) w w1 := by rw [hw1]; exact (Mod.refl _ _).alloc _
  have HM0 := hid (show Mod (fun _ => False) w w1 from hm.mono (fun _ _ h => h.elim))
  have hs1 : w1.heap.size = w.heap.size + 1 := by rw [hw1]; simp
  have Hx1 := hid (HBK.out.mod hm (fun h => h))
  clear HBK
  have Hx2 := hid (HTX.out.mod hm (fun _ _ h => h))
  clear HTX
  have Hx3 := hid (HAT.out.mod hm (fun _ _ h => h))
  clear HAT
  clear hw1 hm
  go_upto_region 1 with (fail)
  rcases Int.lt_or_le m 1 with h1 | h1
  · skip
    generalize ha0 : Act.mk _ _ = a0
    have oe4 : a0.eval (.tmp 4) = .pointer (some ⟨w.heap.size, 0, none⟩) := by rw [← ha0]; rfl
    have hsz0 : a0.tmps.size = 50 := by rw [← ha0]; rfl
    have HA0 := hid ha0
    clear ha0
    refine wp_region_Q0 50 hsz0 [7, 8, 9, 10, 11, 12, 13, 14, 15, 16, 17, 18, 19, 20, 21, 22, 23, 24, 25, 26, 27, 28, 29, 30, 31, 32, 33, 34, 35, 36, 37, 38, 39, 40, 41, 42, 43, 44, 45, 46, 47, 48, 49, 6] [qi (.pointer (some ⟨w.heap.size, 1, none⟩)), qi (.int .i64 m), qi (.bool false), qi (.bool false), qi undef, qi undef, qi undef, qi undef, qi undef, qi undef, qi undef, qi undef, qi (.bool false), qi (.bool false), qi undef, qi undef, qi undef, qi undef, qi undef, qi undef, qi undef, qi undef, qi undef, qi undef, qi undef, qi undef, qi undef, qi (.bool false), qi (.bool false), qi undef, qi undef, qi undef, qi undef, qi undef, qi undef, qi undef, qi undef, qi undef, qi undef, qi undef, qi undef, qi undef, qi (.bool false), qi (.bool false)] ⟨qi_stable, qi_stable, qi_stable, qi_stable, qi_stable, qi_stable, qi_stable, qi_stable, qi_stable, qi_stable, qi_stable, qi_stable, qi_stable, qi_stable, qi_stable, qi_stable, qi_stable, qi_stable, qi_stable, qi_stable, qi_stable, qi_stable, qi_stable, qi_stable, qi_stable, qi_stable, qi_stable, qi_stable, qi_stable, qi_stable, qi_stable, qi_stable, qi_stable, qi_stable, qi_stable, qi_stable, qi_stable, qi_stable, qi_stable, qi_stable, qi_stable, qi_stable, qi_stable, qi_stable, trivial⟩ [] ⟨?_, ?_, ?_, ?_, ?_, ?_, ?_, ?_, ?_, ?_, ?_, ?_, ?_, ?_, ?_, ?_, ?_, ?_, ?_, ?_, ?_, ?_, ?_, ?_, ?_, ?_, ?_, ?_, ?_, ?_, ?_, ?_, ?_, ?_, ?_, ?_, ?_, ?_, ?_, ?_, ?_, ?_, ?_, ?_, trivial⟩ ?_
    · exact stq (fun E => ex_field rfl Try.underlying30 rfl (by kernel_rfl) (E.v oe4))
    · exact stq (fun E => ex_load1 rfl Try.underlying3 rfl (E.d 0) (Cs.lit1 (HB4.out.mod E.m.old (by intro h2; omega)) rfl))
    · exact stq (fun E => ex_binE rfl (E.d 1) rfl (guard_ints _ _ _ _ _ _) (run_geq_i _ _ _ Try.underlying3) (congrArg Value.bool (decide_eq_false (by omega))))
    · exact stq (fun E => ex_move rfl (E.d 2))
    · refine stepq_env rfl rfl rfl fun _ _ _ _ _ _ _ _ hsz hd _ _ => ?_
      have h3 := hd ⟨3, .guard⟩ (by simp) rfl _ rfl
      exact qe_skip rfl ((wanted_of rfl rfl (hsz 10 (by decide)) h3).trans rfl) rfl
    · refine stepq_env rfl rfl rfl fun _ _ _ _ _ _ _ _ hsz hd _ _ => ?_
      have h3 := hd ⟨3, .guard⟩ (by simp) rfl _ rfl
      exact qe_skip rfl ((wanted_of rfl rfl (hsz 10 (by decide)) h3).trans rfl) rfl
    · refine stepq_env rfl rfl rfl fun _ _ _ _ _ _ _ _ hsz hd _ _ => ?_
      have h3 := hd ⟨3, .guard⟩ (by simp) rfl _ rfl
      exact qe_skip rfl ((wanted_of rfl rfl (hsz 10 (by decide)) h3).trans rfl) rfl
    · refine stepq_env rfl rfl rfl fun _ _ _ _ _ _ _ _ hsz hd _ _ => ?_
      have h3 := hd ⟨3, .guard⟩ (by simp) rfl _ rfl
      exact qe_skip rfl ((wanted_of rfl rfl (hsz 10 (by decide)) h3).trans rfl) rfl
    · refine stepq_env rfl rfl rfl fun _ _ _ _ _ _ _ _ hsz hd _ _ => ?_
      have h3 := hd ⟨3, .guard⟩ (by simp) rfl _ rfl
      exact qe_skip rfl ((wanted_of rfl rfl (hsz 10 (by decide)) h3).trans rfl) rfl
    · refine stepq_env rfl rfl rfl fun _ _ _ _ _ _ _ _ hsz hd _ _ => ?_
      have h3 := hd ⟨3, .guard⟩ (by simp) rfl _ rfl
      exact qe_skip rfl ((wanted_of rfl rfl (hsz 10 (by decide)) h3).trans rfl) rfl
    · refine stepq_env rfl rfl rfl fun _ _ _ _ _ _ _ _ hsz hd _ _ => ?_
      have h3 := hd ⟨3, .guard⟩ (by simp) rfl _ rfl
      exact qe_skip rfl ((wanted_of rfl rfl (hsz 10 (by decide)) h3).trans rfl) rfl
    · refine stepq_env rfl rfl rfl fun _ _ _ _ _ _ _ _ hsz hd _ _ => ?_
      have h3 := hd ⟨3, .guard⟩ (by simp) rfl _ rfl
      exact qe_skip rfl ((wanted_of rfl rfl (hsz 10 (by decide)) h3).trans rfl) rfl
    · exact stq (fun E => ex_pick rfl (E.d 3) (E.d 11) rfl)
    · exact stq (fun E => ex_move rfl (E.d 12))
    · refine stepq_env rfl rfl rfl fun _ _ _ _ _ _ _ _ hsz hd _ _ => ?_
      have h13 := hd ⟨13, .guard⟩ (by simp) rfl _ rfl
      exact qe_skip rfl ((wanted_of rfl rfl (hsz 20 (by decide)) h13).trans rfl) rfl
    · refine stepq_env rfl rfl rfl fun _ _ _ _ _ _ _ _ hsz hd _ _ => ?_
      have h13 := hd ⟨13, .guard⟩ (by simp) rfl _ rfl
      exact qe_skip rfl ((wanted_of rfl rfl (hsz 20 (by decide)) h13).trans rfl) rfl
    · refine stepq_env rfl rfl rfl fun _ _ _ _ _ _ _ _ hsz hd _ _ => ?_
      have h13 := hd ⟨13, .guard⟩ (by simp) rfl _ rfl
      exact qe_skip rfl ((wanted_of rfl rfl (hsz 20 (by decide)) h13).trans rfl) rfl
    · refine stepq_env rfl rfl rfl fun _ _ _ _ _ _ _ _ hsz hd _ _ => ?_
      have h13 := hd ⟨13, .guard⟩ (by simp) rfl _ rfl
      exact qe_skip rfl ((wanted_of rfl rfl (hsz 20 (by decide)) h13).trans rfl) rfl
    · refine stepq_env rfl rfl rfl fun _ _ _ _ _ _ _ _ hsz hd _ _ => ?_
      have h13 := hd ⟨13, .guard⟩ (by simp) rfl _ rfl
      exact qe_skip rfl ((wanted_of rfl rfl (hsz 20 (by decide)) h13).trans rfl) rfl
    · refine stepq_env rfl rfl rfl fun _ _ _ _ _ _ _ _ hsz hd _ _ => ?_
      have h13 := hd ⟨13, .guard⟩ (by simp) rfl _ rfl
      exact qe_skip rfl ((wanted_of rfl rfl (hsz 20 (by decide)) h13).trans rfl) rfl
    · refine stepq_env rfl rfl rfl fun _ _ _ _ _ _ _ _ hsz hd _ _ => ?_
      have h13 := hd ⟨13, .guard⟩ (by simp) rfl _ rfl
      exact qe_skip rfl ((wanted_of rfl rfl (hsz 20 (by decide)) h13).trans rfl) rfl
    · refine stepq_env rfl rfl rfl fun _ _ _ _ _ _ _ _ hsz hd _ _ => ?_
      have h13 := hd ⟨13, .guard⟩ (by simp) rfl _ rfl
      exact qe_skip rfl ((wanted_of rfl rfl (hsz 20 (by decide)) h13).trans rfl) rfl
    · refine stepq_env rfl rfl rfl fun _ _ _ _ _ _ _ _ hsz hd _ _ => ?_
      have h13 := hd ⟨13, .guard⟩ (by simp) rfl _ rfl
      exact qe_skip rfl ((wanted_of rfl rfl (hsz 20 (by decide)) h13).trans rfl) rfl
    · refine stepq_env rfl rfl rfl fun _ _ _ _ _ _ _ _ hsz hd _ _ => ?_
      have h13 := hd ⟨13, .guard⟩ (by simp) rfl _ rfl
      exact qe_skip rfl ((wanted_of rfl rfl (hsz 20 (by decide)) h13).trans rfl) rfl
    · refine stepq_env rfl rfl rfl fun _ _ _ _ _ _ _ _ hsz hd _ _ => ?_
      have h13 := hd ⟨13, .guard⟩ (by simp) rfl _ rfl
      exact qe_skip rfl ((wanted_of rfl rfl (hsz 20 (by decide)) h13).trans rfl) rfl
    · refine stepq_env rfl rfl rfl fun _ _ _ _ _ _ _ _ hsz hd _ _ => ?_
      have h13 := hd ⟨13, .guard⟩ (by simp) rfl _ rfl
      exact qe_skip rfl ((wanted_of rfl rfl (hsz 20 (by decide)) h13).trans rfl) rfl
    · refine stepq_env rfl rfl rfl fun _ _ _ _ _ _ _ _ hsz hd _ _ => ?_
      have h13 := hd ⟨13, .guard⟩ (by simp) rfl _ rfl
      exact qe_skip rfl ((wanted_of rfl rfl (hsz 20 (by decide)) h13).trans rfl) rfl
    · exact stq (fun E => ex_pick rfl (E.d 13) (E.d 26) rfl)
    · exact stq (fun E => ex_move rfl (E.d 27))
    · refine stepq_env rfl rfl rfl fun _ _ _ _ _ _ _ _ hsz hd _ _ => ?_
      have h28 := hd ⟨28, .guard⟩ (by simp) rfl _ rfl
      exact qe_skip rfl ((wanted_of rfl rfl (hsz 35 (by decide)) h28).trans rfl) rfl
    · refine stepq_env rfl rfl rfl fun _ _ _ _ _ _ _ _ hsz hd _ _ => ?_
      have h28 := hd ⟨28, .guard⟩ (by simp) rfl _ rfl
      exact qe_skip rfl ((wanted_of rfl rfl (hsz 35 (by decide)) h28).trans rfl) rfl
    · refine stepq_env rfl rfl rfl fun _ _ _ _ _ _ _ _ hsz hd _ _ => ?_
      have h28 := hd ⟨28, .guard⟩ (by simp) rfl _ rfl
      exact qe_skip rfl ((wanted_of rfl rfl (hsz 35 (by decide)) h28).trans rfl) rfl
    · refine stepq_env rfl rfl rfl fun _ _ _ _ _ _ _ _ hsz hd _ _ => ?_
      have h28 := hd ⟨28, .guard⟩ (by simp) rfl _ rfl
      exact qe_skip rfl ((wanted_of rfl rfl (hsz 35 (by decide)) h28).trans rfl) rfl
    · refine stepq_env rfl rfl rfl fun _ _ _ _ _ _ _ _ hsz hd _ _ => ?_
      have h28 := hd ⟨28, .guard⟩ (by simp) rfl _ rfl
      exact qe_skip rfl ((wanted_of rfl rfl (hsz 35 (by decide)) h28).trans rfl) rfl
    · refine stepq_env rfl rfl rfl fun _ _ _ _ _ _ _ _ hsz hd _ _ => ?_
      have h28 := hd ⟨28, .guard⟩ (by simp) rfl _ rfl
      exact qe_skip rfl ((wanted_of rfl rfl (hsz 35 (by decide)) h28).trans rfl) rfl
    · refine stepq_env rfl rfl rfl fun _ _ _ _ _ _ _ _ hsz hd _ _ => ?_
      have h28 := hd ⟨28, .guard⟩ (by simp) rfl _ rfl
      exact qe_skip rfl ((wanted_of rfl rfl (hsz 35 (by decide)) h28).trans rfl) rfl
    · refine stepq_env rfl rfl rfl fun _ _ _ _ _ _ _ _ hsz hd _ _ => ?_
      have h28 := hd ⟨28, .guard⟩ (by simp) rfl _ rfl
      exact qe_skip rfl ((wanted_of rfl rfl (hsz 35 (by decide)) h28).trans rfl) rfl
    · refine stepq_env rfl rfl rfl fun _ _ _ _ _ _ _ _ hsz hd _ _ => ?_
      have h28 := hd ⟨28, .guard⟩ (by simp) rfl _ rfl
      exact qe_skip rfl ((wanted_of rfl rfl (hsz 35 (by decide)) h28).trans rfl) rfl
    · refine stepq_env rfl rfl rfl fun _ _ _ _ _ _ _ _ hsz hd _ _ => ?_
      have h28 := hd ⟨28, .guard⟩ (by simp) rfl _ rfl
      exact qe_skip rfl ((wanted_of rfl rfl (hsz 35 (by decide)) h28).trans rfl) rfl
    · refine stepq_env rfl rfl rfl fun _ _ _ _ _ _ _ _ hsz hd _ _ => ?_
      have h28 := hd ⟨28, .guard⟩ (by simp) rfl _ rfl
      exact qe_skip rfl ((wanted_of rfl rfl (hsz 35 (by decide)) h28).trans rfl) rfl
    · refine stepq_env rfl rfl rfl fun _ _ _ _ _ _ _ _ hsz hd _ _ => ?_
      have h28 := hd ⟨28, .guard⟩ (by simp) rfl _ rfl
      exact qe_skip rfl ((wanted_of rfl rfl (hsz 35 (by decide)) h28).trans rfl) rfl
    · refine stepq_env rfl rfl rfl fun _ _ _ _ _ _ _ _ hsz hd _ _ => ?_
      have h28 := hd ⟨28, .guard⟩ (by simp) rfl _ rfl
      exact qe_skip rfl ((wanted_of rfl rfl (hsz 35 (by decide)) h28).trans rfl) rfl
    · exact stq (fun E => ex_pick rfl (E.d 28) (E.d 41) rfl)
    · exact stq (fun E => ex_assign rfl (E.d 42))
    intro u1_0 hr
    have zu1_0 := hr.size
    have Cx4 := hid (hr.new (S := (fun _ => False)))
    clear hr
    refine QChain.nil fun vs hl hzz hrows hne => ?_
    obtain ⟨Z, hYZ, hZb, hV⟩ := hzz
    have f3 := fvi hV hl 3
    have f6 := fvi hV hl 6
    have f10 := fvi hV hl 10
    have f13 := fvi hV hl 13
    have f14 := fvi hV hl 14
    have f28 := fvi hV hl 28
    have f29 := fvi hV hl 29
    have f39 := fvi hV hl 39
    have f43 := fvi hV hl 43
    rw [show vs = [gw vs 0, gw vs 1, gw vs 2, gw vs 3, gw vs 4, gw vs 5, gw vs 6, gw vs 7, gw vs 8, gw vs 9, gw vs 10, gw vs 11, gw vs 12, gw vs 13, gw vs 14, gw vs 15, gw vs 16, gw vs 17, gw vs 18, gw vs 19, gw vs 20, gw vs 21, gw vs 22, gw vs 23, gw vs 24, gw vs 25, gw vs 26, gw vs 27, gw vs 28, gw vs 29, gw vs 30, gw vs 31, gw vs 32, gw vs 33, gw vs 34, gw vs 35, gw vs 36, gw vs 37, gw vs 38, gw vs 39, gw vs 40, gw vs 41, gw vs 42, gw vs 43] from (gw_eta hl).trans rfl]
    have ha0 := HA0.out
    subst ha0
    clear HA0 hV hYZ hZb hsz0 hrows hne oe4
    simp only [putAll, Act.put, List.setIfInBounds_toArray, List.set_cons_zero, List.set_cons_succ, f3, f6, f10, f13, f14, f28, f29, f39, f43]
    clear hl f3 f6 f10 f13 f14 f28 f29 f39 f43
    go_wp2
    go_ret
    exact ⟨congrArg (fun z => Ending.returned (Value.bool z)) (right_not (by omega)), (HM0.out.trans Cx4.out (fun _ _ h => h.elim))⟩
  rcases Int.lt_or_le 1 m with h2 | h2
  · skip
    generalize ha0 : Act.mk _ _ = a0
    have oe0 : a0.eval (.tmp 0) = .pointer (some ⟨g, 0, none⟩) := by rw [← ha0]; rfl
    have oe4 : a0.eval (.tmp 4) = .pointer (some ⟨w.heap.size, 0, none⟩) := by rw [← ha0]; rfl
    have hsz0 : a0.tmps.size = 50 := by rw [← ha0]; rfl
    have HA0 := hid ha0
    clear ha0
    refine wp_region_Q0 50 hsz0 [7, 8, 9, 10, 11, 12, 13, 14, 15, 16, 17, 18, 19, 20, 21, 22, 23, 24, 25, 26, 27, 28, 29, 30, 31, 32, 33, 34, 35, 36, 37, 38, 39, 40, 41, 42, 43, 44, 45, 46, 47, 48, 49, 6] [qi (.pointer (some ⟨w.heap.size, 1, none⟩)), qi (.int .i64 m), qi (.bool true), qi (.bool true), qi (.pointer (some ⟨w.heap.size, 1, none⟩)), qi (.int .i64 m), qi (.pointer (some ⟨g, 0, none⟩)), qi (.pointer (some ⟨g, 0, none⟩)), qi (.pointer (some ⟨g, 0, none⟩)), qi (.slice (some ⟨g1, o1, none⟩) 1 cap), qi (.int .i64 1), qi (.bool false), qi (.bool false), qi (.bool false), qi undef, qi undef, qi undef, qi undef, qi undef, qi undef, qi undef, qi undef, qi undef, qi undef, qi undef, qi undef, qi undef, qi (.bool false), qi (.bool false), qi undef, qi undef, qi undef, qi undef, qi undef, qi undef, qi undef, qi undef, qi undef, qi undef, qi undef, qi undef, qi undef, qi (.bool false), qi (.bool false)] ⟨qi_stable, qi_stable, qi_stable, qi_stable, qi_stable, qi_stable, qi_stable, qi_stable, qi_stable, qi_stable, qi_stable, qi_stable, qi_stable, qi_stable, qi_stable, qi_stable, qi_stable, qi_stable, qi_stable, qi_stable, qi_stable, qi_stable, qi_stable, qi_stable, qi_stable, qi_stable, qi_stable, qi_stable, qi_stable, qi_stable, qi_stable, qi_stable, qi_stable, qi_stable, qi_stable, qi_stable, qi_stable, qi_stable, qi_stable, qi_stable, qi_stable, qi_stable, qi_stable, qi_stable, trivial⟩ [] ⟨?_, ?_, ?_, ?_, ?_, ?_, ?_, ?_, ?_, ?_, ?_, ?_, ?_, ?_, ?_, ?_, ?_, ?_, ?_, ?_, ?_, ?_, ?_, ?_, ?_, ?_, ?_, ?_, ?_, ?_, ?_, ?_, ?_, ?_, ?_, ?_, ?_, ?_, ?_, ?_, ?_, ?_, ?_, ?_, trivial⟩ ?_
    · exact stq (fun E => ex_field rfl Try.underlying30 rfl (by kernel_rfl) (E.v oe4))
    · exact stq (fun E => ex_load1 rfl Try.underlying3 rfl (E.d 0) (Cs.lit1 (HB4.out.mod E.m.old (by intro h2; omega)) rfl))
    · exact stq (fun E => ex_binE rfl (E.d 1) rfl (guard_ints _ _ _ _ _ _) (run_geq_i _ _ _ Try.underlying3) (congrArg Value.bool (decide_eq_true h1)))
    · exact stq (fun E => ex_move rfl (E.d 2))
    · refine stepq_env rfl rfl rfl fun _ _ _ _ _ _ _ hout hsz hd _ _ => ?_
      have h3 := hd ⟨3, .guard⟩ (by simp) rfl _ rfl
      refine qe_run rfl ((wanted_of rfl rfl (hsz 10 (by decide)) h3).trans rfl) (ex_field rfl Try.underlying30 rfl (by kernel_rfl) ((hout 4 (by decide)).trans oe4)) QE.refl ?_
      rfl
    · refine stepq_env rfl rfl rfl fun _ _ _ _ _ hm _ _ hsz hd _ _ => ?_
      have h3 := hd ⟨3, .guard⟩ (by simp) rfl _ rfl
      have h4 := hd ⟨4, .data⟩ (by simp) rfl _ rfl
      refine qe_run rfl ((wanted_of rfl rfl (hsz 10 (by decide)) h3).trans rfl) (ex_load1 rfl Try.underlying3 rfl h4 (Cs.lit1 (HB4.out.mod hm.old (by intro h2; omega)) rfl)) QE.refl ?_
      rfl
    · refine stepq_env rfl rfl rfl fun _ _ _ _ _ _ _ hout hsz hd _ _ => ?_
      have h3 := hd ⟨3, .guard⟩ (by simp) rfl _ rfl
      refine qe_run rfl ((wanted_of rfl rfl (hsz 10 (by decide)) h3).trans rfl) (ex_move rfl ((hout 0 (by decide)).trans oe0)) QE.refl ?_
      rfl
    · refine stepq_env rfl rfl rfl fun _ _ _ _ _ _ _ _ hsz hd _ _ => ?_
      have h3 := hd ⟨3, .guard⟩ (by simp) rfl _ rfl
      have h6 := hd ⟨6, .data⟩ (by simp) rfl _ rfl
      refine qe_run rfl ((wanted_of rfl rfl (hsz 10 (by decide)) h3).trans rfl) (ex_nil rfl h6) QE.refl ?_
      rfl
    · refine stepq_env rfl rfl rfl fun _ _ _ _ _ _ _ _ hsz hd _ _ => ?_
      have h3 := hd ⟨3, .guard⟩ (by simp) rfl _ rfl
      have h7 := hd ⟨7, .data⟩ (by simp) rfl _ rfl
      refine qe_run rfl ((wanted_of rfl rfl (hsz 10 (by decide)) h3).trans rfl) (ex_field rfl Try.underlying43 rfl (by kernel_rfl) h7) QE.refl ?_
      rfl
    · refine stepq_env rfl rfl rfl fun _ _ _ _ _ hm _ _ hsz hd _ _ => ?_
      have h3 := hd ⟨3, .guard⟩ (by simp) rfl _ rfl
      have h8 := hd ⟨8, .data⟩ (by simp) rfl _ rfl
      refine qe_run rfl ((wanted_of rfl rfl (hsz 10 (by decide)) h3).trans rfl) (ex_load1 rfl Try.underlying41 rfl h8 (Cs.lit1 (Hx1.out.mod hm.old (by intro h2; omega)) rfl)) QE.refl ?_
      rfl
    · refine stepq_env rfl rfl rfl fun _ _ _ _ _ _ _ _ hsz hd _ _ => ?_
      have h3 := hd ⟨3, .guard⟩ (by simp) rfl _ rfl
      have h9 := hd ⟨9, .data⟩ (by simp) rfl _ rfl
      refine qe_run rfl ((wanted_of rfl rfl (hsz 10 (by decide)) h3).trans rfl) (ex_lenS rfl h9 Try.underlying41) QE.refl ?_
      rfl
    · refine stepq_env rfl rfl rfl fun _ _ _ _ _ _ _ _ hsz hd _ _ => ?_
      have h3 := hd ⟨3, .guard⟩ (by simp) rfl _ rfl
      have h5 := hd ⟨5, .data⟩ (by simp) rfl _ rfl
      have h10 := hd ⟨10, .data⟩ (by simp) rfl _ rfl
      refine qe_run rfl ((wanted_of rfl rfl (hsz 10 (by decide)) h3).trans rfl) (ex_binE rfl h5 h10 (guard_ints _ _ _ _ _ _) (run_leq_i _ _ _ Try.underlying3) (congrArg Value.bool (decide_eq_false (by omega)))) QE.refl ?_
      rfl
    · exact stq (fun E => ex_pick rfl (E.d 3) (E.d 11) rfl)
    · exact stq (fun E => ex_move rfl (E.d 12))
    · refine stepq_env rfl rfl rfl fun _ _ _ _ _ _ _ _ hsz hd _ _ => ?_
      have h13 := hd ⟨13, .guard⟩ (by simp) rfl _ rfl
      exact qe_skip rfl ((wanted_of rfl rfl (hsz 20 (by decide)) h13).trans rfl) rfl
    · refine stepq_env rfl rfl rfl fun _ _ _ _ _ _ _ _ hsz hd _ _ => ?_
      have h13 := hd ⟨13, .guard⟩ (by simp) rfl _ rfl
      exact qe_skip rfl ((wanted_of rfl rfl (hsz 20 (by decide)) h13).trans rfl) rfl
    · refine stepq_env rfl rfl rfl fun _ _ _ _ _ _ _ _ hsz hd _ _ => ?_
      have h13 := hd ⟨13, .guard⟩ (by simp) rfl _ rfl
      exact qe_skip rfl ((wanted_of rfl rfl (hsz 20 (by decide)) h13).trans rfl) rfl
    · refine stepq_env rfl rfl rfl fun _ _ _ _ _ _ _ _ hsz hd _ _ => ?_
      have h13 := hd ⟨13, .guard⟩ (by simp) rfl _ rfl
      exact qe_skip rfl ((wanted_of rfl rfl (hsz 20 (by decide)) h13).trans rfl) rfl
    · refine stepq_env rfl rfl rfl fun _ _ _ _ _ _ _ _ hsz hd _ _ => ?_
      have h13 := hd ⟨13, .guard⟩ (by simp) rfl _ rfl
      exact qe_skip rfl ((wanted_of rfl rfl (hsz 20 (by decide)) h13).trans rfl) rfl
    · refine stepq_env rfl rfl rfl fun _ _ _ _ _ _ _ _ hsz hd _ _ => ?_
      have h13 := hd ⟨13, .guard⟩ (by simp) rfl _ rfl
      exact qe_skip rfl ((wanted_of rfl rfl (hsz 20 (by decide)) h13).trans rfl) rfl
    · refine stepq_env rfl rfl rfl fun _ _ _ _ _ _ _ _ hsz hd _ _ => ?_
      have h13 := hd ⟨13, .guard⟩ (by simp) rfl _ rfl
      exact qe_skip rfl ((wanted_of rfl rfl (hsz 20 (by decide)) h13).trans rfl) rfl
    · refine stepq_env rfl rfl rfl fun _ _ _ _ _ _ _ _ hsz hd _ _ => ?_
      have h13 := hd ⟨13, .guard⟩ (by simp) rfl _ rfl
      exact qe_skip rfl ((wanted_of rfl rfl (hsz 20 (by decide)) h13).trans rfl) rfl
    · refine stepq_env rfl rfl rfl fun _ _ _ _ _ _ _ _ hsz hd _ _ => ?_
      have h13 := hd ⟨13, .guard⟩ (by simp) rfl _ rfl
      exact qe_skip rfl ((wanted_of rfl rfl (hsz 20 (by decide)) h13).trans rfl) rfl
    · refine stepq_env rfl rfl rfl fun _ _ _ _ _ _ _ _ hsz hd _ _ => ?_
      have h13 := hd ⟨13, .guard⟩ (by simp) rfl _ rfl
      exact qe_skip rfl ((wanted_of rfl rfl (hsz 20 (by decide)) h13).trans rfl) rfl
    · refine stepq_env rfl rfl rfl fun _ _ _ _ _ _ _ _ hsz hd _ _ => ?_
      have h13 := hd ⟨13, .guard⟩ (by simp) rfl _ rfl
      exact qe_skip rfl ((wanted_of rfl rfl (hsz 20 (by decide)) h13).trans rfl) rfl
    · refine stepq_env rfl rfl rfl fun _ _ _ _ _ _ _ _ hsz hd _ _ => ?_
      have h13 := hd ⟨13, .guard⟩ (by simp) rfl _ rfl
      exact qe_skip rfl ((wanted_of rfl rfl (hsz 20 (by decide)) h13).trans rfl) rfl
    · refine stepq_env rfl rfl rfl fun _ _ _ _ _ _ _ _ hsz hd _ _ => ?_
      have h13 := hd ⟨13, .guard⟩ (by simp) rfl _ rfl
      exact qe_skip rfl ((wanted_of rfl rfl (hsz 20 (by decide)) h13).trans rfl) rfl
    · exact stq (fun E => ex_pick rfl (E.d 13) (E.d 26) rfl)
    · exact stq (fun E => ex_move rfl (E.d 27))
    · refine stepq_env rfl rfl rfl fun _ _ _ _ _ _ _ _ hsz hd _ _ => ?_
      have h28 := hd ⟨28, .guard⟩ (by simp) rfl _ rfl
      exact qe_skip rfl ((wanted_of rfl rfl (hsz 35 (by decide)) h28).trans rfl) rfl
    · refine stepq_env rfl rfl rfl fun _ _ _ _ _ _ _ _ hsz hd _ _ => ?_
      have h28 := hd ⟨28, .guard⟩ (by simp) rfl _ rfl
      exact qe_skip rfl ((wanted_of rfl rfl (hsz 35 (by decide)) h28).trans rfl) rfl
    · refine stepq_env rfl rfl rfl fun _ _ _ _ _ _ _ _ hsz hd _ _ => ?_
      have h28 := hd ⟨28, .guard⟩ (by simp) rfl _ rfl
      exact qe_skip rfl ((wanted_of rfl rfl (hsz 35 (by decide)) h28).trans rfl) rfl
    · refine stepq_env rfl rfl rfl fun _ _ _ _ _ _ _ _ hsz hd _ _ => ?_
      have h28 := hd ⟨28, .guard⟩ (by simp) rfl _ rfl
      exact qe_skip rfl ((wanted_of rfl rfl (hsz 35 (by decide)) h28).trans rfl) rfl
    · refine stepq_env rfl rfl rfl fun _ _ _ _ _ _ _ _ hsz hd _ _ => ?_
      have h28 := hd ⟨28, .guard⟩ (by simp) rfl _ rfl
      exact qe_skip rfl ((wanted_of rfl rfl (hsz 35 (by decide)) h28).trans rfl) rfl
    · refine stepq_env rfl rfl rfl fun _ _ _ _ _ _ _ _ hsz hd _ _ => ?_
      have h28 := hd ⟨28, .guard⟩ (by simp) rfl _ rfl
      exact qe_skip rfl ((wanted_of rfl rfl (hsz 35 (by decide)) h28).trans rfl) rfl
    · refine stepq_env rfl rfl rfl fun _ _ _ _ _ _ _ _ hsz hd _ _ => ?_
      have h28 := hd ⟨28, .guard⟩ (by simp) rfl _ rfl
      exact qe_skip rfl ((wanted_of rfl rfl (hsz 35 (by decide)) h28).trans rfl) rfl
    · refine stepq_env rfl rfl rfl fun _ _ _ _ _ _ _ _ hsz hd _ _ => ?_
      have h28 := hd ⟨28, .guard⟩ (by simp) rfl _ rfl
      exact qe_skip rfl ((wanted_of rfl rfl (hsz 35 (by decide)) h28).trans rfl) rfl
    · refine stepq_env rfl rfl rfl fun _ _ _ _ _ _ _ _ hsz hd _ _ => ?_
      have h28 := hd ⟨28, .guard⟩ (by simp) rfl _ rfl
      exact qe_skip rfl ((wanted_of rfl rfl (hsz 35 (by decide)) h28).trans rfl) rfl
    · refine stepq_env rfl rfl rfl fun _ _ _ _ _ _ _ _ hsz hd _ _ => ?_
      have h28 := hd ⟨28, .guard⟩ (by simp) rfl _ rfl
      exact qe_skip rfl ((wanted_of rfl rfl (hsz 35 (by decide)) h28).trans rfl) rfl
    · refine stepq_env rfl rfl rfl fun _ _ _ _ _ _ _ _ hsz hd _ _ => ?_
      have h28 := hd ⟨28, .guard⟩ (by simp) rfl _ rfl
      exact qe_skip rfl ((wanted_of rfl rfl (hsz 35 (by decide)) h28).trans rfl) rfl
    · refine stepq_env rfl rfl rfl fun _ _ _ _ _ _ _ _ hsz hd _ _ => ?_
      have h28 := hd ⟨28, .guard⟩ (by simp) rfl _ rfl
      exact qe_skip rfl ((wanted_of rfl rfl (hsz 35 (by decide)) h28).trans rfl) rfl
    · refine stepq_env rfl rfl rfl fun _ _ _ _ _ _ _ _ hsz hd _ _ => ?_
      have h28 := hd ⟨28, .guard⟩ (by simp) rfl _ rfl
      exact qe_skip rfl ((wanted_of rfl rfl (hsz 35 (by decide)) h28).trans rfl) rfl
    · exact stq (fun E => ex_pick rfl (E.d 28) (E.d 41) rfl)
    · exact stq (fun E => ex_assign rfl (E.d 42))
    intro u1_0 hr
    have zu1_0 := hr.size
    have Cx4 := hid (hr.new (S := (fun _ => False)))
    clear hr
    refine QChain.nil fun vs hl hzz hrows hne => ?_
    obtain ⟨Z, hYZ, hZb, hV⟩ := hzz
    have f3 := fvi hV hl 3
    have f6 := fvi hV hl 6
    have f10 := fvi hV hl 10
    have f13 := fvi hV hl 13
    have f14 := fvi hV hl 14
    have f28 := fvi hV hl 28
    have f29 := fvi hV hl 29
    have f39 := fvi hV hl 39
    have f43 := fvi hV hl 43
    rw [show vs = [gw vs 0, gw vs 1, gw vs 2, gw vs 3, gw vs 4, gw vs 5, gw vs 6, gw vs 7, gw vs 8, gw vs 9, gw vs 10, gw vs 11, gw vs 12, gw vs 13, gw vs 14, gw vs 15, gw vs 16, gw vs 17, gw vs 18, gw vs 19, gw vs 20, gw vs 21, gw vs 22, gw vs 23, gw vs 24, gw vs 25, gw vs 26, gw vs 27, gw vs 28, gw vs 29, gw vs 30, gw vs 31, gw vs 32, gw vs 33, gw vs 34, gw vs 35, gw vs 36, gw vs 37, gw vs 38, gw vs 39, gw vs 40, gw vs 41, gw vs 42, gw vs 43] from (gw_eta hl).trans rfl]
    have ha0 := HA0.out
    subst ha0
    clear HA0 hV hYZ hZb hsz0 hrows hne oe0 oe4
    simp only [putAll, Act.put, List.setIfInBounds_toArray, List.set_cons_zero, List.set_cons_succ, f3, f6, f10, f13, f14, f28, f29, f39, f43]
    clear hl f3 f6 f10 f13 f14 f28 f29 f39 f43
    go_wp2
    go_ret
    exact ⟨congrArg (fun z => Ending.returned (Value.bool z)) (right_not (by omega)), (HM0.out.trans Cx4.out (fun _ _ h => h.elim))⟩
  · skip
    obtain rfl : m = 1 := by omega
    generalize ha0 : Act.mk _ _ = a0
    have oe0 : a0.eval (.tmp 0) = .pointer (some ⟨g, 0, none⟩) := by rw [← ha0]; rfl
    have oe2 : a0.eval (.tmp 2) = v := by rw [← ha0]; rfl
    have oe4 : a0.eval (.tmp 4) = .pointer (some ⟨w.heap.size, 0, none⟩) := by rw [← ha0]; rfl
    have hsz0 : a0.tmps.size = 50 := by rw [← ha0]; rfl
    have HA0 := hid ha0
    clear ha0
    refine wp_region_Q0 50 hsz0 [7, 8, 9, 10, 11, 12, 13, 14, 15, 16, 17, 18, 19, 20, 21, 22, 23, 24, 25, 26, 27, 28, 29, 30, 31, 32, 33, 34, 35, 36, 37, 38, 39, 40, 41, 42, 43, 44, 45, 46, 47, 48, 49, 6] [qi (.pointer (some ⟨w.heap.size, 1, none⟩)), qi (.int .i64 1), qi (.bool true), qi (.bool true), qi (.pointer (some ⟨w.heap.size, 1, none⟩)), qi (.int .i64 1), qi (.pointer (some ⟨g, 0, none⟩)), qi (.pointer (some ⟨g, 0, none⟩)), qi (.pointer (some ⟨g, 0, none⟩)), qi (.slice (some ⟨g1, o1, none⟩) 1 cap), qi (.int .i64 1), qi (.bool true), qi (.bool true), qi (.bool true), qi (.pointer (some ⟨g, 0, none⟩)), qi (.pointer (some ⟨g, 0, none⟩)), qi (.pointer (some ⟨g, 0, none⟩)), qi (.slice (some ⟨g1, o1, none⟩) 1 cap), qi (.pointer (some ⟨w.heap.size, 1, none⟩)), qi (.int .i64 1), qi (.int .i64 0), qi (.pointer (some ⟨g1, o1 + 0 * 2, none⟩)), qi (.pointer (some ⟨g1, o1 + 0 * 2, none⟩)), qi (.int .i64 k0.1), qi (.pointer (some ⟨w.heap.size, 0, none⟩)), qi (.int .i64 y), qi (.bool (k0.1 == y)), qi (.bool (k0.1 == y)), qi (.bool (k0.1 == y)), qc (k0.1 == y) (qi (.pointer (some ⟨g, 0, none⟩))), qc (k0.1 == y) (qi (.pointer (some ⟨g, 0, none⟩))), qc (k0.1 == y) (qi (.pointer (some ⟨g, 0, none⟩))), qc (k0.1 == y) (qi (.slice (some ⟨g1, o1, none⟩) 1 cap)), qc (k0.1 == y) (qi (.pointer (some ⟨w.heap.size, 1, none⟩))), qc (k0.1 == y) (qi (.int .i64 1)), qc (k0.1 == y) (qi (.int .i64 0)), qc (k0.1 == y) (qi (.pointer (some ⟨g1, o1 + 0 * 2, none⟩))), qc (k0.1 == y) (qi (.pointer (some ⟨g1, o1 + 0 * 2 + 1, none⟩))), qc (k0.1 == y) (qi (.string (strOfNums k0.2))), qc (k0.1 == y) (qi (v)), qc (k0.1 == y) (qi (.string (strOfNums bs))), qc (k0.1 == y) (qi (.bool (decide (k0.2 = bs)))), qi (.bool ((k0.1 == y) && (decide (k0.2 = bs)))), qi (.bool ((k0.1 == y) && (decide (k0.2 = bs))))] ⟨qi_stable, qi_stable, qi_stable, qi_stable, qi_stable, qi_stable, qi_stable, qi_stable, qi_stable, qi_stable, qi_stable, qi_stable, qi_stable, qi_stable, qi_stable, qi_stable, qi_stable, qi_stable, qi_stable, qi_stable, qi_stable, qi_stable, qi_stable, qi_stable, qi_stable, qi_stable, qi_stable, qi_stable, qi_stable, (qc_stable qi_stable), (qc_stable qi_stable), (qc_stable qi_stable), (qc_stable qi_stable), (qc_stable qi_stable), (qc_stable qi_stable), (qc_stable qi_stable), (qc_stable qi_stable), (qc_stable qi_stable), (qc_stable qi_stable), (qc_stable qi_stable), (qc_stable qi_stable), (qc_stable qi_stable), qi_stable, qi_stable, trivial⟩ [] ⟨?_, ?_, ?_, ?_, ?_, ?_, ?_, ?_, ?_, ?_, ?_, ?_, ?_, ?_, ?_, ?_, ?_, ?_, ?_, ?_, ?_, ?_, ?_, ?_, ?_, ?_, ?_, ?_, ?_, ?_, ?_, ?_, ?_, ?_, ?_, ?_, ?_, ?_, ?_, ?_, ?_, ?_, ?_, ?_, trivial⟩ ?_
    · exact stq (fun E => ex_field rfl Try.underlying30 rfl (by kernel_rfl) (E.v oe4))
    · exact stq (fun E => ex_load1 rfl Try.underlying3 rfl (E.d 0) (Cs.lit1 (HB4.out.mod E.m.old (by intro h2; omega)) rfl))
    · exact stq (fun E => ex_binE rfl (E.d 1) rfl (guard_ints _ _ _ _ _ _) (run_geq_i _ _ _ Try.underlying3) (congrArg Value.bool (decide_eq_true h1)))
    · exact stq (fun E => ex_move rfl (E.d 2))
    · refine stepq_env rfl rfl rfl fun _ _ _ _ _ _ _ hout hsz hd _ _ => ?_
      have h3 := hd ⟨3, .guard⟩ (by simp) rfl _ rfl
      refine qe_run rfl ((wanted_of rfl rfl (hsz 10 (by decide)) h3).trans rfl) (ex_field rfl Try.underlying30 rfl (by kernel_rfl) ((hout 4 (by decide)).trans oe4)) QE.refl ?_
      rfl
    · refine stepq_env rfl rfl rfl fun _ _ _ _ _ hm _ _ hsz hd _ _ => ?_
      have h3 := hd ⟨3, .guard⟩ (by simp) rfl _ rfl
      have h4 := hd ⟨4, .data⟩ (by simp) rfl _ rfl
      refine qe_run rfl ((wanted_of rfl rfl (hsz 10 (by decide)) h3).trans rfl) (ex_load1 rfl Try.underlying3 rfl h4 (Cs.lit1 (HB4.out.mod hm.old (by intro h2; omega)) rfl)) QE.refl ?_
      rfl
    · refine stepq_env rfl rfl rfl fun _ _ _ _ _ _ _ hout hsz hd _ _ => ?_
      have h3 := hd ⟨3, .guard⟩ (by simp) rfl _ rfl
      refine qe_run rfl ((wanted_of rfl rfl (hsz 10 (by decide)) h3).trans rfl) (ex_move rfl ((hout 0 (by decide)).trans oe0)) QE.refl ?_
      rfl
    · refine stepq_env rfl rfl rfl fun _ _ _ _ _ _ _ _ hsz hd _ _ => ?_
      have h3 := hd ⟨3, .guard⟩ (by simp) rfl _ rfl
      have h6 := hd ⟨6, .data⟩ (by simp) rfl _ rfl
      refine qe_run rfl ((wanted_of rfl rfl (hsz 10 (by decide)) h3).trans rfl) (ex_nil rfl h6) QE.refl ?_
      rfl
    · refine stepq_env rfl rfl rfl fun _ _ _ _ _ _ _ _ hsz hd _ _ => ?_
      have h3 := hd ⟨3, .guard⟩ (by simp) rfl _ rfl
      have h7 := hd ⟨7, .data⟩ (by simp) rfl _ rfl
      refine qe_run rfl ((wanted_of rfl rfl (hsz 10 (by decide)) h3).trans rfl) (ex_field rfl Try.underlying43 rfl (by kernel_rfl) h7) QE.refl ?_
      rfl
    · refine stepq_env rfl rfl rfl fun _ _ _ _ _ hm _ _ hsz hd _ _ => ?_
      have h3 := hd ⟨3, .guard⟩ (by simp) rfl _ rfl
      have h8 := hd ⟨8, .data⟩ (by simp) rfl _ rfl
      refine qe_run rfl ((wanted_of rfl rfl (hsz 10 (by decide)) h3).trans rfl) (ex_load1 rfl Try.underlying41 rfl h8 (Cs.lit1 (Hx1.out.mod hm.old (by intro h2; omega)) rfl)) QE.refl ?_
      rfl
    · refine stepq_env rfl rfl rfl fun _ _ _ _ _ _ _ _ hsz hd _ _ => ?_
      have h3 := hd ⟨3, .guard⟩ (by simp) rfl _ rfl
      have h9 := hd ⟨9, .data⟩ (by simp) rfl _ rfl
      refine qe_run rfl ((wanted_of rfl rfl (hsz 10 (by decide)) h3).trans rfl) (ex_lenS rfl h9 Try.underlying41) QE.refl ?_
      rfl
    · refine stepq_env rfl rfl rfl fun _ _ _ _ _ _ _ _ hsz hd _ _ => ?_
      have h3 := hd ⟨3, .guard⟩ (by simp) rfl _ rfl
      have h5 := hd ⟨5, .data⟩ (by simp) rfl _ rfl
      have h10 := hd ⟨10, .data⟩ (by simp) rfl _ rfl
      refine qe_run rfl ((wanted_of rfl rfl (hsz 10 (by decide)) h3).trans rfl) (ex_binE rfl h5 h10 (guard_ints _ _ _ _ _ _) (run_leq_i _ _ _ Try.underlying3) (congrArg Value.bool (decide_eq_true (by decide)))) QE.refl ?_
      rfl
    · exact stq (fun E => ex_pick rfl (E.d 3) (E.d 11) rfl)
    · exact stq (fun E => ex_move rfl (E.d 12))
    · refine stepq_env rfl rfl rfl fun _ _ _ _ _ _ _ hout hsz hd _ _ => ?_
      have h13 := hd ⟨13, .guard⟩ (by simp) rfl _ rfl
      refine qe_run rfl ((wanted_of rfl rfl (hsz 20 (by decide)) h13).trans rfl) (ex_move rfl ((hout 0 (by decide)).trans oe0)) QE.refl ?_
      rfl
    · refine stepq_env rfl rfl rfl fun _ _ _ _ _ _ _ _ hsz hd _ _ => ?_
      have h13 := hd ⟨13, .guard⟩ (by simp) rfl _ rfl
      have h14 := hd ⟨14, .data⟩ (by simp) rfl _ rfl
      refine qe_run rfl ((wanted_of rfl rfl (hsz 20 (by decide)) h13).trans rfl) (ex_nil rfl h14) QE.refl ?_
      rfl
    · refine stepq_env rfl rfl rfl fun _ _ _ _ _ _ _ _ hsz hd _ _ => ?_
      have h13 := hd ⟨13, .guard⟩ (by simp) rfl _ rfl
      have h15 := hd ⟨15, .data⟩ (by simp) rfl _ rfl
      refine qe_run rfl ((wanted_of rfl rfl (hsz 20 (by decide)) h13).trans rfl) (ex_field rfl Try.underlying43 rfl (by kernel_rfl) h15) QE.refl ?_
      rfl
    · refine stepq_env rfl rfl rfl fun _ _ _ _ _ hm _ _ hsz hd _ _ => ?_
      have h13 := hd ⟨13, .guard⟩ (by simp) rfl _ rfl
      have h16 := hd ⟨16, .data⟩ (by simp) rfl _ rfl
      refine qe_run rfl ((wanted_of rfl rfl (hsz 20 (by decide)) h13).trans rfl) (ex_load1 rfl Try.underlying41 rfl h16 (Cs.lit1 (Hx1.out.mod hm.old (by intro h2; omega)) rfl)) QE.refl ?_
      rfl
    · refine stepq_env rfl rfl rfl fun _ _ _ _ _ _ _ hout hsz hd _ _ => ?_
      have h13 := hd ⟨13, .guard⟩ (by simp) rfl _ rfl
      refine qe_run rfl ((wanted_of rfl rfl (hsz 20 (by decide)) h13).trans rfl) (ex_field rfl Try.underlying30 rfl (by kernel_rfl) ((hout 4 (by decide)).trans oe4)) QE.refl ?_
      rfl
    · refine stepq_env rfl rfl rfl fun _ _ _ _ _ hm _ _ hsz hd _ _ => ?_
      have h13 := hd ⟨13, .guard⟩ (by simp) rfl _ rfl
      have h18 := hd ⟨18, .data⟩ (by simp) rfl _ rfl
      refine qe_run rfl ((wanted_of rfl rfl (hsz 20 (by decide)) h13).trans rfl) (ex_load1 rfl Try.underlying3 rfl h18 (Cs.lit1 (HB4.out.mod hm.old (by intro h2; omega)) rfl)) QE.refl ?_
      rfl
    · refine stepq_env rfl rfl rfl fun _ _ _ _ _ _ _ _ hsz hd _ _ => ?_
      have h13 := hd ⟨13, .guard⟩ (by simp) rfl _ rfl
      have h19 := hd ⟨19, .data⟩ (by simp) rfl _ rfl
      refine qe_run rfl ((wanted_of rfl rfl (hsz 20 (by decide)) h13).trans rfl) (ex_binE rfl h19 rfl (guard_ints _ _ _ _ _ _) (run_sub_i _ _ Try.underlying3) (congrArg (Value.int .i64) (show IntKind.i64.wrap (1 - 1) = 0 by decide))) QE.refl ?_
      rfl
    · refine stepq_env rfl rfl rfl fun _ _ _ _ _ _ _ _ hsz hd _ _ => ?_
      have h13 := hd ⟨13, .guard⟩ (by simp) rfl _ rfl
      have h17 := hd ⟨17, .data⟩ (by simp) rfl _ rfl
      have h20 := hd ⟨20, .data⟩ (by simp) rfl _ rfl
      refine qe_run rfl ((wanted_of rfl rfl (hsz 20 (by decide)) h13).trans rfl) (ex_idxS (i := 0) (s := 2) rfl Try.underlying41 (by kernel_rfl) h17 h20 (by omega)) QE.refl ?_
      rfl
    · refine stepq_env rfl rfl rfl fun _ _ _ _ _ _ _ _ hsz hd _ _ => ?_
      have h13 := hd ⟨13, .guard⟩ (by simp) rfl _ rfl
      have h21 := hd ⟨21, .data⟩ (by simp) rfl _ rfl
      refine qe_run rfl ((wanted_of rfl rfl (hsz 20 (by decide)) h13).trans rfl) (ex_field rfl Try.underlying119 rfl (by kernel_rfl) h21) QE.refl ?_
      rfl
    · refine stepq_env rfl rfl rfl fun _ _ _ _ _ hm _ _ hsz hd _ _ => ?_
      have h13 := hd ⟨13, .guard⟩ (by simp) rfl _ rfl
      have h22 := hd ⟨22, .data⟩ (by simp) rfl _ rfl
      refine qe_run rfl ((wanted_of rfl rfl (hsz 20 (by decide)) h13).trans rfl) (ex_load1 rfl Try.underlying3 rfl h22 ((Hx3.out.mod hm.old (by intro k h1 h2; have hb := HBR.out k h1; omega)).2 0 _ rfl)) QE.refl ?_
      rfl
    · refine stepq_env rfl rfl rfl fun _ _ _ _ _ _ _ hout hsz hd _ _ => ?_
      have h13 := hd ⟨13, .guard⟩ (by simp) rfl _ rfl
      refine qe_run rfl ((wanted_of rfl rfl (hsz 20 (by decide)) h13).trans rfl) (ex_field rfl Try.underlying30 rfl (by kernel_rfl) ((hout 4 (by decide)).trans oe4)) QE.refl ?_
      rfl
    · refine stepq_env rfl rfl rfl fun _ _ _ _ _ hm _ _ hsz hd _ _ => ?_
      have h13 := hd ⟨13, .guard⟩ (by simp) rfl _ rfl
      have h24 := hd ⟨24, .data⟩ (by simp) rfl _ rfl
      refine qe_run rfl ((wanted_of rfl rfl (hsz 20 (by decide)) h13).trans rfl) (ex_load1 rfl Try.underlying3 rfl h24 (Cs.lit1 (HB4.out.mod hm.old (by intro h2; omega)) rfl)) QE.refl ?_
      rfl
    · refine stepq_env rfl rfl rfl fun _ _ _ _ _ _ _ _ hsz hd _ _ => ?_
      have h13 := hd ⟨13, .guard⟩ (by simp) rfl _ rfl
      have h23 := hd ⟨23, .data⟩ (by simp) rfl _ rfl
      have h25 := hd ⟨25, .data⟩ (by simp) rfl _ rfl
      refine qe_run rfl ((wanted_of rfl rfl (hsz 20 (by decide)) h13).trans rfl) (ex_bin rfl h23 h25 (guard_ints _ _ _ _ _ _) (run_eql_i _ _ _ Try.underlying3)) QE.refl ?_
      rfl
    · exact stq (fun E => ex_pick rfl (E.d 13) (E.d 26) rfl)
    · exact stq (fun E => ex_move rfl (E.d 27))
    · refine stepq_env rfl rfl rfl fun _ _ _ _ _ _ _ hout hsz hd _ _ => ?_
      have h28 := hd ⟨28, .guard⟩ (by simp) rfl _ rfl
      refine qe_guard rfl (b := (k0.1 == y)) ((wanted_of rfl rfl (hsz 35 (by decide)) h28).trans (by simp)) rfl (fun hb l' hl' => ?_)
      refine qe_run rfl ((wanted_of rfl rfl (hsz 35 (by decide)) h28).trans (by first | exact hb | simpa using hb)) (ex_move rfl ((hout 0 (by decide)).trans oe0)) QE.refl ?_
      rw [hl']; rfl
    · refine stepq_env rfl rfl rfl fun _ _ _ _ _ _ _ _ hsz hd _ _ => ?_
      have h28 := hd ⟨28, .guard⟩ (by simp) rfl _ rfl
      have h29 := hd ⟨29, .data⟩ (by simp) rfl _ rfl
      refine qe_guard rfl (b := (k0.1 == y)) ((wanted_of rfl rfl (hsz 35 (by decide)) h28).trans (by simp)) rfl (fun hb l' hl' => ?_)
      refine qe_run rfl ((wanted_of rfl rfl (hsz 35 (by decide)) h28).trans (by first | exact hb | simpa using hb)) (ex_nil rfl (h29.1 hb)) QE.refl ?_
      rw [hl']; rfl
    · refine stepq_env rfl rfl rfl fun _ _ _ _ _ _ _ _ hsz hd _ _ => ?_
      have h28 := hd ⟨28, .guard⟩ (by simp) rfl _ rfl
      have h30 := hd ⟨30, .data⟩ (by simp) rfl _ rfl
      refine qe_guard rfl (b := (k0.1 == y)) ((wanted_of rfl rfl (hsz 35 (by decide)) h28).trans (by simp)) rfl (fun hb l' hl' => ?_)
      refine qe_run rfl ((wanted_of rfl rfl (hsz 35 (by decide)) h28).trans (by first | exact hb | simpa using hb)) (ex_field rfl Try.underlying43 rfl (by kernel_rfl) (h30.1 hb)) QE.refl ?_
      rw [hl']; rfl
    · refine stepq_env rfl rfl rfl fun _ _ _ _ _ hm _ _ hsz hd _ _ => ?_
      have h28 := hd ⟨28, .guard⟩ (by simp) rfl _ rfl
      have h31 := hd ⟨31, .data⟩ (by simp) rfl _ rfl
      refine qe_guard rfl (b := (k0.1 == y)) ((wanted_of rfl rfl (hsz 35 (by decide)) h28).trans (by simp)) rfl (fun hb l' hl' => ?_)
      refine qe_run rfl ((wanted_of rfl rfl (hsz 35 (by decide)) h28).trans (by first | exact hb | simpa using hb)) (ex_load1 rfl Try.underlying41 rfl (h31.1 hb) (Cs.lit1 (Hx1.out.mod hm.old (by intro h2; omega)) rfl)) QE.refl ?_
      rw [hl']; rfl
    · refine stepq_env rfl rfl rfl fun _ _ _ _ _ _ _ hout hsz hd _ _ => ?_
      have h28 := hd ⟨28, .guard⟩ (by simp) rfl _ rfl
      refine qe_guard rfl (b := (k0.1 == y)) ((wanted_of rfl rfl (hsz 35 (by decide)) h28).trans (by simp)) rfl (fun hb l' hl' => ?_)
      refine qe_run rfl ((wanted_of rfl rfl (hsz 35 (by decide)) h28).trans (by first | exact hb | simpa using hb)) (ex_field rfl Try.underlying30 rfl (by kernel_rfl) ((hout 4 (by decide)).trans oe4)) QE.refl ?_
      rw [hl']; rfl
    · refine stepq_env rfl rfl rfl fun _ _ _ _ _ hm _ _ hsz hd _ _ => ?_
      have h28 := hd ⟨28, .guard⟩ (by simp) rfl _ rfl
      have h33 := hd ⟨33, .data⟩ (by simp) rfl _ rfl
      refine qe_guard rfl (b := (k0.1 == y)) ((wanted_of rfl rfl (hsz 35 (by decide)) h28).trans (by simp)) rfl (fun hb l' hl' => ?_)
      refine qe_run rfl ((wanted_of rfl rfl (hsz 35 (by decide)) h28).trans (by first | exact hb | simpa using hb)) (ex_load1 rfl Try.underlying3 rfl (h33.1 hb) (Cs.lit1 (HB4.out.mod hm.old (by intro h2; omega)) rfl)) QE.refl ?_
      rw [hl']; rfl
    · refine stepq_env rfl rfl rfl fun _ _ _ _ _ _ _ _ hsz hd _ _ => ?_
      have h28 := hd ⟨28, .guard⟩ (by simp) rfl _ rfl
      have h34 := hd ⟨34, .data⟩ (by simp) rfl _ rfl
      refine qe_guard rfl (b := (k0.1 == y)) ((wanted_of rfl rfl (hsz 35 (by decide)) h28).trans (by simp)) rfl (fun hb l' hl' => ?_)
      refine qe_run rfl ((wanted_of rfl rfl (hsz 35 (by decide)) h28).trans (by first | exact hb | simpa using hb)) (ex_binE rfl (h34.1 hb) rfl (guard_ints _ _ _ _ _ _) (run_sub_i _ _ Try.underlying3) (congrArg (Value.int .i64) (show IntKind.i64.wrap (1 - 1) = 0 by decide))) QE.refl ?_
      rw [hl']; rfl
    · refine stepq_env rfl rfl rfl fun _ _ _ _ _ _ _ _ hsz hd _ _ => ?_
      have h28 := hd ⟨28, .guard⟩ (by simp) rfl _ rfl
      have h32 := hd ⟨32, .data⟩ (by simp) rfl _ rfl
      have h35 := hd ⟨35, .data⟩ (by simp) rfl _ rfl
      refine qe_guard rfl (b := (k0.1 == y)) ((wanted_of rfl rfl (hsz 35 (by decide)) h28).trans (by simp)) rfl (fun hb l' hl' => ?_)
      refine qe_run rfl ((wanted_of rfl rfl (hsz 35 (by decide)) h28).trans (by first | exact hb | simpa using hb)) (ex_idxS (i := 0) (s := 2) rfl Try.underlying41 (by kernel_rfl) (h32.1 hb) (h35.1 hb) (by omega)) QE.refl ?_
      rw [hl']; rfl
    · refine stepq_env rfl rfl rfl fun _ _ _ _ _ _ _ _ hsz hd _ _ => ?_
      have h28 := hd ⟨28, .guard⟩ (by simp) rfl _ rfl
      have h36 := hd ⟨36, .data⟩ (by simp) rfl _ rfl
      refine qe_guard rfl (b := (k0.1 == y)) ((wanted_of rfl rfl (hsz 35 (by decide)) h28).trans (by simp)) rfl (fun hb l' hl' => ?_)
      refine qe_run rfl ((wanted_of rfl rfl (hsz 35 (by decide)) h28).trans (by first | exact hb | simpa using hb)) (ex_field rfl Try.underlying119 rfl (by kernel_rfl) (h36.1 hb)) QE.refl ?_
      rw [hl']; rfl
    · refine stepq_env rfl rfl rfl fun _ _ _ _ _ hm _ _ hsz hd _ _ => ?_
      have h28 := hd ⟨28, .guard⟩ (by simp) rfl _ rfl
      have h37 := hd ⟨37, .data⟩ (by simp) rfl _ rfl
      refine qe_guard rfl (b := (k0.1 == y)) ((wanted_of rfl rfl (hsz 35 (by decide)) h28).trans (by simp)) rfl (fun hb l' hl' => ?_)
      refine qe_run rfl ((wanted_of rfl rfl (hsz 35 (by decide)) h28).trans (by first | exact hb | simpa using hb)) (ex_load1 rfl Try.underlying9 rfl (h37.1 hb) ((Hx3.out.mod hm.old (by intro k h1 h2; have hb := HBR.out k h1; omega)).2 1 _ rfl)) QE.refl ?_
      rw [hl']; rfl
    · refine stepq_env rfl rfl rfl fun _ _ _ _ _ _ _ hout hsz hd _ _ => ?_
      have h28 := hd ⟨28, .guard⟩ (by simp) rfl _ rfl
      refine qe_guard rfl (b := (k0.1 == y)) ((wanted_of rfl rfl (hsz 35 (by decide)) h28).trans (by simp)) rfl (fun hb l' hl' => ?_)
      refine qe_run rfl ((wanted_of rfl rfl (hsz 35 (by decide)) h28).trans (by first | exact hb | simpa using hb)) (ex_move rfl ((hout 2 (by decide)).trans oe2)) QE.refl ?_
      rw [hl']; rfl
    · refine stepq_env rfl rfl rfl fun _ _ _ _ _ hm _ _ hsz hd _ _ => ?_
      have h28 := hd ⟨28, .guard⟩ (by simp) rfl _ rfl
      have h39 := hd ⟨39, .data⟩ (by simp) rfl _ rfl
      refine qe_guard rfl (b := (k0.1 == y)) ((wanted_of rfl rfl (hsz 35 (by decide)) h28).trans (by simp)) rfl (fun hb l' hl' => ?_)
      refine qe_run rfl ((wanted_of rfl rfl (hsz 35 (by decide)) h28).trans (by first | exact hb | simpa using hb)) (ex_conv rfl (h39.1 hb) (bytes_string (Hx2.out.mod hm.old (by intro k h1 h2; omega)).1)) QE.refl ?_
      rw [hl']; rfl
    · refine stepq_env rfl rfl rfl fun _ _ _ _ _ _ _ _ hsz hd _ _ => ?_
      have h28 := hd ⟨28, .guard⟩ (by simp) rfl _ rfl
      have h38 := hd ⟨38, .data⟩ (by simp) rfl _ rfl
      have h40 := hd ⟨40, .data⟩ (by simp) rfl _ rfl
      refine qe_guard rfl (b := (k0.1 == y)) ((wanted_of rfl rfl (hsz 35 (by decide)) h28).trans (by simp)) rfl (fun hb l' hl' => ?_)
      refine qe_run rfl ((wanted_of rfl rfl (hsz 35 (by decide)) h28).trans (by first | exact hb | simpa using hb)) (ex_binE rfl (h38.1 hb) (h40.1 hb) (guard_str _) (run_eql_strN HK0.out.2.1 HK.out.2.1 _) rfl) QE.refl ?_
      rw [hl']; rfl
    · exact stq (fun E => ex_pickE rfl (E.d 28) rfl rfl (and_val fun hb => (E.d 41).1 hb))
    · exact stq (fun E => ex_assign rfl (E.d 42))
    intro u1_0 hr
    have zu1_0 := hr.size
    have Cx4 := hid (hr.new (S := (fun _ => False)))
    clear hr
    refine QChain.nil fun vs hl hzz hrows hne => ?_
    obtain ⟨Z, hYZ, hZb, hV⟩ := hzz
    have f3 := fvi hV hl 3
    have f6 := fvi hV hl 6
    have f10 := fvi hV hl 10
    have f13 := fvi hV hl 13
    have f14 := fvi hV hl 14
    have f28 := fvi hV hl 28
    have f43 := fvi hV hl 43
    rw [show vs = [gw vs 0, gw vs 1, gw vs 2, gw vs 3, gw vs 4, gw vs 5, gw vs 6, gw vs 7, gw vs 8, gw vs 9, gw vs 10, gw vs 11, gw vs 12, gw vs 13, gw vs 14, gw vs 15, gw vs 16, gw vs 17, gw vs 18, gw vs 19, gw vs 20, gw vs 21, gw vs 22, gw vs 23, gw vs 24, gw vs 25, gw vs 26, gw vs 27, gw vs 28, gw vs 29, gw vs 30, gw vs 31, gw vs 32, gw vs 33, gw vs 34, gw vs 35, gw vs 36, gw vs 37, gw vs 38, gw vs 39, gw vs 40, gw vs 41, gw vs 42, gw vs 43] from (gw_eta hl).trans rfl]
    have ha0 := HA0.out
    subst ha0
    clear HA0 hV hYZ hZb hsz0 hrows hne oe0 oe2 oe4
    simp only [putAll, Act.put, List.setIfInBounds_toArray, List.set_cons_zero, List.set_cons_succ, f3, f6, f10, f13, f14, f28, f43]
    clear hl f3 f6 f10 f13 f14 f28 f43
    go_wp2
    go_ret
    exact ⟨congrArg (fun z => Ending.returned (Value.bool z)) (pair_right k0 y bs), (HM0.out.trans Cx4.out (fun _ _ h => h.elim))⟩
end Go.Proofs.Ytgnmdnmmemdemaa

/- The reference's MakeCommit, RightCommit. -/
set_option maxRecDepth 100000
set_option linter.unusedVariables false
namespace Go.Proofs.Ytgnmdnmmemdemaa
open Go Go.RowKit Go.Gv

theorem RdR_eq {R : Nat → Prop} {N : Nat} {w : World} {v : Value} {a b : List Int} (h : RdR R N w v a) (e : a = b) : RdR R N w v b := e ▸ h
set_option maxHeartbeats 4000000 in
theorem RefMake_E {w : World} {g : Nat} (hc : Cs w g #[.slice none 0 0] 43) (a b : Int) (h bs : List Int) {R' : Nat → Prop} {N : Nat} {v : Value} (ha : I64 a) (hsi : I64 (1000 + a)) (hb : I64 b) (hh : HK h) (hr : RdR R' N w v bs) (hl : bs.length ≤ 800000) :
    Calls Try.prog 20 #[.pointer (some ⟨g, 0, none⟩), .agg #[.int .i64 a, .int .i64 b], .agg (h.map bv).toArray, v] w fun e w' => e = .returned (cm1 a b h bs).val ∧ RbR (fun k => k = g ∨ New w w' k) w' g [mkKey a b h bs] ∧ Mod (fun k => k = g) w w' := by
  have zg := hc.lt
  obtain ⟨ao, cap, rfl⟩ := hr.shape
  have HTX := hid (show RdR (fun k => k < w.heap.size) N w (.slice ao bs.length cap) bs from ⟨hr.1, (fun h0 k hk => hr.1.block_lt h0 k hk), hr.2.2⟩)
  have HBK := Lib.hid hc
  have HA := Lib.hid ha
  have HSA := Lib.hid hsi
  have HB := Lib.hid hb
  have HH := Lib.hid hh
  have HBL := Lib.hid hl
  have HO0 := hid (cm0_ok (h := h) ha hb (Nat.le_trans hl (by decide)))
  have HO1 := hid (cm1_ok (h := h) ha hsi hb (Nat.le_trans hl (by decide)))
  have HKY := hid (key_ok (h := h) ha hsi hb (Nat.le_trans hl (by decide)))
  have hbl : I64 (bs.length : Int) := by unfold I64; omega
  clear hr hc ha hsi hb hh hl
  go_enter Try.func20, Try.ntmps20
  go_upto_region 1 with (fail)
  obtain ⟨w1, hw1⟩ : ∃ zz, zz = (((w.alloc (.cells #[.int .i64 a, .int .i64 b] 26)).alloc (.cells (h.map bv : List Value).toArray 28)).alloc (.cells #[.int .i64 0, .int .i64 0, .int .u8 0, .int .u8 0, .int .u8 0, .int .u8 0, .int .u8 0, .int .u8 0, .int .u8 0, .int .u8 0, .int .u8 0, .int .u8 0, .int .u8 0, .int .u8 0, .int .u8 0, .int .u8 0, .int .u8 0, .int .u8 0, .int .u8 0, .int .u8 0, .int .u8 0, .int .u8 0, .int .u8 0, .int .u8 0, .int .u8 0, .int .u8 0, .int .u8 0, .int .u8 0, .int .u8 0, .int .u8 0, .int .u8 0, .int .u8 0, .int .u8 0, .int .u8 0, .int .i64 0, .int .i64 0, .int .i64 0] 32)) := ⟨_, rfl⟩
  change Code.wp _ _ _ _ (((w.alloc (.cells #[.int .i64 a, .int .i64 b] 26)).alloc (.cells (h.map bv : List Value).toArray 28)).alloc (.cells #[.int .i64 0, .int .i64 0, .int .u8 0, .int .u8 0, .int .u8 0, .int .u8 0, .int .u8 0, .int .u8 0, .int .u8 0, .int .u8 0, .int .u8 0, .int .u8 0, .int .u8 0, .int .u8 0, .int .u8 0, .int .u8 0, .int .u8 0, .int .u8 0, .int .u8 0, .int .u8 0, .int .u8 0, .int .u8 0, .int .u8 0, .int .u8 0, .int .u8 0, .int .u8 0, .int .u8 0, .int .u8 0, .int .u8 0, .int .u8 0, .int .u8 0, .int .u8 0, .int .u8 0, .int .u8 0, .int .i64 0, .int .i64 0, .int .i64 0] 32))
  rw [← hw1]
  have HB5 := hid (show Cs w1 (w.heap.size) #[.int .i64 a, .int .i64 b] 26 by rw [hw1]; exact ((Cs.new _ _ _).alloc _).alloc _)
  have HB6 := hid (show Cs w1 (w.heap.size + 1) (h.map bv : List Value).toArray 28 by rw [hw1]; exact (Cs_newN _ _ _ (by simp)).alloc _)
  have HB8 := hid (show Cs w1 (w.heap.size + 2) #[.int .i64 0, .int .i64 0, .int .u8 0, .int .u8 0, .int .u8 0, .int .u8 0, .int .u8 0, .int .u8 0, .int .u8 0, .int .u8 0, .int .u8 0, .int .u8 0, .int .u8 0, .int .u8 0, .int .u8 0, .int .u8 0, .int .u8 0, .int .u8 0, .int .u8 0, .int .u8 0, .int .u8 0, .int .u8 0, .int .u8 0, .int .u8 0, .int .u8 0, .int .u8 0, .int .u8 0, .int .u8 0, .int .u8 0, .int .u8 0, .int .u8 0, .int .u8 0, .int .u8 0, .int .u8 0, .int .i64 0, .int .i64 0, .int .i64 0] 32 by rw [hw1]; exact Cs_newN _ _ _ (by simp))
  have hm : Mod (fun _ => False) w w1 := by rw [hw1]; exact (((Mod.refl _ _).alloc _).alloc _).alloc _
  have HM0 := hid (show Mod (fun k => (k = g)) w w1 from hm.mono (fun _ _ h => h.elim))
  have hs1 : w1.heap.size = w.heap.size + 3 := by rw [hw1]; simp
  have Hx1 := hid (HBK.out.mod hm (fun h => h))
  clear HBK
  have Hx2 := hid (HTX.out.mod hm (fun _ _ h => h))
  clear HTX
  clear hw1 hm
  go_upto_region 1 with (fail)
  generalize ha0 : Act.mk _ _ = a0
  have oe3 : a0.eval (.tmp 3) = .slice ao bs.length cap := by rw [← ha0]; rfl
  have oe5 : a0.eval (.tmp 5) = .pointer (some ⟨w.heap.size, 0, none⟩) := by rw [← ha0]; rfl
  have oe6 : a0.eval (.tmp 6) = .pointer (some ⟨w.heap.size + 1, 0, none⟩) := by rw [← ha0]; rfl
  have hsz0 : a0.tmps.size = 27 := by rw [← ha0]; rfl
  have HA0 := hid ha0
  clear ha0
  refine wp_region_Q 27 hsz0 (by kernel_rfl) (by kernel_rfl) [10, 11, 12, 13, 14, 15, 16, 17, 9, 36] (by kernel_rfl) (by decide) (fun _ => False) (fun _ _ => False) (fun _ _ h => h) [qi (.agg #[.int .i64 a, .int .i64 b]), qi (.agg #[.int .i64 a, .int .i64 b]), qi (hv h), qi (.slice ao bs.length cap), qi (hv (shaF (ofT a b h bs))), qi (.slice ao bs.length cap), qi (.int .i64 bs.length), qi ((cm0 a b h bs).val), qa, qa] ⟨qi_stable, qi_stable, qi_stable, qi_stable, qi_stable, qi_stable, qi_stable, qi_stable, qa_stable, qa_stable, trivial⟩ [4] (by kernel_rfl) (by decide) (by kernel_rfl) [⟨8, 9, 32, [.int .i64 0, .int .i64 0, .int .u8 0, .int .u8 0, .int .u8 0, .int .u8 0, .int .u8 0, .int .u8 0, .int .u8 0, .int .u8 0, .int .u8 0, .int .u8 0, .int .u8 0, .int .u8 0, .int .u8 0, .int .u8 0, .int .u8 0, .int .u8 0, .int .u8 0, .int .u8 0, .int .u8 0, .int .u8 0, .int .u8 0, .int .u8 0, .int .u8 0, .int .u8 0, .int .u8 0, .int .u8 0, .int .u8 0, .int .u8 0, .int .u8 0, .int .u8 0, .int .u8 0, .int .u8 0, .int .i64 0, .int .i64 0, .int .i64 0], 0, (fun t => (cm0 a b h bs).cells)⟩] (by kernel_rfl) (by intro r hr; simp only [List.mem_cons, List.not_mem_nil, or_false] at hr; rcases hr with rfl <;> exact ⟨by kernel_rfl, by kernel_rfl⟩) (by intro r hr; simp only [List.mem_cons, List.not_mem_nil, or_false] at hr; rcases hr with rfl <;> exact ⟨of_decide_eq_true (by kernel_rfl), of_decide_eq_true (by kernel_rfl)⟩) (by intro r hr; simp only [List.mem_cons, List.not_mem_nil, or_false] at hr; rcases hr with rfl <;> exact fun _ _ _ _ => ⟨trivial, trivial⟩) ⟨?_, ?_, ?_, ?_, ?_, ?_, ?_, ?_, ?_, ?_, trivial⟩ ?_
  · exact stq (fun E => ex_loadA rfl Try.underlying26 rfl (off := 0) (cs := [.int .i64 a, .int .i64 b]) (by kernel_rfl) (E.v oe5) (Cs.whole (HB5.out.mod E.m.old (by intro h2; omega))))
  · exact stq (fun E => ex_loadA rfl Try.underlying26 rfl (off := 0) (cs := [.int .i64 a, .int .i64 b]) (by kernel_rfl) (E.v oe5) (Cs.whole (HB5.out.mod E.m.old (by intro h2; omega))))
  · exact stq (fun E => ex_loadA rfl Try.underlying28 rfl (off := 0) (cs := h.map bv) (by rw [List.length_map, HH.out.1]; exact size_hash) (E.v oe6) (Cs.whole (HB6.out.mod E.m.old (by intro h2; omega))))
  · exact stq (fun E => ex_move rfl (E.v oe3))
  · exact stepq_chain rfl
  · exact stq (fun E => ex_move rfl (E.v oe3))
  · exact stq (fun E => ex_lenS rfl (E.d 5) Try.underlying36)
  · refine stepq_env rfl rfl rfl fun _ _ act _ _ _ _ _ _ hd _ _ => ?_
    have h0 := hd ⟨0, .data⟩ (by simp) rfl _ rfl
    have h4 := hd ⟨4, .data⟩ (by simp) rfl _ rfl
    have h6 := hd ⟨6, .data⟩ (by simp) rfl _ rfl
    refine qe_run rfl (wanted_none rfl) (ex_build rfl (z := [.int .i64 0, .int .i64 0, .int .u8 0, .int .u8 0, .int .u8 0, .int .u8 0, .int .u8 0, .int .u8 0, .int .u8 0, .int .u8 0, .int .u8 0, .int .u8 0, .int .u8 0, .int .u8 0, .int .u8 0, .int .u8 0, .int .u8 0, .int .u8 0, .int .u8 0, .int .u8 0, .int .u8 0, .int .u8 0, .int .u8 0, .int .u8 0, .int .u8 0, .int .u8 0, .int .u8 0, .int .u8 0, .int .u8 0, .int .u8 0, .int .u8 0, .int .u8 0, .int .u8 0, .int .u8 0, .int .i64 0, .int .i64 0, .int .i64 0]) (places := [(0, 2), (2, 32), (34, 1), (35, 2)]) (by kernel_rfl) (parts := [(0, .agg #[.int .i64 a, .int .i64 b]), (1, hv (shaF (ofT a b h bs))), (2, .int .i64 bs.length)]) (by simp only [List.map_toArray, List.map_cons, List.map_nil, show act.eval (.tmp 10) = _ from h0, show act.eval (.tmp 14) = _ from h4, show act.eval (.tmp 16) = _ from h6]; try rfl) (r := (cm0 a b h bs).cells) (by exact laid_commit a b (shaF (ofT a b h bs)) _ (shaF_len _))) QE.refl ?_
    rfl
  · exact stepq_make rfl rfl ⟨rfl, rfl, by kernel_rfl, by kernel_rfl⟩
  · refine stepq_write rfl rfl rfl ⟨rfl, 9, (.tmp 17), rfl, by decide, rfl, by kernel_rfl, fun Z tr act w' hm hout hsz hd hpre => ?_⟩
    have h7 := hd ⟨7, .data⟩ (by simp) rfl _ rfl
    exact ⟨Nat.zero_le _, (by rw [show act.eval ((.tmp 17)) = _ from h7]; rfl), (by rw [Cm.len (shaF_len _)]; rfl), (Cm.one _)⟩
  intro u1_0 hr
  have zu1_0 := hr.size
  have Cx3 := hid (hr.new (S := (fun _ => False)))
  clear hr
  refine QChain.go fun Z act E => ?_
  refine qc_callF (args := #[.agg #[.int .i64 a, .int .i64 b], hv h, .slice ao bs.length cap]) rfl (wanted_none rfl) rfl Try.func25 (args3 (E.d 1) (E.d 2) (E.d 3)) (RefOf_any a b h bs _ _ HA.out HB.out HH.out (Hx2.out.mod Cx3.out (fun _ _ h => h)).1 HBL.out) ?_
  rintro e u1_1a ⟨rfl, hm⟩
  have zu1_1a := hm.size
  refine ⟨_, rfl, hm.mono (fun _ _ h => h.elim), (fun _ => rfl), ?_⟩
  intro u1_1 hr
  have zu1_1 := hr.size
  have Cx4 := hid (Cx3.out.go hm hr)
  clear Cx3 hm hr Z act E
  refine QChain.nil fun vs hl hzz hrows hne => ?_
  obtain ⟨Z, hYZ, hZb, hV⟩ := hzz
  obtain ⟨qx, g8, hBqx, hYqx, hCqx⟩ := hrows _ (by simp only [List.mem_cons, List.not_mem_nil, or_false]; trivial)
  have f8 : gw vs 8 = _ := getv g8
  (try dsimp only at hBqx hYqx); (try simp only [false_or] at hBqx hYqx)
  have zqqx := hCqx.lt
  have Hx5 := hid (show Cs u1_1 qx ((cm0 a b h bs).cells : List Value).toArray 32 from hCqx)
  have f3 := fvi hV hl 3
  have f4 := fvi hV hl 4
  have f5 := fvi hV hl 5
  have f6 := fvi hV hl 6
  rw [show vs = [gw vs 0, gw vs 1, gw vs 2, gw vs 3, gw vs 4, gw vs 5, gw vs 6, gw vs 7, gw vs 8, gw vs 9] from (gw_eta hl).trans rfl]
  have ha0 := HA0.out
  subst ha0
  clear HA0 hV hYZ hZb hsz0 hrows hne oe3 oe5 oe6 hCqx g8
  simp only [putAll, Act.put, List.setIfInBounds_toArray, List.set_cons_zero, List.set_cons_succ, List.set_nil, f8, f3, f4, f5, f6]
  clear hl f8 f3 f4 f5 f6
  have HTL := hid (show (txQ (cm0 a b h bs)).length ≤ 900000 by rw [txQ_T]; exact Nat.le_trans (txT_len HO0.out) (by decide))
  go_upto_region 2 with (fail)
  generalize ha0 : Act.mk _ _ = a0
  have oe0 : a0.eval (.tmp 0) = .pointer (some ⟨g, 0, none⟩) := by rw [← ha0]; rfl
  have oe5 : a0.eval (.tmp 5) = .pointer (some ⟨w.heap.size, 0, none⟩) := by rw [← ha0]; rfl
  have oe9 : a0.eval (.tmp 9) = .pointer (some ⟨qx, 0, none⟩) := by rw [← ha0]; rfl
  have hsz0 : a0.tmps.size = 27 := by rw [← ha0]; rfl
  have HA0 := hid ha0
  clear ha0
  refine wp_region_Q1 27 hsz0 [18, 19, 20, 21, 22, 23, 24, 25, 35] (fun k => (k = g) ∨ (k = qx)) (fun k j => (k = 1 ∧ ((j = g))) ∨ (k = 2 ∧ ((j = qx)))) (by intro k j h; (try dsimp only at h ⊢); omega) [qi (.pointer (some ⟨g, 0, none⟩)), qi (.pointer (some ⟨w.heap.size, 0, none⟩)), qi (.int .i64 a), qi (.int .i64 (1000 + a)), qi ((cm0 a b h bs).val), qv 0, qi (.agg #[.int .i64 (1000 + a), .int .i64 1]), qi (.pointer (some ⟨qx, 35, none⟩)), qv 2] ⟨qi_stable, qi_stable, qi_stable, qi_stable, qi_stable, qv_stable, qi_stable, qi_stable, qv_stable, trivial⟩ [5, 6, 8] ⟨?_, ?_, ?_, ?_, ?_, ?_, ?_, ?_, ?_, trivial⟩ ?_
  · exact stq (fun E => ex_move rfl (E.v oe0))
  · exact stq (fun E => ex_field rfl Try.underlying26 rfl (by kernel_rfl) (E.v oe5))
  · exact stq (fun E => ex_load1 rfl Try.underlying3 rfl (E.d 1) (Cs.lit1 ((HB5.out.mod Cx4.out (fun h => h)).mod E.m (by intro h2; omega)) rfl))
  · exact stq (fun E => ex_binE rfl rfl (E.d 2) (guard_ints _ _ _ _ _ _) (run_add_i _ _ Try.underlying3) (congrArg (Value.int .i64) (IntWalk.i64_in _ HSA.out)))
  · refine stepq_env rfl rfl rfl fun _ _ _ _ _ _ hm0 hout _ _ hub _ => ?_
    refine qe_run rfl (wanted_none rfl) (ex_loadA rfl Try.underlying32 rfl (off := 0) (cs := (cm0 a b h bs).cells) (by rw [Cm.len HO0.out.2.1]; exact size_commit) ((hout 9 (by decide)).trans oe9) (Cs.whole (Hx5.out.mod hm0 (by intro h2; have hu := hub 2 8 rfl (by kernel_rfl); rcases h2 with ⟨h0, kk, hk, h2⟩ | h2 <;> omega)))) QE.refl ?_
    rfl
  · exact stepq_chain rfl
  · exact stepq_chain rfl
  · exact stq (fun E => ex_field rfl Try.underlying32 rfl (by kernel_rfl) (E.v oe9))
  · exact stepq_chain rfl
  intro u2_0 hr
  have zu2_0 := hr.size
  clear Hx2
  have Cx6 := hid (hr.new (S := (fun k => (k = g) ∨ (k = qx))))
  have Hx7 := hid ((Hx1.out.mod Cx4.out (fun h => h)).mod hr (by intro h2; omega))
  clear Hx1
  have Hx8 := hid (Hx5.out.mod hr (by intro h2; omega))
  clear Hx5
  clear hr
  refine QChain.go fun Z act E => ?_
  refine qc_callF (args := #[(cm0 a b h bs).val]) rfl (wanted_none rfl) rfl Try.func31 (args1 (E.d 4)) (RefTextQ (fun _ => False) _ (cm0 a b h bs) _ ⟨rfl, HO0.out⟩ (fun _ h => h.elim) HTL.out) ?_
  rintro e u2_1a ⟨v_a1, rfl, qa1, hm⟩
  obtain ⟨ao_a1, cap_a1, rfl⟩ := qa1.shape
  have zu2_1a := hm.size
  refine ⟨_, rfl, hm.mono (fun _ _ h => h.elim), (fun _ => rfl), ?_⟩
  intro u2_1 hr
  have zu2_1 := hr.size
  have Hx9 := hid ((qa1.widen (R' := (fun k => (New u2_0 u2_1a k))) (fun _ h => h) (Nat.le_refl _)).mod hr (by intro k h1 h2; omega))
  have hmr := Mod.after hm hr
  have Hx10 := hid (Hx7.out.mod hmr (by intro h2; omega))
  have Hx11 := hid (Hx8.out.mod hmr (by intro h2; omega))
  clear Hx7 Hx8
  clear hmr
  have Cx12 := hid (Cx6.out.go hm hr)
  clear Cx6 hm hr Z act E qa1
  refine QChain.go fun Z act E => ?_
  refine qc_callF (args := #[.pointer (some ⟨g, 0, none⟩), .int .i64 (1000 + a), .slice ao_a1 ((txQ (cm0 a b h bs)).length) cap_a1]) rfl (wanted_none rfl) rfl Try.func55 (args3 (E.d 0) (E.d 3) (chv (v := .slice ao_a1 ((txQ (cm0 a b h bs)).length) cap_a1) (E.d 5))) (RefSign_E Hx10.out (1000 + a) Hx9.out.rd (by rw [txQ_T]; exact HKY.out)) ?_
  rintro e u2_2a ⟨rfl, qbk, hm⟩
  have zu2_2a := hm.size
  refine ⟨_, rfl, hm.mono (by intro k hk h; omega), (fun _ => rfl), ?_⟩
  intro u2_2 hr
  have zu2_2 := hr.size
  have Hx13 := hid ((qbk.widen (R' := (fun k => (k = g) ∨ (New u2_1 u2_2a k))) (fun _ h => h)).mod hr (by intro k h1 h2; omega))
  have hmr := hm.two hr
  have Hx14 := hid (Hx11.out.mod hmr (by intro h2; omega))
  have Hx15 := hid (Hx9.out.mod hmr (by intro k h1 h2; omega))
  clear Hx11 Hx9
  clear hmr
  have Cx16 := hid (Cx12.out.goM hm hr (by intro k h0 h2; omega))
  clear Cx12 hm hr Z act E qbk Hx10
  refine QChain.go fun Z act E => ?_
  refine qc_store rfl (wanted_none rfl) rfl Hx14.out (off := 35) (vs := [.int .i64 (1000 + a), .int .i64 1]) (by kernel_rfl) (by intro u hu; simp at hu; rcases hu with rfl | rfl <;> rfl) (by rw [List.size_toArray, Cm.len (shaF_len _)]; show 35 + 2 ≤ 37; decide) (E.d 7) (by rw [show act.eval ((.tmp 24)) = _ from (E.d 6)]; rfl) ?_
  intro u2_3a qc0 hm
  have qqx : Cs u2_3a (qx) ((cm1 a b h bs).cells : List Value).toArray 32 := by rw [show lay _ 35 _ = ((cm1 a b h bs).cells : List Value).toArray from lay_sig (cm0 a b h bs) _ _ (shaF_len _)] at qc0; exact qc0
  clear qc0
  have zu2_3a := hm.size
  refine ⟨hm.mono (by intro k hk h; omega), (fun _ => rfl), ?_⟩
  intro u2_3 hr
  have zu2_3 := hr.size
  have Hx17 := hid (qqx.mod hr (by intro h2; omega))
  have hmr := hm.two hr
  have Hx18 := hid (Hx13.out.mod hmr (by intro k h1 h2; omega))
  have Hx19 := hid (Hx15.out.mod hmr (by intro k h1 h2; omega))
  clear Hx13 Hx15
  clear hmr
  have Cx20 := hid (Cx16.out.goM hm hr (by intro k h0 h2; omega))
  clear Cx16 hm hr Z act E qqx Hx14
  refine QChain.nil fun vs hl hzz hrows hne => ?_
  obtain ⟨Z, hYZ, hZb, hV⟩ := hzz
  have f0 := fvi hV hl 0
  have f5 := fvc hV hl 5
  have f6 := fvi hV hl 6
  rw [show vs = [gw vs 0, gw vs 1, gw vs 2, gw vs 3, gw vs 4, gw vs 5, gw vs 6, gw vs 7, gw vs 8] from (gw_eta hl).trans rfl]
  have ha0 := HA0.out
  subst ha0
  clear HA0 hV hYZ hZb hsz0 hrows hne oe0 oe5 oe9
  simp only [putAll, Act.put, List.setIfInBounds_toArray, List.set_cons_zero, List.set_cons_succ, List.set_nil, f0, f5, f6]
  clear hl f0 f5 f6
  go_upto_region 3 with (fail)
  generalize ha0 : Act.mk _ _ = a0
  have oe8 : a0.eval (.tmp 8) = .pointer (some ⟨w.heap.size + 2, 0, none⟩) := by rw [← ha0]; rfl
  have oe9 : a0.eval (.tmp 9) = .pointer (some ⟨qx, 0, none⟩) := by rw [← ha0]; rfl
  have hsz0 : a0.tmps.size = 27 := by rw [← ha0]; rfl
  have HA0 := hid ha0
  clear ha0
  refine wp_region_Q1 27 hsz0 [26, 28] (fun k => (k = w.heap.size + 2)) (fun k j => (k = 0 ∧ ((j = w.heap.size + 2)))) (fun _ _ h => h.2) [qi ((cm1 a b h bs).val), qv 0] ⟨qi_stable, qv_stable, trivial⟩ [1] ⟨?_, ?_, trivial⟩ ?_
  · exact stq (fun E => ex_loadA rfl Try.underlying32 rfl (off := 0) (cs := (cm1 a b h bs).cells) (by rw [Cm.len HO1.out.2.1]; exact size_commit) (E.v oe9) (Cs.whole (Hx17.out.mod E.m (by intro h2; omega))))
  · exact stepq_chain rfl
  intro u3_0 hr
  have zu3_0 := hr.size
  have Cx21 := hid (hr.new (S := (fun k => (k = w.heap.size + 2))))
  have Hx22 := hid (((HB8.out.mod Cx4.out (fun h => h)).mod Cx20.out (by intro h2; omega)).mod hr (by intro h2; omega))
  clear HB8
  clear hr
  refine QChain.go fun Z act E => ?_
  refine qc_store rfl (wanted_none rfl) rfl Hx22.out (off := 0) (vs := (cm1 a b h bs).cells) (by rw [Cm.len HO1.out.2.1]; exact size_commit) (Cm.one _) (by rw [Cm.len (shaF_len _)]; decide) (E.v oe8) (by rw [show act.eval ((.tmp 26)) = _ from (E.d 0)]; rfl) ?_
  intro u3_1a qc0 hm
  have qB8 : Cs u3_1a (w.heap.size + 2) ((cm1 a b h bs).cells : List Value).toArray 32 := by rw [show lay _ 0 _ = ((cm1 a b h bs).cells : List Value).toArray from lay_whole _ _ (by rw [Cm.len (shaF_len _)]; rfl)] at qc0; exact qc0
  clear qc0
  have zu3_1a := hm.size
  refine ⟨hm.mono (by intro k hk h; omega), (fun _ => rfl), ?_⟩
  intro u3_1 hr
  have zu3_1 := hr.size
  have Hx23 := hid (qB8.mod hr (by intro h2; omega))
  have Cx24 := hid (Cx21.out.goM hm hr (fun _ _ h => h))
  clear Cx21 hm hr Z act E qB8 Hx22
  refine QChain.nil fun vs hl hzz hrows hne => ?_
  obtain ⟨Z, hYZ, hZb, hV⟩ := hzz
  rw [show vs = [gw vs 0, gw vs 1] from (gw_eta hl).trans rfl]
  have ha0 := HA0.out
  subst ha0
  clear HA0 hV hYZ hZb hsz0 hrows hne oe8 oe9
  simp only [putAll, Act.put, List.setIfInBounds_toArray, List.set_cons_zero, List.set_cons_succ, List.set_nil]
  clear hl
  go_wp2
  have hq := (Hx18.out.mod Cx24.out (by intro k h1 h2; omega))
  rw [txQ_T] at hq
  refine bodyPost_ret (results_cellA rfl _ _ (w.heap.size + 2) ((cm1 a b h bs).cells) rfl (fun k u hu => by rw [Hx23.out.cell]; simpa using hu) Try.underlying32 rfl (by rw [Cm.len HO1.out.2.1]; exact size_commit)) rfl ⟨rfl, hq.widen ?_, (((HM0.out.trans Cx4.out (fun _ _ h => h.elim)).trans Cx20.out (by intro k h1 h2; rcases h2 with h2 | h2 <;> first | exact h2 | omega)).trans Cx24.out (by intro k h1 h2; first | exact h2 | omega))⟩
  intro k h
  rcases h with h | h
  · exact Or.inl h
  · right; omega
set_option maxHeartbeats 4000000 in
theorem RefRightC_1 {R : Nat → Prop} {w : World} {g : Nat} {k0 : Int × List Int} (hb : RbR R w g [k0]) (hB : ∀ k, R k → k < w.heap.size) (hk0 : SgK k0) (f k : Int) (c : Cm) (hc : c.OK) (hsi : I64 (1000 + c.cl)) :
    Calls Try.prog 22 #[.agg #[.int .i64 f, .int .i64 k], .pointer (some ⟨g, 0, none⟩), .agg c.cells.toArray] w fun e w' => e = .returned (.bool (rightC [k0] k c)) ∧ Mod (fun _ => False) w w' := by
  have HBR := Lib.hid hB
  have HBK := Lib.hid hb
  have HC := Lib.hid hc
  have HSI := Lib.hid hsi
  have HK0 := Lib.hid hk0
  have HTL := hid (show (txQ c).length ≤ 900000 by rw [txQ_T]; exact Nat.le_trans (txT_len hc) (by decide))
  have HKY := hid (show SgK (c.sb, txT c) from ⟨hc.1.2.2.2.1, txT_bytes hc, Nat.le_trans (txT_len hc) (by decide)⟩)
  clear hB hb hc hsi hk0
  go_enter Try.func22, Try.ntmps22
  go_upto_region 1 with (fail)
  obtain ⟨w1, hw1⟩ : ∃ zz, zz = ((w.alloc (.cells #[.int .i64 f, .int .i64 k] 24)).alloc (.cells (c.cells : List Value).toArray 32)) := ⟨_, rfl⟩
  change Code.wp _ _ _ _ ((w.alloc (.cells #[.int .i64 f, .int .i64 k] 24)).alloc (.cells (c.cells : List Value).toArray 32))
  rw [← hw1]
  have HB3 := hid (show Cs w1 (w.heap.size) #[.int .i64 f, .int .i64 k] 24 by rw [hw1]; exact (Cs.new _ _ _).alloc _)
  have HB5 := hid (show Cs w1 (w.heap.size + 1) (c.cells : List Value).toArray 32 by rw [hw1]; exact Cs_newN _ _ _ (by simp))
  have hm : Mod (fun _ => False) w w1 := by rw [hw1]; exact ((Mod.refl _ _).alloc _).alloc _
  have HM0 := hid (show Mod (fun _ => False) w w1 from hm.mono (fun _ _ h => h.elim))
  have hs1 : w1.heap.size = w.heap.size + 2 := by rw [hw1]; simp
  have Hx1 := hid (HBK.out.mod hm (fun _ _ h => h))
  clear HBK
  clear hw1 hm
  go_upto_region 1 with (fail)
  cases hv : validF k c with
  | false =>
    have HVF := Lib.hid hv
    clear hv
    generalize ha0 : Act.mk _ _ = a0
    have oe3 : a0.eval (.tmp 3) = .pointer (some ⟨w.heap.size, 0, none⟩) := by rw [← ha0]; rfl
    have oe5 : a0.eval (.tmp 5) = .pointer (some ⟨w.heap.size + 1, 0, none⟩) := by rw [← ha0]; rfl
    have hsz0 : a0.tmps.size = 28 := by rw [← ha0]; rfl
    have HA0 := hid ha0
    clear ha0
    refine wp_region_Q0 28 hsz0 [7, 8, 9, 10, 11, 12, 13, 14, 15, 16, 17, 18, 19, 20, 21, 22, 23, 24, 25, 26, 27, 6] [qi (.agg #[.int .i64 f, .int .i64 k]), qi (c.val), qi (.bool false), qi (.bool false), qi undef, qi undef, qi undef, qi undef, qi undef, qi undef, qi undef, qi undef, qi (.bool false), qi (.bool false), qi undef, qi undef, qi undef, qi undef, qi undef, qi undef, qi (.bool false), qi (.bool false)] ⟨qi_stable, qi_stable, qi_stable, qi_stable, qi_stable, qi_stable, qi_stable, qi_stable, qi_stable, qi_stable, qi_stable, qi_stable, qi_stable, qi_stable, qi_stable, qi_stable, qi_stable, qi_stable, qi_stable, qi_stable, qi_stable, qi_stable, trivial⟩ [2] ⟨?_, ?_, ?_, ?_, ?_, ?_, ?_, ?_, ?_, ?_, ?_, ?_, ?_, ?_, ?_, ?_, ?_, ?_, ?_, ?_, ?_, ?_, trivial⟩ ?_
    · exact stq (fun E => ex_loadA rfl Try.underlying24 rfl (off := 0) (cs := [.int .i64 f, .int .i64 k]) (by kernel_rfl) (E.v oe3) (Cs.whole (HB3.out.mod E.m.old (by intro h2; omega))))
    · exact stq (fun E => ex_loadA rfl Try.underlying32 rfl (off := 0) (cs := c.cells) (by rw [Cm.len HC.out.2.1]; exact size_commit) (E.v oe5) (Cs.whole (HB5.out.mod E.m.old (by intro h2; omega))))
    · exact stepq_chain rfl
    · exact stq (fun E => ex_move rfl (E.d 2))
    · refine stepq_env rfl rfl rfl fun _ _ _ _ _ _ _ _ hsz hd _ _ => ?_
      have h3 := hd ⟨3, .guard⟩ (by simp) rfl _ rfl
      exact qe_skip rfl ((wanted_of rfl rfl (hsz 10 (by decide)) h3).trans rfl) rfl
    · refine stepq_env rfl rfl rfl fun _ _ _ _ _ _ _ _ hsz hd _ _ => ?_
      have h3 := hd ⟨3, .guard⟩ (by simp) rfl _ rfl
      exact qe_skip rfl ((wanted_of rfl rfl (hsz 10 (by decide)) h3).trans rfl) rfl
    · refine stepq_env rfl rfl rfl fun _ _ _ _ _ _ _ _ hsz hd _ _ => ?_
      have h3 := hd ⟨3, .guard⟩ (by simp) rfl _ rfl
      exact qe_skip rfl ((wanted_of rfl rfl (hsz 10 (by decide)) h3).trans rfl) rfl
    · refine stepq_env rfl rfl rfl fun _ _ _ _ _ _ _ _ hsz hd _ _ => ?_
      have h3 := hd ⟨3, .guard⟩ (by simp) rfl _ rfl
      exact qe_skip rfl ((wanted_of rfl rfl (hsz 10 (by decide)) h3).trans rfl) rfl
    · refine stepq_env rfl rfl rfl fun _ _ _ _ _ _ _ _ hsz hd _ _ => ?_
      have h3 := hd ⟨3, .guard⟩ (by simp) rfl _ rfl
      exact qe_skip rfl ((wanted_of rfl rfl (hsz 10 (by decide)) h3).trans rfl) rfl
    · refine stepq_env rfl rfl rfl fun _ _ _ _ _ _ _ _ hsz hd _ _ => ?_
      have h3 := hd ⟨3, .guard⟩ (by simp) rfl _ rfl
      exact qe_skip rfl ((wanted_of rfl rfl (hsz 10 (by decide)) h3).trans rfl) rfl
    · refine stepq_env rfl rfl rfl fun _ _ _ _ _ _ _ _ hsz hd _ _ => ?_
      have h3 := hd ⟨3, .guard⟩ (by simp) rfl _ rfl
      exact qe_skip rfl ((wanted_of rfl rfl (hsz 10 (by decide)) h3).trans rfl) rfl
    · refine stepq_env rfl rfl rfl fun _ _ _ _ _ _ _ _ hsz hd _ _ => ?_
      have h3 := hd ⟨3, .guard⟩ (by simp) rfl _ rfl
      exact qe_skip rfl ((wanted_of rfl rfl (hsz 10 (by decide)) h3).trans rfl) rfl
    · exact stq (fun E => ex_pick rfl (E.d 3) (E.d 11) rfl)
    · exact stq (fun E => ex_move rfl (E.d 12))
    · refine stepq_env rfl rfl rfl fun _ _ _ _ _ _ _ _ hsz hd _ _ => ?_
      have h13 := hd ⟨13, .guard⟩ (by simp) rfl _ rfl
      exact qe_skip rfl ((wanted_of rfl rfl (hsz 20 (by decide)) h13).trans rfl) rfl
    · refine stepq_env rfl rfl rfl fun _ _ _ _ _ _ _ _ hsz hd _ _ => ?_
      have h13 := hd ⟨13, .guard⟩ (by simp) rfl _ rfl
      exact qe_skip rfl ((wanted_of rfl rfl (hsz 20 (by decide)) h13).trans rfl) rfl
    · refine stepq_env rfl rfl rfl fun _ _ _ _ _ _ _ _ hsz hd _ _ => ?_
      have h13 := hd ⟨13, .guard⟩ (by simp) rfl _ rfl
      exact qe_skip rfl ((wanted_of rfl rfl (hsz 20 (by decide)) h13).trans rfl) rfl
    · refine stepq_env rfl rfl rfl fun _ _ _ _ _ _ _ _ hsz hd _ _ => ?_
      have h13 := hd ⟨13, .guard⟩ (by simp) rfl _ rfl
      exact qe_skip rfl ((wanted_of rfl rfl (hsz 20 (by decide)) h13).trans rfl) rfl
    · refine stepq_env rfl rfl rfl fun _ _ _ _ _ _ _ _ hsz hd _ _ => ?_
      have h13 := hd ⟨13, .chain⟩ (by simp) rfl _ rfl
      exact qe_skip rfl ((wanted_of rfl rfl (hsz 20 (by decide)) h13).trans rfl) rfl
    · refine stepq_env rfl rfl rfl fun _ _ _ _ _ _ _ _ hsz hd _ _ => ?_
      have h13 := hd ⟨13, .guard⟩ (by simp) rfl _ rfl
      exact qe_skip rfl ((wanted_of rfl rfl (hsz 20 (by decide)) h13).trans rfl) rfl
    · exact stq (fun E => ex_pick rfl (E.d 13) (E.d 19) rfl)
    · exact stq (fun E => ex_assign rfl (E.d 20))
    intro u1_0 hr
    have zu1_0 := hr.size
    have Cx2 := hid (hr.new (S := (fun _ => False)))
    clear hr
    refine QChain.go fun Z act E => ?_
    refine qc_callF (args := #[.agg #[.int .i64 f, .int .i64 k], c.val]) rfl (wanted_none rfl) rfl Try.func28 (args2 (E.d 0) (E.d 1)) (HVF.out ▸ RefValid_any f k c HC.out _) ?_
    rintro e u1_1a ⟨rfl, hm⟩
    have zu1_1a := hm.size
    refine ⟨_, rfl, hm.mono (fun _ _ h => h.elim), (fun _ => rfl), ?_⟩
    intro u1_1 hr
    have zu1_1 := hr.size
    have Cx3 := hid (Cx2.out.go hm hr)
    clear Cx2 hm hr Z act E
    refine QChain.nil fun vs hl hzz hrows hne => ?_
    obtain ⟨Z, hYZ, hZb, hV⟩ := hzz
    have f2 := fvi hV hl 2
    have f3 := fvi hV hl 3
    have f13 := fvi hV hl 13
    have f14 := fvi hV hl 14
    have f18 := fvi hV hl 18
    have f19 := fvi hV hl 19
    have f21 := fvi hV hl 21
    rw [show vs = [gw vs 0, gw vs 1, gw vs 2, gw vs 3, gw vs 4, gw vs 5, gw vs 6, gw vs 7, gw vs 8, gw vs 9, gw vs 10, gw vs 11, gw vs 12, gw vs 13, gw vs 14, gw vs 15, gw vs 16, gw vs 17, gw vs 18, gw vs 19, gw vs 20, gw vs 21] from (gw_eta hl).trans rfl]
    have ha0 := HA0.out
    subst ha0
    clear HA0 hV hYZ hZb hsz0 hrows hne oe3 oe5
    simp only [putAll, Act.put, List.setIfInBounds_toArray, List.set_cons_zero, List.set_cons_succ, f2, f3, f13, f14, f18, f19, f21]
    clear hl f2 f3 f13 f14 f18 f19 f21
    go_wp2
    go_ret
    exact ⟨congrArg (fun z => Ending.returned (Value.bool z)) (show false = rightC [k0] k c by unfold rightC; rw [HVF.out]; rfl), (HM0.out.trans Cx3.out (fun _ _ h => h.elim))⟩
  | true =>
    by_cases he : c.sb = 1000 + c.cl
    · skip
      have HVF := Lib.hid hv
      clear hv
      generalize ha0 : Act.mk _ _ = a0
      have oe1 : a0.eval (.tmp 1) = .pointer (some ⟨g, 0, none⟩) := by rw [← ha0]; rfl
      have oe3 : a0.eval (.tmp 3) = .pointer (some ⟨w.heap.size, 0, none⟩) := by rw [← ha0]; rfl
      have oe5 : a0.eval (.tmp 5) = .pointer (some ⟨w.heap.size + 1, 0, none⟩) := by rw [← ha0]; rfl
      have hsz0 : a0.tmps.size = 28 := by rw [← ha0]; rfl
      have HA0 := hid ha0
      clear ha0
      refine wp_region_Q0 28 hsz0 [7, 8, 9, 10, 11, 12, 13, 14, 15, 16, 17, 18, 19, 20, 21, 22, 23, 24, 25, 26, 27, 6] [qi (.agg #[.int .i64 f, .int .i64 k]), qi (c.val), qi (.bool true), qi (.bool true), qi (.pointer (some ⟨w.heap.size + 1, 35, none⟩)), qi (.pointer (some ⟨w.heap.size + 1, 35, none⟩)), qi (.int .i64 c.sb), qi (.pointer (some ⟨w.heap.size + 1, 0, none⟩)), qi (.pointer (some ⟨w.heap.size + 1, 0, none⟩)), qi (.int .i64 c.cl), qi (.int .i64 (1000 + c.cl)), qi (.bool true), qi (.bool true), qi (.bool true), qi (.pointer (some ⟨g, 0, none⟩)), qi (.pointer (some ⟨w.heap.size + 1, 35, none⟩)), qi (.agg #[.int .i64 c.sb, .int .i64 c.mr]), qi (c.val), qv 1, qi (.bool (rightF [k0] (c.sb, txT c) c.mr)), qi (.bool (rightF [k0] (c.sb, txT c) c.mr)), qi (.bool (rightF [k0] (c.sb, txT c) c.mr))] ⟨qi_stable, qi_stable, qi_stable, qi_stable, qi_stable, qi_stable, qi_stable, qi_stable, qi_stable, qi_stable, qi_stable, qi_stable, qi_stable, qi_stable, qi_stable, qi_stable, qi_stable, qi_stable, qv_stable, qi_stable, qi_stable, qi_stable, trivial⟩ [2, 18, 19] ⟨?_, ?_, ?_, ?_, ?_, ?_, ?_, ?_, ?_, ?_, ?_, ?_, ?_, ?_, ?_, ?_, ?_, ?_, ?_, ?_, ?_, ?_, trivial⟩ ?_
      · exact stq (fun E => ex_loadA rfl Try.underlying24 rfl (off := 0) (cs := [.int .i64 f, .int .i64 k]) (by kernel_rfl) (E.v oe3) (Cs.whole (HB3.out.mod E.m.old (by intro h2; omega))))
      · exact stq (fun E => ex_loadA rfl Try.underlying32 rfl (off := 0) (cs := c.cells) (by rw [Cm.len HC.out.2.1]; exact size_commit) (E.v oe5) (Cs.whole (HB5.out.mod E.m.old (by intro h2; omega))))
      · exact stepq_chain rfl
      · exact stq (fun E => ex_move rfl (E.d 2))
      · refine stepq_env rfl rfl rfl fun _ _ _ _ _ _ _ hout hsz hd _ _ => ?_
        have h3 := hd ⟨3, .guard⟩ (by simp) rfl _ rfl
        refine qe_run rfl ((wanted_of rfl rfl (hsz 10 (by decide)) h3).trans rfl) (ex_field rfl Try.underlying32 rfl (by kernel_rfl) ((hout 5 (by decide)).trans oe5)) QE.refl ?_
        rfl
      · refine stepq_env rfl rfl rfl fun _ _ _ _ _ _ _ _ hsz hd _ _ => ?_
        have h3 := hd ⟨3, .guard⟩ (by simp) rfl _ rfl
        have h4 := hd ⟨4, .data⟩ (by simp) rfl _ rfl
        refine qe_run rfl ((wanted_of rfl rfl (hsz 10 (by decide)) h3).trans rfl) (ex_field rfl Try.underlying30 rfl (by kernel_rfl) h4) QE.refl ?_
        rfl
      · refine stepq_env rfl rfl rfl fun _ _ _ _ _ hm _ _ hsz hd _ _ => ?_
        have h3 := hd ⟨3, .guard⟩ (by simp) rfl _ rfl
        have h5 := hd ⟨5, .data⟩ (by simp) rfl _ rfl
        refine qe_run rfl ((wanted_of rfl rfl (hsz 10 (by decide)) h3).trans rfl) (ex_load1 rfl Try.underlying3 rfl h5 ((HB5.out.mod hm.old (by intro h2; omega)).c35 HC.out.2.1)) QE.refl ?_
        rfl
      · refine stepq_env rfl rfl rfl fun _ _ _ _ _ _ _ hout hsz hd _ _ => ?_
        have h3 := hd ⟨3, .guard⟩ (by simp) rfl _ rfl
        refine qe_run rfl ((wanted_of rfl rfl (hsz 10 (by decide)) h3).trans rfl) (ex_field rfl Try.underlying32 rfl (by kernel_rfl) ((hout 5 (by decide)).trans oe5)) QE.refl ?_
        rfl
      · refine stepq_env rfl rfl rfl fun _ _ _ _ _ _ _ _ hsz hd _ _ => ?_
        have h3 := hd ⟨3, .guard⟩ (by simp) rfl _ rfl
        have h7 := hd ⟨7, .data⟩ (by simp) rfl _ rfl
        refine qe_run rfl ((wanted_of rfl rfl (hsz 10 (by decide)) h3).trans rfl) (ex_field rfl Try.underlying26 rfl (by kernel_rfl) h7) QE.refl ?_
        rfl
      · refine stepq_env rfl rfl rfl fun _ _ _ _ _ hm _ _ hsz hd _ _ => ?_
        have h3 := hd ⟨3, .guard⟩ (by simp) rfl _ rfl
        have h8 := hd ⟨8, .data⟩ (by simp) rfl _ rfl
        refine qe_run rfl ((wanted_of rfl rfl (hsz 10 (by decide)) h3).trans rfl) (ex_load1 rfl Try.underlying3 rfl h8 ((HB5.out.mod hm.old (by intro h2; omega)).c0)) QE.refl ?_
        rfl
      · refine stepq_env rfl rfl rfl fun _ _ _ _ _ _ _ _ hsz hd _ _ => ?_
        have h3 := hd ⟨3, .guard⟩ (by simp) rfl _ rfl
        have h9 := hd ⟨9, .data⟩ (by simp) rfl _ rfl
        refine qe_run rfl ((wanted_of rfl rfl (hsz 10 (by decide)) h3).trans rfl) (ex_binE rfl rfl h9 (guard_ints _ _ _ _ _ _) (run_add_i _ _ Try.underlying3) (congrArg (Value.int .i64) (IntWalk.i64_in _ HSI.out))) QE.refl ?_
        rfl
      · refine stepq_env rfl rfl rfl fun _ _ _ _ _ _ _ _ hsz hd _ _ => ?_
        have h3 := hd ⟨3, .guard⟩ (by simp) rfl _ rfl
        have h6 := hd ⟨6, .data⟩ (by simp) rfl _ rfl
        have h10 := hd ⟨10, .data⟩ (by simp) rfl _ rfl
        refine qe_run rfl ((wanted_of rfl rfl (hsz 10 (by decide)) h3).trans rfl) (ex_binE rfl h6 h10 (guard_ints _ _ _ _ _ _) (run_eql_i _ _ _ Try.underlying3) (congrArg Value.bool (beq_iff_eq.2 he))) QE.refl ?_
        rfl
      · exact stq (fun E => ex_pick rfl (E.d 3) (E.d 11) rfl)
      · exact stq (fun E => ex_move rfl (E.d 12))
      · refine stepq_env rfl rfl rfl fun _ _ _ _ _ _ _ hout hsz hd _ _ => ?_
        have h13 := hd ⟨13, .guard⟩ (by simp) rfl _ rfl
        refine qe_run rfl ((wanted_of rfl rfl (hsz 20 (by decide)) h13).trans rfl) (ex_move rfl ((hout 1 (by decide)).trans oe1)) QE.refl ?_
        rfl
      · refine stepq_env rfl rfl rfl fun _ _ _ _ _ _ _ hout hsz hd _ _ => ?_
        have h13 := hd ⟨13, .guard⟩ (by simp) rfl _ rfl
        refine qe_run rfl ((wanted_of rfl rfl (hsz 20 (by decide)) h13).trans rfl) (ex_field rfl Try.underlying32 rfl (by kernel_rfl) ((hout 5 (by decide)).trans oe5)) QE.refl ?_
        rfl
      · refine stepq_env rfl rfl rfl fun _ _ _ _ _ hm _ _ hsz hd _ _ => ?_
        have h13 := hd ⟨13, .guard⟩ (by simp) rfl _ rfl
        have h15 := hd ⟨15, .data⟩ (by simp) rfl _ rfl
        refine qe_run rfl ((wanted_of rfl rfl (hsz 20 (by decide)) h13).trans rfl) (ex_loadA rfl Try.underlying30 rfl (off := 35) (cs := [.int .i64 c.sb, .int .i64 c.mr]) (by kernel_rfl) h15 ((HB5.out.mod hm.old (by intro h2; omega)).sig HC.out.2.1)) QE.refl ?_
        rfl
      · refine stepq_env rfl rfl rfl fun _ _ _ _ _ hm _ hout hsz hd _ _ => ?_
        have h13 := hd ⟨13, .guard⟩ (by simp) rfl _ rfl
        refine qe_run rfl ((wanted_of rfl rfl (hsz 20 (by decide)) h13).trans rfl) (ex_loadA rfl Try.underlying32 rfl (off := 0) (cs := c.cells) (by rw [Cm.len HC.out.2.1]; exact size_commit) ((hout 5 (by decide)).trans oe5) (Cs.whole (HB5.out.mod hm.old (by intro h2; omega)))) QE.refl ?_
        rfl
      · exact stepq_chain rfl
      · exact stepq_chain rfl
      · exact stq (fun E => ex_pick rfl (E.d 13) (E.d 19) rfl)
      · exact stq (fun E => ex_assign rfl (E.d 20))
      intro u1_0 hr
      have zu1_0 := hr.size
      have Cx2 := hid (hr.new (S := (fun _ => False)))
      clear hr
      refine QChain.go fun Z act E => ?_
      refine qc_callF (args := #[.agg #[.int .i64 f, .int .i64 k], c.val]) rfl (wanted_none rfl) rfl Try.func28 (args2 (E.d 0) (E.d 1)) (HVF.out ▸ RefValid_any f k c HC.out _) ?_
      rintro e u1_1a ⟨rfl, hm⟩
      have zu1_1a := hm.size
      refine ⟨_, rfl, hm.mono (fun _ _ h => h.elim), (fun _ => rfl), ?_⟩
      intro u1_1 hr
      have zu1_1 := hr.size
      have Cx3 := hid (Cx2.out.go hm hr)
      clear Cx2 hm hr Z act E
      refine QChain.go fun Z act E => ?_
      refine qc_callF (args := #[c.val]) rfl ((wanted_of rfl rfl (E.sz 20 (by decide)) (E.e 13 .chain)).trans rfl) rfl Try.func31 (args1 (E.d 17)) (RefTextQ (fun _ => False) _ c _ ⟨rfl, HC.out⟩ (fun _ h => h.elim) HTL.out) ?_
      rintro e u1_2a ⟨v_a1, rfl, qa1, hm⟩
      obtain ⟨ao_a1, cap_a1, rfl⟩ := qa1.shape
      have zu1_2a := hm.size
      refine ⟨_, rfl, hm.mono (fun _ _ h => h.elim), (fun _ => rfl), ?_⟩
      intro u1_2 hr
      have zu1_2 := hr.size
      have Hx4 := hid ((qa1.widen (R' := (fun k => (New u1_1 u1_2a k))) (fun _ h => h) (Nat.le_refl _)).mod hr (by intro k h1 h2; omega))
      have Cx5 := hid (Cx3.out.go hm hr)
      clear Cx3 hm hr Z act E qa1
      refine QChain.go fun Z act E => ?_
      refine qc_callF (args := #[.pointer (some ⟨g, 0, none⟩), .agg #[.int .i64 c.sb, .int .i64 c.mr], .slice ao_a1 ((txQ c).length) cap_a1]) rfl ((wanted_of rfl rfl (E.sz 20 (by decide)) (E.e 13 .guard)).trans rfl) rfl Try.func57 (args3 (E.d 14) (E.d 16) (chv (v := .slice ao_a1 ((txQ c).length) cap_a1) (E.d 18))) (RefRight_1 (Hx1.out.mod Cx5.out (fun _ _ h => h)) (by intro k h1; have hb := HBR.out k h1; omega) HK0.out c.sb c.mr (RdR_eq Hx4.out.rd (txQ_T c)) HKY.out) ?_
      rintro e u1_3a ⟨rfl, hm⟩
      have zu1_3a := hm.size
      refine ⟨_, rfl, hm.mono (fun _ _ h => h.elim), (fun _ => rfl), ?_⟩
      intro u1_3 hr
      have zu1_3 := hr.size
      have hmr := Mod.after hm hr
      have Hx6 := hid (Hx4.out.mod hmr (by intro k h1 h2; omega))
      clear Hx4
      clear hmr
      have Cx7 := hid (Cx5.out.go hm hr)
      clear Cx5 hm hr Z act E
      refine QChain.nil fun vs hl hzz hrows hne => ?_
      obtain ⟨Z, hYZ, hZb, hV⟩ := hzz
      have f2 := fvi hV hl 2
      have f3 := fvi hV hl 3
      have f13 := fvi hV hl 13
      have f14 := fvi hV hl 14
      have f18 := fvc hV hl 18
      have f19 := fvi hV hl 19
      have f21 := fvi hV hl 21
      rw [show vs = [gw vs 0, gw vs 1, gw vs 2, gw vs 3, gw vs 4, gw vs 5, gw vs 6, gw vs 7, gw vs 8, gw vs 9, gw vs 10, gw vs 11, gw vs 12, gw vs 13, gw vs 14, gw vs 15, gw vs 16, gw vs 17, gw vs 18, gw vs 19, gw vs 20, gw vs 21] from (gw_eta hl).trans rfl]
      have ha0 := HA0.out
      subst ha0
      clear HA0 hV hYZ hZb hsz0 hrows hne oe1 oe3 oe5
      simp only [putAll, Act.put, List.setIfInBounds_toArray, List.set_cons_zero, List.set_cons_succ, f2, f3, f13, f14, f18, f19, f21]
      clear hl f2 f3 f13 f14 f18 f19 f21
      go_wp2
      go_ret
      exact ⟨congrArg (fun z => Ending.returned (Value.bool z)) (show rightF [k0] (c.sb, txT c) c.mr = rightC [k0] k c by unfold rightC; rw [HVF.out, beq_iff_eq.2 he]; rfl), (HM0.out.trans Cx7.out (fun _ _ h => h.elim))⟩
    · skip
      have HVF := Lib.hid hv
      clear hv
      generalize ha0 : Act.mk _ _ = a0
      have oe3 : a0.eval (.tmp 3) = .pointer (some ⟨w.heap.size, 0, none⟩) := by rw [← ha0]; rfl
      have oe5 : a0.eval (.tmp 5) = .pointer (some ⟨w.heap.size + 1, 0, none⟩) := by rw [← ha0]; rfl
      have hsz0 : a0.tmps.size = 28 := by rw [← ha0]; rfl
      have HA0 := hid ha0
      clear ha0
      refine wp_region_Q0 28 hsz0 [7, 8, 9, 10, 11, 12, 13, 14, 15, 16, 17, 18, 19, 20, 21, 22, 23, 24, 25, 26, 27, 6] [qi (.agg #[.int .i64 f, .int .i64 k]), qi (c.val), qi (.bool true), qi (.bool true), qi (.pointer (some ⟨w.heap.size + 1, 35, none⟩)), qi (.pointer (some ⟨w.heap.size + 1, 35, none⟩)), qi (.int .i64 c.sb), qi (.pointer (some ⟨w.heap.size + 1, 0, none⟩)), qi (.pointer (some ⟨w.heap.size + 1, 0, none⟩)), qi (.int .i64 c.cl), qi (.int .i64 (1000 + c.cl)), qi (.bool false), qi (.bool false), qi (.bool false), qi undef, qi undef, qi undef, qi undef, qi undef, qi undef, qi (.bool false), qi (.bool false)] ⟨qi_stable, qi_stable, qi_stable, qi_stable, qi_stable, qi_stable, qi_stable, qi_stable, qi_stable, qi_stable, qi_stable, qi_stable, qi_stable, qi_stable, qi_stable, qi_stable, qi_stable, qi_stable, qi_stable, qi_stable, qi_stable, qi_stable, trivial⟩ [2] ⟨?_, ?_, ?_, ?_, ?_, ?_, ?_, ?_, ?_, ?_, ?_, ?_, ?_, ?_, ?_, ?_, ?_, ?_, ?_, ?_, ?_, ?_, trivial⟩ ?_
      · exact stq (fun E => ex_loadA rfl Try.underlying24 rfl (off := 0) (cs := [.int .i64 f, .int .i64 k]) (by kernel_rfl) (E.v oe3) (Cs.whole (HB3.out.mod E.m.old (by intro h2; omega))))
      · exact stq (fun E => ex_loadA rfl Try.underlying32 rfl (off := 0) (cs := c.cells) (by rw [Cm.len HC.out.2.1]; exact size_commit) (E.v oe5) (Cs.whole (HB5.out.mod E.m.old (by intro h2; omega))))
      · exact stepq_chain rfl
      · exact stq (fun E => ex_move rfl (E.d 2))
      · refine stepq_env rfl rfl rfl fun _ _ _ _ _ _ _ hout hsz hd _ _ => ?_
        have h3 := hd ⟨3, .guard⟩ (by simp) rfl _ rfl
        refine qe_run rfl ((wanted_of rfl rfl (hsz 10 (by decide)) h3).trans rfl) (ex_field rfl Try.underlying32 rfl (by kernel_rfl) ((hout 5 (by decide)).trans oe5)) QE.refl ?_
        rfl
      · refine stepq_env rfl rfl rfl fun _ _ _ _ _ _ _ _ hsz hd _ _ => ?_
        have h3 := hd ⟨3, .guard⟩ (by simp) rfl _ rfl
        have h4 := hd ⟨4, .data⟩ (by simp) rfl _ rfl
        refine qe_run rfl ((wanted_of rfl rfl (hsz 10 (by decide)) h3).trans rfl) (ex_field rfl Try.underlying30 rfl (by kernel_rfl) h4) QE.refl ?_
        rfl
      · refine stepq_env rfl rfl rfl fun _ _ _ _ _ hm _ _ hsz hd _ _ => ?_
        have h3 := hd ⟨3, .guard⟩ (by simp) rfl _ rfl
        have h5 := hd ⟨5, .data⟩ (by simp) rfl _ rfl
        refine qe_run rfl ((wanted_of rfl rfl (hsz 10 (by decide)) h3).trans rfl) (ex_load1 rfl Try.underlying3 rfl h5 ((HB5.out.mod hm.old (by intro h2; omega)).c35 HC.out.2.1)) QE.refl ?_
        rfl
      · refine stepq_env rfl rfl rfl fun _ _ _ _ _ _ _ hout hsz hd _ _ => ?_
        have h3 := hd ⟨3, .guard⟩ (by simp) rfl _ rfl
        refine qe_run rfl ((wanted_of rfl rfl (hsz 10 (by decide)) h3).trans rfl) (ex_field rfl Try.underlying32 rfl (by kernel_rfl) ((hout 5 (by decide)).trans oe5)) QE.refl ?_
        rfl
      · refine stepq_env rfl rfl rfl fun _ _ _ _ _ _ _ _ hsz hd _ _ => ?_
        have h3 := hd ⟨3, .guard⟩ (by simp) rfl _ rfl
        have h7 := hd ⟨7, .data⟩ (by simp) rfl _ rfl
        refine qe_run rfl ((wanted_of rfl rfl (hsz 10 (by decide)) h3).trans rfl) (ex_field rfl Try.underlying26 rfl (by kernel_rfl) h7) QE.refl ?_
        rfl
      · refine stepq_env rfl rfl rfl fun _ _ _ _ _ hm _ _ hsz hd _ _ => ?_
        have h3 := hd ⟨3, .guard⟩ (by simp) rfl _ rfl
        have h8 := hd ⟨8, .data⟩ (by simp) rfl _ rfl
        refine qe_run rfl ((wanted_of rfl rfl (hsz 10 (by decide)) h3).trans rfl) (ex_load1 rfl Try.underlying3 rfl h8 ((HB5.out.mod hm.old (by intro h2; omega)).c0)) QE.refl ?_
        rfl
      · refine stepq_env rfl rfl rfl fun _ _ _ _ _ _ _ _ hsz hd _ _ => ?_
        have h3 := hd ⟨3, .guard⟩ (by simp) rfl _ rfl
        have h9 := hd ⟨9, .data⟩ (by simp) rfl _ rfl
        refine qe_run rfl ((wanted_of rfl rfl (hsz 10 (by decide)) h3).trans rfl) (ex_binE rfl rfl h9 (guard_ints _ _ _ _ _ _) (run_add_i _ _ Try.underlying3) (congrArg (Value.int .i64) (IntWalk.i64_in _ HSI.out))) QE.refl ?_
        rfl
      · refine stepq_env rfl rfl rfl fun _ _ _ _ _ _ _ _ hsz hd _ _ => ?_
        have h3 := hd ⟨3, .guard⟩ (by simp) rfl _ rfl
        have h6 := hd ⟨6, .data⟩ (by simp) rfl _ rfl
        have h10 := hd ⟨10, .data⟩ (by simp) rfl _ rfl
        refine qe_run rfl ((wanted_of rfl rfl (hsz 10 (by decide)) h3).trans rfl) (ex_binE rfl h6 h10 (guard_ints _ _ _ _ _ _) (run_eql_i _ _ _ Try.underlying3) (congrArg Value.bool (beq_eq_false_iff_ne.2 he))) QE.refl ?_
        rfl
      · exact stq (fun E => ex_pick rfl (E.d 3) (E.d 11) rfl)
      · exact stq (fun E => ex_move rfl (E.d 12))
      · refine stepq_env rfl rfl rfl fun _ _ _ _ _ _ _ _ hsz hd _ _ => ?_
        have h13 := hd ⟨13, .guard⟩ (by simp) rfl _ rfl
        exact qe_skip rfl ((wanted_of rfl rfl (hsz 20 (by decide)) h13).trans rfl) rfl
      · refine stepq_env rfl rfl rfl fun _ _ _ _ _ _ _ _ hsz hd _ _ => ?_
        have h13 := hd ⟨13, .guard⟩ (by simp) rfl _ rfl
        exact qe_skip rfl ((wanted_of rfl rfl (hsz 20 (by decide)) h13).trans rfl) rfl
      · refine stepq_env rfl rfl rfl fun _ _ _ _ _ _ _ _ hsz hd _ _ => ?_
        have h13 := hd ⟨13, .guard⟩ (by simp) rfl _ rfl
        exact qe_skip rfl ((wanted_of rfl rfl (hsz 20 (by decide)) h13).trans rfl) rfl
      · refine stepq_env rfl rfl rfl fun _ _ _ _ _ _ _ _ hsz hd _ _ => ?_
        have h13 := hd ⟨13, .guard⟩ (by simp) rfl _ rfl
        exact qe_skip rfl ((wanted_of rfl rfl (hsz 20 (by decide)) h13).trans rfl) rfl
      · refine stepq_env rfl rfl rfl fun _ _ _ _ _ _ _ _ hsz hd _ _ => ?_
        have h13 := hd ⟨13, .chain⟩ (by simp) rfl _ rfl
        exact qe_skip rfl ((wanted_of rfl rfl (hsz 20 (by decide)) h13).trans rfl) rfl
      · refine stepq_env rfl rfl rfl fun _ _ _ _ _ _ _ _ hsz hd _ _ => ?_
        have h13 := hd ⟨13, .guard⟩ (by simp) rfl _ rfl
        exact qe_skip rfl ((wanted_of rfl rfl (hsz 20 (by decide)) h13).trans rfl) rfl
      · exact stq (fun E => ex_pick rfl (E.d 13) (E.d 19) rfl)
      · exact stq (fun E => ex_assign rfl (E.d 20))
      intro u1_0 hr
      have zu1_0 := hr.size
      have Cx2 := hid (hr.new (S := (fun _ => False)))
      clear hr
      refine QChain.go fun Z act E => ?_
      refine qc_callF (args := #[.agg #[.int .i64 f, .int .i64 k], c.val]) rfl (wanted_none rfl) rfl Try.func28 (args2 (E.d 0) (E.d 1)) (HVF.out ▸ RefValid_any f k c HC.out _) ?_
      rintro e u1_1a ⟨rfl, hm⟩
      have zu1_1a := hm.size
      refine ⟨_, rfl, hm.mono (fun _ _ h => h.elim), (fun _ => rfl), ?_⟩
      intro u1_1 hr
      have zu1_1 := hr.size
      have Cx3 := hid (Cx2.out.go hm hr)
      clear Cx2 hm hr Z act E
      refine QChain.nil fun vs hl hzz hrows hne => ?_
      obtain ⟨Z, hYZ, hZb, hV⟩ := hzz
      have f2 := fvi hV hl 2
      have f3 := fvi hV hl 3
      have f13 := fvi hV hl 13
      have f14 := fvi hV hl 14
      have f18 := fvi hV hl 18
      have f19 := fvi hV hl 19
      have f21 := fvi hV hl 21
      rw [show vs = [gw vs 0, gw vs 1, gw vs 2, gw vs 3, gw vs 4, gw vs 5, gw vs 6, gw vs 7, gw vs 8, gw vs 9, gw vs 10, gw vs 11, gw vs 12, gw vs 13, gw vs 14, gw vs 15, gw vs 16, gw vs 17, gw vs 18, gw vs 19, gw vs 20, gw vs 21] from (gw_eta hl).trans rfl]
      have ha0 := HA0.out
      subst ha0
      clear HA0 hV hYZ hZb hsz0 hrows hne oe3 oe5
      simp only [putAll, Act.put, List.setIfInBounds_toArray, List.set_cons_zero, List.set_cons_succ, f2, f3, f13, f14, f18, f19, f21]
      clear hl f2 f3 f13 f14 f18 f19 f21
      go_wp2
      go_ret
      exact ⟨congrArg (fun z => Ending.returned (Value.bool z)) (show false = rightC [k0] k c by unfold rightC; rw [HVF.out, beq_eq_false_iff_ne.2 he]; rfl), (HM0.out.trans Cx3.out (fun _ _ h => h.elim))⟩
end Go.Proofs.Ytgnmdnmmemdemaa

/- Equality of flat things (all cells are ints): they are equal where their cells are. -/
set_option maxRecDepth 100000
set_option linter.unusedVariables false
namespace Go.Proofs.Ytgnmdnmmemdemaa
open Go Go.RowKit Go.Gv

/-- cells that are ints of these kinds -/
def KI : List IntKind → List Value → Prop
  | [], [] => True
  | k :: ks, v :: vs => (∃ a, v = .int k a) ∧ KI ks vs
  | _, _ => False
theorem KI.len : ∀ {ks : List IntKind} {vs : List Value}, KI ks vs → vs.length = ks.length
  | [], [], _ => rfl
  | k :: ks, v :: vs, h => by simp [KI.len h.2]
  | [], v :: vs, h => h.elim
  | k :: ks, [], h => h.elim
theorem KI.append : ∀ {ks ks' : List IntKind} {a b : List Value}, KI ks a → KI ks' b → KI (ks ++ ks') (a ++ b)
  | [], ks', [], b, _, h => h
  | k :: ks, ks', v :: vs, b, h, h' => ⟨h.1, KI.append h.2 h'⟩
  | [], _, v :: vs, _, h, _ => h.elim
  | k :: ks, _, [], _, h, _ => h.elim
theorem KI.split : ∀ {ks ks' : List IntKind} {vs : List Value}, KI (ks ++ ks') vs → ∃ a b, vs = a ++ b ∧ KI ks a ∧ KI ks' b
  | [], ks', vs, h => ⟨[], vs, rfl, trivial, h⟩
  | k :: ks, ks', v :: vs, h => by
    obtain ⟨a, b, rfl, h1, h2⟩ := KI.split h.2
    exact ⟨v :: a, b, rfl, ⟨h.1, h1⟩, h2⟩
  | k :: ks, _, [], h => h.elim
theorem KI.ints {k : IntKind} : ∀ {n : Nat} {h : List Int}, h.length = n → KI (List.replicate n k) (h.map (Value.int k))
  | 0, [], _ => trivial
  | n + 1, a :: h, e => ⟨⟨a, rfl⟩, KI.ints (by simpa using e)⟩
theorem KI.rep {k : IntKind} : ∀ {n : Nat} {vs : List Value}, KI (List.replicate n k) vs → ∃ h : List Int, h.length = n ∧ vs = h.map (Value.int k)
  | 0, [], _ => ⟨[], rfl, rfl⟩
  | 0, v :: vs, h => h.elim
  | n + 1, [], h => h.elim
  | n + 1, v :: vs, h => by
    obtain ⟨a, rfl⟩ := h.1
    obtain ⟨l, e, rfl⟩ := KI.rep h.2
    exact ⟨a :: l, by simp [e], rfl⟩
def EqW (P : Program) (d : Nat) (T : TypeId) (ks : List IntKind) : Prop := ∀ (xs ys : List Value) (c : Bool) (w : World), KI ks xs → KI ks ys → (c = true ↔ xs = ys) → (Op.equalIn d T (.agg xs.toArray) (.agg ys.toArray)).run P w = .ok c w
def EqT (P : Program) (d : Nat) (T : TypeId) (ks : List IntKind) : Prop := ∀ (A B : List Value) (off : Nat) (xs ys : List Value) (c : Bool) (w : World), KI ks xs → KI ks ys → (c = true ↔ xs = ys) → (A.drop off).take ks.length = xs → (B.drop off).take ks.length = ys →
  ∃ x y, (part T A.toArray off).run P w = .ok x w ∧ (part T B.toArray off).run P w = .ok y w ∧ (Op.equalIn d T x y).run P w = .ok c w
theorem ex_bool (p : Prop) : ∃ c : Bool, (c = true ↔ p) := by
  rcases Classical.em p with h | h
  · exact ⟨true, by simp [h]⟩
  · exact ⟨false, by simp [h]⟩
theorem bool_of {c d : Bool} (h : c = true ↔ d = true) : c = d := by cases c <;> cases d <;> simp_all
variable {P : Program}
theorem drop_one {A : List Value} {off : Nat} {v : Value} (h : (A.drop off).take 1 = [v]) : A.toArray[off]? = some v := by
  have h1 : ((A.drop off).take 1)[0]? = some v := by rw [h]; rfl
  rw [List.getElem?_take, List.getElem?_drop] at h1
  simpa using h1
theorem EqT.int {d : Nat} {T : TypeId} {k : IntKind} (hu : P.underlying T = some (.int k)) : EqT P (d + 1) T [k] := by
  intro A B off xs ys c w hx hy hc ha hb
  match xs, ys, hx, hy with
  | [x], [y], ⟨⟨a, e⟩, _⟩, ⟨⟨b, e'⟩, _⟩ =>
    subst e e'
    refine ⟨_, _, part_one hu rfl (drop_one ha) w, part_one hu rfl (drop_one hb) w, ?_⟩
    rw [run_equalIn_int w d T k k a b hu, show (a == b) = c from bool_of (by rw [hc]; simp)]
theorem EqT.agg {d : Nat} {T : TypeId} {ks : List IntKind} {de : TypeDesc} (h : EqW P d T ks) (hu : P.underlying T = some de) (hd : aggDesc de = true) (hs : (P.info? T).map (·.size) = some ks.length) : EqT P d T ks := by
  intro A B off xs ys c w hx hy hc ha hb
  have e : ∀ (A : List Value), A.toArray.extract off (off + ks.length) = ((A.drop off).take ks.length).toArray := fun A => by
    apply Array.ext'
    simp [List.extract_eq_take_drop, Nat.add_sub_cancel_left]
  have p1 := part_agg hu hd hs A.toArray off w
  have p2 := part_agg hu hd hs B.toArray off w
  rw [e, ha] at p1
  rw [e, hb] at p2
  exact ⟨_, _, p1, p2, h xs ys c w hx hy hc⟩
theorem EqW.ints {d : Nat} {T e : TypeId} {n : Nat} {k : IntKind} (ht : P.underlying T = some (.array n e)) (he : P.underlying e = some (.int k)) (hs : (P.info? e).map (·.size) = some 1) : EqW P (d + 2) T (List.replicate n k) := by
  intro xs ys c w hx hy hc
  obtain ⟨a, ha, rfl⟩ := hx.rep
  obtain ⟨b, hb, rfl⟩ := hy.rep
  rw [run_equalIn_ints w d T e n ht he hs a b ha hb]
  rw [show decide (a = b) = c from bool_of (by
    rw [hc, decide_eq_true_iff]
    exact ⟨fun h => by rw [h], fun h => (List.map_inj_right (fun x y h => by injection h)).1 h⟩)]
def FsE (P : Program) (d : Nat) : Nat → List Field → List (List IntKind) → Prop
  | _, [], [] => True
  | off, f :: fs, ks :: l => f.name ≠ "_" ∧ f.offset = off ∧ EqT P d f.type ks ∧ FsE P d (off + ks.length) fs l
  | _, _, _ => False
theorem eqFields_all {d : Nat} : ∀ (fs : List Field) (l : List (List IntKind)) (pre pre' xs ys : List Value) (c : Bool) (w : World), FsE P d pre.length fs l → pre'.length = pre.length → KI l.flatten xs → KI l.flatten ys → (c = true ↔ xs = ys) →
    (Op.eqFields d (pre ++ xs).toArray (pre' ++ ys).toArray fs).run P w = .ok c w
  | [], [], pre, pre', xs, ys, c, w, _, _, hx, hy, hc => by
    match xs, ys, hx, hy, hc with
    | [], [], _, _, hc => obtain rfl : c = true := hc.2 rfl; simp [Op.eqFields]
  | [], _ :: _, _, _, _, _, _, _, h, _, _, _, _ => h.elim
  | _ :: _, [], _, _, _, _, _, _, h, _, _, _, _ => h.elim
  | f :: fs, ks :: l, pre, pre', xs, ys, c, w, ⟨h1, h2, h3, h4⟩, hp, hx, hy, hc => by
    obtain ⟨a, b, rfl, ha, hb⟩ := KI.split (by simpa using hx)
    obtain ⟨a', b', rfl, ha', hb'⟩ := KI.split (by simpa using hy)
    have la := ha.len
    have la' := ha'.len
    obtain ⟨c1, hc1⟩ := ex_bool (a = a')
    obtain ⟨c2, hc2⟩ := ex_bool (b = b')
    obtain ⟨x, y, p1, p2, q⟩ := h3 (pre ++ (a ++ b)) (pre' ++ (a' ++ b')) pre.length a a' c1 w ha ha' hc1 (by rw [List.drop_left, ← la, List.take_left]) (by rw [← hp, List.drop_left, ← la', List.take_left])
    have ih := eqFields_all fs l (pre ++ a) (pre' ++ a') b b' c2 w (by rw [List.length_append, la]; exact h4) (by rw [List.length_append, List.length_append, hp, la, la']) hb hb' hc2
    rw [List.append_assoc, List.append_assoc] at ih
    unfold Op.eqFields
    rw [if_pos h1, h2]
    simp only [Sem.run_bind, p1, p2, q, Result.andThen_ok]
    have hcc : c = (c1 && c2) := bool_of (by
      rw [hc, Bool.and_eq_true, hc1, hc2]
      exact ⟨fun h => List.append_inj h (by rw [la, la']), fun h => by rw [h.1, h.2]⟩)
    subst hcc
    cases c1
    · simp
    · simp [ih]
theorem EqW.struct {d : Nat} {T : TypeId} {fs : Array Field} (l : List (List IntKind)) (hu : P.underlying T = some (.struct fs)) (hs : P.stoodInHeld T = false) (hl : FsE P d 0 fs.toList l) : EqW P (d + 1) T l.flatten := by
  intro xs ys c w hx hy hc
  have hf : P.fieldsOf T = fs := by unfold Program.fieldsOf; rw [hu]
  rw [run_equalIn_struct w d T xs.toArray ys.toArray (by rw [hf]; exact hu) hs, hf]
  exact eqFields_all fs.toList l [] [] xs ys c w hl rfl hx hy hc
theorem EqW.run {T : TypeId} {ks : List IntKind} (h : EqW P 10000 T ks) {xs ys : List Value} (hx : KI ks xs) (hy : KI ks ys) {c : Bool} (hc : c = true ↔ xs = ys) (w : World) : (binOp .eql T (.agg xs.toArray) (.agg ys.toArray)).run P w = .ok (.bool (c)) w := by
  rw [run_eql_struct, h xs ys c w hx hy hc]
  rfl
theorem EqW.runN {T : TypeId} {ks : List IntKind} (h : EqW P 10000 T ks) {xs ys : List Value} (hx : KI ks xs) (hy : KI ks ys) {c : Bool} (hc : c = true ↔ xs = ys) (w : World) : (binOp .neq T (.agg xs.toArray) (.agg ys.toArray)).run P w = .ok (.bool (!c)) w := by
  rw [run_neq_struct, h xs ys c w hx hy hc]
  rfl
abbrev kHash : List IntKind := List.replicate 32 .u8
theorem eqT_int {d : Nat} : EqT Try.prog (d + 1) 3 [.i64] := EqT.int Try.underlying3
theorem eqT_hash {d : Nat} : EqT Try.prog (d + 2) 28 kHash := EqT.agg (EqW.ints Try.underlying28 Try.underlying5 (by kernel_rfl)) Try.underlying28 rfl (by kernel_rfl)
theorem eqW_name {d : Nat} : EqW Try.prog (d + 2) 26 [.i64, .i64] := EqW.struct [[.i64], [.i64]] Try.underlying26 (by kernel_rfl) ⟨by decide, rfl, eqT_int, by decide, rfl, eqT_int, trivial⟩
theorem eqT_name {d : Nat} : EqT Try.prog (d + 2) 26 [.i64, .i64] := EqT.agg eqW_name Try.underlying26 rfl (by kernel_rfl)
theorem eqW_sig {d : Nat} : EqW Try.prog (d + 2) 30 [.i64, .i64] := EqW.struct [[.i64], [.i64]] Try.underlying30 (by kernel_rfl) ⟨by decide, rfl, eqT_int, by decide, rfl, eqT_int, trivial⟩
theorem eqT_sig {d : Nat} : EqT Try.prog (d + 2) 30 [.i64, .i64] := EqT.agg eqW_sig Try.underlying30 rfl (by kernel_rfl)
theorem eqW_commit {d : Nat} : EqW Try.prog (d + 3) 32 [[.i64, .i64], kHash, [.i64], [.i64, .i64]].flatten :=
  EqW.struct [[.i64, .i64], kHash, [.i64], [.i64, .i64]] Try.underlying32 (by kernel_rfl) ⟨by decide, rfl, eqT_name, by decide, rfl, eqT_hash, by decide, rfl, eqT_int, by decide, rfl, eqT_sig, trivial⟩
theorem ki_hash {h : List Int} (e : h.length = 32) : KI kHash (h.map bv) := KI.ints e
theorem ki_cm {x : Cm} (h : x.h.length = 32) : KI [[.i64, .i64], kHash, [.i64], [.i64, .i64]].flatten x.cells := by
  have := KI.append (ks := [.i64, .i64]) (a := [.int .i64 x.cl, .int .i64 x.sq]) ⟨⟨_, rfl⟩, ⟨_, rfl⟩, trivial⟩ (KI.append (ki_hash h) (ks' := [.i64, .i64, .i64]) (b := [.int .i64 x.ln, .int .i64 x.sb, .int .i64 x.mr]) ⟨⟨_, rfl⟩, ⟨_, rfl⟩, ⟨_, rfl⟩, trivial⟩)
  exact this
end Go.Proofs.Ytgnmdnmmemdemaa
