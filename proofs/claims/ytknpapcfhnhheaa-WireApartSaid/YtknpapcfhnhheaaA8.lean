/- WireApart: for every six readings the law returns true. No condition. -/
import Derived.Test.YtknpapcfhnhheaaA7
import Derived.ProofKit
import Derived.OpenShut
import Derived.ChangeOld
/- WireApart: the plain laws and the walk. -/
set_option maxRecDepth 100000
set_option linter.unusedVariables false
namespace Go.Proofs.Ytknpapcfhnhheaa
open Go Go.RowKit Go.Gv


theorem list_eta {vs : List Value} {n : Nat} (hl : vs.length = n) : vs = (List.range n).map fun i => vs.getD i undef := by
  subst hl
  refine List.ext_getElem? fun i => ?_
  rcases Nat.lt_or_ge i vs.length with h | h
  · simp [List.getD_eq_getElem?_getD, h]
  · simp [h]
theorem getq {vs : List Value} {n p : Nat} (hl : vs.length = n) (h : p < n) : vs[p]? = some (vs.getD p undef) := by
  subst hl
  simp [List.getD_eq_getElem?_getD, h]
theorem encI_1 {v : Int} (h : 0 ≤ v) (h2 : v < 128) : encI v = [v] := by
  unfold encI
  rw [encN_lt (by omega)]
  congr 1
  omega
theorem word5 (s : ByteArray) (l : List Int) (h : bytesOf s = l) (hl : l.length < 128) : wordB s = (l.length : Int) :: l := by
  unfold wordB
  rw [h, encN_lt hl]
  rfl
theorem stampT_sm (x : St) : stampT (smSt x) = [5, 115, 116, 97, 109, 112] ++ ([within x.rp 4, within x.cl 3, within x.sq 3] ++ (smH (x.h.headD 0 % 2) ++ [((x.tm % 3 : Nat) : Int)])) := by
  have h1 := within_range x.rp 4 (by decide); have h2 := within_range x.cl 3 (by decide); have h3 := within_range x.sq 3 (by decide)
  have h4 : x.tm % 3 < 3 := Nat.mod_lt _ (by decide)
  unfold stampT nameB
  rw [word5 wStamp [115, 116, 97, 109, 112] rfl (by decide)]
  simp only [smSt]
  rw [encI_1 h1.1 (by omega), encI_1 h2.1 (by omega), encI_1 h3.1 (by omega), encN_lt (by omega)]
  rfl
theorem ackT_sm (x : St) : ackT (smSt x) = [3, 97, 99, 107] ++ ([within x.rp 4, within x.cl 3, within x.sq 3] ++ (smH (x.h.headD 0 % 2) ++ [((x.tm % 3 : Nat) : Int)])) := by
  have h1 := within_range x.rp 4 (by decide); have h2 := within_range x.cl 3 (by decide); have h3 := within_range x.sq 3 (by decide)
  have h4 : x.tm % 3 < 3 := Nat.mod_lt _ (by decide)
  unfold ackT nameB
  rw [word5 wAck [97, 99, 107] rfl (by decide)]
  simp only [smSt]
  rw [encI_1 h1.1 (by omega), encI_1 h2.1 (by omega), encI_1 h3.1 (by omega), encN_lt (by omega)]
  rfl
theorem voteT_sm (x : Vt) : voteT (smVt x) = [4, 118, 111, 116, 101] ++ ([1 + within x.kd 2, within x.ep 3, within x.rd 3, within x.rp 4] ++ smH (x.h.headD 0 % 2)) := by
  have h1 := within_range x.kd 2 (by decide); have h2 := within_range x.ep 3 (by decide); have h3 := within_range x.rd 3 (by decide); have h4 := within_range x.rp 4 (by decide)
  unfold voteT
  rw [word5 wVote [118, 111, 116, 101] rfl (by decide)]
  simp only [smVt]
  rw [encI_1 (by omega) (by omega), encI_1 h2.1 (by omega), encI_1 h3.1 (by omega), encI_1 h4.1 (by omega)]
  rfl
theorem denyT_sm (x : Dn) : denyT (smDn x) = [4, 100, 101, 110, 121, within x.rp 4, within x.ix 4] := by
  have h1 := within_range x.rp 4 (by decide); have h2 := within_range x.ix 4 (by decide)
  unfold denyT
  rw [word5 wDeny [100, 101, 110, 121] rfl (by decide)]
  simp only [smDn]
  rw [encI_1 h1.1 (by omega), encI_1 h2.1 (by omega)]
  rfl
theorem smH_inj {a b : Int} (h : smH a = smH b) : a = b := by
  unfold smH at h
  injection h
theorem sm_St (x y : St) : (stampT (smSt x) = stampT (smSt y)) ↔ (smSt x).cells = (smSt y).cells := by
  refine Iff.symm ?_
  rw [stampT_sm, stampT_sm]
  constructor
  · intro h
    have h1 : ([.int .i64 (smSt x).rp, .int .i64 (smSt x).cl, .int .i64 (smSt x).sq] : List Value) = _ := (List.append_inj h rfl).1
    have h2 := (List.append_inj h rfl).2
    have h3 := (List.append_inj h2 rfl).1
    have h4 := (List.append_inj h2 rfl).2
    simp only [List.cons.injEq, Value.int.injEq, and_true, true_and, smSt] at h1 h4
    have h5 := (List.map_inj_right (fun a b e => by injection e)).1 h3
    rw [h1.1, h1.2.1, h1.2.2, show smH (x.h.headD 0 % 2) = smH (y.h.headD 0 % 2) from h5, h4]
  · intro h
    have h0 := (List.append_inj h rfl).2
    have h1 := (List.append_inj h0 rfl).1
    have h2 := (List.append_inj h0 rfl).2
    have h3 := (List.append_inj h2 rfl).1
    have h4 := (List.append_inj h2 rfl).2
    simp only [List.cons.injEq, and_true] at h1 h4
    have e : smSt x = smSt y := by unfold smSt; rw [h1.1, h1.2.1, h1.2.2, h3, Int.ofNat.inj h4]
    rw [e]
theorem sm_Vt (x y : Vt) : (voteT (smVt x) = voteT (smVt y)) ↔ (smVt x).cells = (smVt y).cells := by
  refine Iff.symm ?_
  rw [voteT_sm, voteT_sm]
  constructor
  · intro h
    have h1 : ([.int .i64 (smVt x).kd, .int .i64 (smVt x).ep, .int .i64 (smVt x).rd, .int .i64 (smVt x).rp] : List Value) = _ := (List.append_inj h rfl).1
    have h2 := (List.append_inj h rfl).2
    have h3 := (List.append_inj h2 rfl).1
    simp only [List.cons.injEq, Value.int.injEq, and_true, true_and, smVt] at h1
    have h5 := (List.map_inj_right (fun a b e => by injection e)).1 h3
    rw [h1.1, h1.2.1, h1.2.2.1, h1.2.2.2, show smH (x.h.headD 0 % 2) = smH (y.h.headD 0 % 2) from h5]
  · intro h
    have h0 := (List.append_inj h rfl).2
    have h1 := (List.append_inj h0 rfl).1
    have h2 := (List.append_inj h0 rfl).2
    simp only [List.cons.injEq, and_true] at h1
    have e : smVt x = smVt y := by unfold smVt; rw [h1.1, h1.2.1, h1.2.2.1, h1.2.2.2, h2]
    rw [e]
theorem sm_Dn (x y : Dn) : (denyT (smDn x) = denyT (smDn y)) ↔ (smDn x).cells = (smDn y).cells := by
  refine Iff.symm ?_
  rw [denyT_sm, denyT_sm]
  simp [Dn.cells, smDn]
theorem sm_ax (x : St) (y : Vt) : ¬ stampT (smSt x) = voteT (smVt y) := by
  rw [stampT_sm, voteT_sm]
  intro h
  injection h with h1
  exact absurd h1 (by decide)
theorem sm_ap (x : St) (y : Dn) : ¬ stampT (smSt x) = denyT (smDn y) := by
  rw [stampT_sm, denyT_sm]
  intro h
  injection h with h1
  exact absurd h1 (by decide)
theorem sm_xp (x : Vt) (y : Dn) : ¬ voteT (smVt x) = denyT (smDn y) := by
  rw [voteT_sm, denyT_sm]
  intro h
  injection h with h1 h2
  injection h2 with h3
  exact absurd h3 (by decide)
theorem sm_ak (x : St) : ¬ stampT (smSt x) = ackT (smSt x) := by
  rw [stampT_sm, ackT_sm]
  intro h
  injection h with h1
  exact absurd h1 (by decide)
theorem Same_b {R R' : Nat → Prop} {N N' : Nat} {va vb : Value} {a b : List Int} {w : World} (ha : RdR R N w va a) (hb : RdR R' N' w vb b) {c : Bool} (h : decide (a = b) = c) :
    Calls Try.prog 18 #[va, vb] w fun e w' => e = .returned (.bool c) ∧ Mod (fun _ => False) w w' :=
  (Same_R ha hb).mono fun _ _ ⟨he, hm⟩ => ⟨he.trans (by rw [h]), hm⟩
theorem agg_guardQ (op : BinOp) (T : TypeId) (x y : Operand) (a b : Array Value) (h : Try.prog.eqGuardType Try.prog.depth T = false) (w : World) : (eqGuard op T x y (.agg a) (.agg b)).run Try.prog w = .ok () w := run_eqGuard_agg (P := Try.prog) w op T x y a b h
theorem smStampT_len (x : St) : (stampT (smSt x)).length ≤ 900000 := by rw [stampT_sm]; simp [smH]
theorem smAckT_len (x : St) : (ackT (smSt x)).length ≤ 900000 := by rw [ackT_sm]; simp [smH]
theorem smVoteT_len (x : Vt) : (voteT (smVt x)).length ≤ 900000 := by rw [voteT_sm]; simp [smH]
theorem smDenyT_len (x : Dn) : (denyT (smDn x)).length ≤ 900000 := by rw [denyT_sm]; simp
set_option maxHeartbeats 8000000 in
theorem LApt_any (xs xt : St) (xv xw : Vt) (xd xe : Dn) (w : World) (hxs : xs.OK) (hxt : xt.OK) (hxv : xv.OK) (hxw : xw.OK) (hxd : xd.OK) (hxe : xe.OK) :
    Calls Try.prog 3 #[.agg xs.cells.toArray, .agg xt.cells.toArray, .agg xv.cells.toArray, .agg xw.cells.toArray, .agg xd.cells.toArray, .agg xe.cells.toArray] w fun e w' => e = .returned (.bool true) ∧ Mod (fun _ => False) w w' := by
  have HOA := Lib.hid hxs
  have HOB := Lib.hid hxt
  have HOC := Lib.hid hxv
  have HOD := Lib.hid hxw
  have HOE := Lib.hid hxd
  have HOF := Lib.hid hxe
  clear hxs hxt hxv hxw hxd hxe
  go_enter Try.func3, Try.ntmps3
  go_upto_region 1 with (fail)
  obtain ⟨w1, hw1⟩ : ∃ zz, zz = ((((((w.alloc (.cells (xs.cells : List Value).toArray 30)).alloc (.cells (xt.cells : List Value).toArray 30)).alloc (.cells (xv.cells : List Value).toArray 32)).alloc (.cells (xw.cells : List Value).toArray 32)).alloc (.cells (xd.cells : List Value).toArray 34)).alloc (.cells (xe.cells : List Value).toArray 34)) := ⟨_, rfl⟩
  change Code.wp _ _ _ _ ((((((w.alloc (.cells (xs.cells : List Value).toArray 30)).alloc (.cells (xt.cells : List Value).toArray 30)).alloc (.cells (xv.cells : List Value).toArray 32)).alloc (.cells (xw.cells : List Value).toArray 32)).alloc (.cells (xd.cells : List Value).toArray 34)).alloc (.cells (xe.cells : List Value).toArray 34))
  rw [← hw1]
  have HB6 := Lib.hid (show Cs w1 (w.heap.size) (xs.cells : List Value).toArray 30 by rw [hw1]; exact (((((Cs.new _ _ _).alloc _).alloc _).alloc _).alloc _).alloc _)
  have HB7 := Lib.hid (show Cs w1 (w.heap.size + 1) (xt.cells : List Value).toArray 30 by rw [hw1]; exact ((((Cs_newN _ _ _ (by simp)).alloc _).alloc _).alloc _).alloc _)
  have HB8 := Lib.hid (show Cs w1 (w.heap.size + 2) (xv.cells : List Value).toArray 32 by rw [hw1]; exact (((Cs_newN _ _ _ (by simp)).alloc _).alloc _).alloc _)
  have HB9 := Lib.hid (show Cs w1 (w.heap.size + 3) (xw.cells : List Value).toArray 32 by rw [hw1]; exact ((Cs_newN _ _ _ (by simp)).alloc _).alloc _)
  have HB10 := Lib.hid (show Cs w1 (w.heap.size + 4) (xd.cells : List Value).toArray 34 by rw [hw1]; exact (Cs_newN _ _ _ (by simp)).alloc _)
  have HB11 := Lib.hid (show Cs w1 (w.heap.size + 5) (xe.cells : List Value).toArray 34 by rw [hw1]; exact Cs_newN _ _ _ (by simp))
  have hm : Mod (fun _ => False) w w1 := by rw [hw1]; exact ((((((Mod.refl _ _).alloc _).alloc _).alloc _).alloc _).alloc _).alloc _
  have HM0 := Lib.hid (show Mod (fun _ => False) w w1 from hm.mono (fun _ _ h => h.elim))
  have hs1 : w1.heap.size = w.heap.size + 6 := by rw [hw1]; simp
  clear hw1 hm
  go_upto_region 1 with (fail)
  generalize ha0 : Act.mk _ _ = a0
  have oe6 : a0.eval (.tmp 6) = .pointer (some ⟨w.heap.size, 0, none⟩) := by rw [← ha0]; rfl
  have oe7 : a0.eval (.tmp 7) = .pointer (some ⟨w.heap.size + 1, 0, none⟩) := by rw [← ha0]; rfl
  have hsz0 : a0.tmps.size = 116 := by rw [← ha0]; rfl
  have HA0 := Lib.hid ha0
  clear ha0
  refine wp_region_Q 116 hsz0 (by kernel_rfl) (by kernel_rfl) [20, 21, 22, 23, 120, 121] (by kernel_rfl) (by decide) (fun k => (k = w.heap.size) ∨ (k = w.heap.size + 1)) (fun k j => (k = 2 ∧ ((j = w.heap.size))) ∨ (k = 3 ∧ ((j = w.heap.size + 1)))) (by intro k j h; (try dsimp only at h ⊢); omega) [qi (.agg (xs.cells).toArray), qi (.agg (smSt xs).cells.toArray), qi (.agg (xt.cells).toArray), qi (.agg (smSt xt).cells.toArray), qv 2, qv 3] ⟨qi_stable, qi_stable, qi_stable, qi_stable, qv_stable, qv_stable, trivial⟩ [1, 3, 4, 5] (by kernel_rfl) (by decide) (by kernel_rfl) [] (by kernel_rfl) (by intro r hr; cases hr) (by intro r hr; cases hr) (by intro r hr; cases hr) ⟨?_, ?_, ?_, ?_, ?_, ?_, trivial⟩ ?_
  · refine stepq_env rfl rfl rfl fun Z tr act w' hZ hm hm0 hout hsz hd hub hpre => ?_
    refine qe_run rfl (wanted_none rfl) (ex_loadA rfl Try.underlying30 rfl (off := 0) (cs := (xs.cells)) (by rw [St.len HOA.out]; kernel_rfl) ((hout 6 (by decide)).trans oe6) (Cs.whole (HB6.out.mod hm0 (by intro h2; have hu := hub 2 4 rfl (by kernel_rfl); (try dsimp only at h2); rcases h2 with ⟨h0, kk, hk, h2⟩ | h2 <;> omega)))) QE.refl ?_
    rfl
  · exact stepq_chain rfl
  · refine stepq_env rfl rfl rfl fun Z tr act w' hZ hm hm0 hout hsz hd hub hpre => ?_
    refine qe_run rfl (wanted_none rfl) (ex_loadA rfl Try.underlying30 rfl (off := 0) (cs := (xt.cells)) (by rw [St.len HOB.out]; kernel_rfl) ((hout 7 (by decide)).trans oe7) (Cs.whole (HB7.out.mod hm0 (by intro h2; have hu := hub 3 5 rfl (by kernel_rfl); (try dsimp only at h2); rcases h2 with ⟨h0, kk, hk, h2⟩ | h2 <;> omega)))) QE.refl ?_
    rfl
  · exact stepq_chain rfl
  · exact stepq_chain rfl
  · exact stepq_chain rfl
  intro u1_0 hr
  have zu1_0 := hr.size
  have Hx1 := Lib.hid (HB6.out.mod hr (by intro h2; (try dsimp only at h2); (try simp only [false_or] at h2); omega))
  have Hx2 := Lib.hid (HB7.out.mod hr (by intro h2; (try dsimp only at h2); (try simp only [false_or] at h2); omega))
  have Hx3 := Lib.hid (HB8.out.mod hr (by intro h2; (try dsimp only at h2); (try simp only [false_or] at h2); omega))
  have Hx4 := Lib.hid (HB9.out.mod hr (by intro h2; (try dsimp only at h2); (try simp only [false_or] at h2); omega))
  have Hx5 := Lib.hid (HB10.out.mod hr (by intro h2; (try dsimp only at h2); (try simp only [false_or] at h2); omega))
  have Hx6 := Lib.hid (HB11.out.mod hr (by intro h2; (try dsimp only at h2); (try simp only [false_or] at h2); omega))
  have Hx7 := Lib.hid (HM0.out.trans hr (by intro k h1 h2; (try dsimp only at h2 ⊢); (try simp only [false_or] at h2 ⊢); omega))
  clear HB6 HB7 HB8 HB9 HB10 HB11 HM0
  clear hr
  refine QChain.cons rfl fun Z act hYZ hZ hout hsz hd hpre => ?_
  have h0 := hd ⟨0, .data⟩ (by simp) rfl _ rfl
  have ea20 : act.eval (.tmp 20) = .agg (xs.cells).toArray := h0
  refine qc_call (args := #[.agg (xs.cells).toArray]) rfl (wanted_none rfl) (by rw [ex_callF rfl Try.func11 (by kernel_rfl) (by kernel_rfl)]; exact congrArg (fun z => Result.ok (Next.enter _ z) _) (by simp only [List.map_toArray, List.map_cons, List.map_nil, ea20]; try rfl)) (smallStamp_any xs _ HOA.out) ?_
  rintro e u1_1a ⟨rfl, hm⟩
  have zu1_1a := hm.size
  refine ⟨_, rfl, hm.mono (fun _ _ h => h.elim), (fun _ => rfl), ?_⟩
  intro u1_1 hr
  have zu1_1 := hr.size
  have hmr := Mod.after hm hr
  have Hx8 := Lib.hid (Hx1.out.mod hmr (by intro h2; (try dsimp only at h2); (try simp only [false_or] at h2); omega))
  have Hx9 := Lib.hid (Hx2.out.mod hmr (by intro h2; (try dsimp only at h2); (try simp only [false_or] at h2); omega))
  have Hx10 := Lib.hid (Hx3.out.mod hmr (by intro h2; (try dsimp only at h2); (try simp only [false_or] at h2); omega))
  have Hx11 := Lib.hid (Hx4.out.mod hmr (by intro h2; (try dsimp only at h2); (try simp only [false_or] at h2); omega))
  have Hx12 := Lib.hid (Hx5.out.mod hmr (by intro h2; (try dsimp only at h2); (try simp only [false_or] at h2); omega))
  have Hx13 := Lib.hid (Hx6.out.mod hmr (by intro h2; (try dsimp only at h2); (try simp only [false_or] at h2); omega))
  have Hx14 := Lib.hid (Hx7.out.trans hmr (by intro k h1 h2; (try dsimp only at h2 ⊢); (try simp only [false_or] at h2 ⊢); omega))
  clear Hx1 Hx2 Hx3 Hx4 Hx5 Hx6 Hx7
  clear hmr
  clear hm hr hYZ hZ hout hsz hd hpre ea20 h0
  refine QChain.cons rfl fun Z act hYZ hZ hout hsz hd hpre => ?_
  have h2 := hd ⟨2, .data⟩ (by simp) rfl _ rfl
  have ea22 : act.eval (.tmp 22) = .agg (xt.cells).toArray := h2
  refine qc_call (args := #[.agg (xt.cells).toArray]) rfl (wanted_none rfl) (by rw [ex_callF rfl Try.func11 (by kernel_rfl) (by kernel_rfl)]; exact congrArg (fun z => Result.ok (Next.enter _ z) _) (by simp only [List.map_toArray, List.map_cons, List.map_nil, ea22]; try rfl)) (smallStamp_any xt _ HOB.out) ?_
  rintro e u1_2a ⟨rfl, hm⟩
  have zu1_2a := hm.size
  refine ⟨_, rfl, hm.mono (fun _ _ h => h.elim), (fun _ => rfl), ?_⟩
  intro u1_2 hr
  have zu1_2 := hr.size
  have hmr := Mod.after hm hr
  have Hx15 := Lib.hid (Hx8.out.mod hmr (by intro h2; (try dsimp only at h2); (try simp only [false_or] at h2); omega))
  have Hx16 := Lib.hid (Hx9.out.mod hmr (by intro h2; (try dsimp only at h2); (try simp only [false_or] at h2); omega))
  have Hx17 := Lib.hid (Hx10.out.mod hmr (by intro h2; (try dsimp only at h2); (try simp only [false_or] at h2); omega))
  have Hx18 := Lib.hid (Hx11.out.mod hmr (by intro h2; (try dsimp only at h2); (try simp only [false_or] at h2); omega))
  have Hx19 := Lib.hid (Hx12.out.mod hmr (by intro h2; (try dsimp only at h2); (try simp only [false_or] at h2); omega))
  have Hx20 := Lib.hid (Hx13.out.mod hmr (by intro h2; (try dsimp only at h2); (try simp only [false_or] at h2); omega))
  have Hx21 := Lib.hid (Hx14.out.trans hmr (by intro k h1 h2; (try dsimp only at h2 ⊢); (try simp only [false_or] at h2 ⊢); omega))
  clear Hx8 Hx9 Hx10 Hx11 Hx12 Hx13 Hx14
  clear hmr
  clear hm hr hYZ hZ hout hsz hd hpre ea22 h2
  refine QChain.cons rfl fun Z act hYZ hZ hout hsz hd hpre => ?_
  have h1 := hd ⟨1, .data⟩ (by simp) rfl _ rfl
  refine qc_store rfl (wanted_none rfl) rfl Hx15.out (off := 0) (vs := (smSt xs).cells) (by rw [St.len (smSt_ok xs)]; kernel_rfl) (St.one _) (by have h1 := St.len (smSt_ok xs); have h2 := (St.len HOA.out); rw [List.size_toArray]; omega) ((hout 6 (by decide)).trans oe6) (by rw [show act.eval ((.tmp 21)) = _ from h1]; rfl) ?_
  intro u1_3a qc0 hm
  have qB6 : Cs u1_3a (w.heap.size) ((smSt xs).cells : List Value).toArray 30 := by rw [show lay _ 0 _ = ((smSt xs).cells : List Value).toArray from lay_whole _ _ (by have h1 := St.len (smSt_ok xs); have h2 := (St.len HOA.out); rw [List.size_toArray]; omega)] at qc0; exact qc0
  clear qc0
  have zu1_3a := hm.size
  refine ⟨hm.mono (by intro k hk h; (try dsimp only at h ⊢); (try simp only [false_or, or_false, true_and] at h ⊢); omega), (fun _ => rfl), ?_⟩
  intro u1_3 hr
  have zu1_3 := hr.size
  have Hx22 := Lib.hid (qB6.mod hr (by intro h2; (try dsimp only at h2); (try simp only [false_or] at h2); omega))
  have hmr := hm.two hr
  have Hx23 := Lib.hid (Hx16.out.mod hmr (by intro h2; (try dsimp only at h2); (try simp only [false_or] at h2); omega))
  have Hx24 := Lib.hid (Hx17.out.mod hmr (by intro h2; (try dsimp only at h2); (try simp only [false_or] at h2); omega))
  have Hx25 := Lib.hid (Hx18.out.mod hmr (by intro h2; (try dsimp only at h2); (try simp only [false_or] at h2); omega))
  have Hx26 := Lib.hid (Hx19.out.mod hmr (by intro h2; (try dsimp only at h2); (try simp only [false_or] at h2); omega))
  have Hx27 := Lib.hid (Hx20.out.mod hmr (by intro h2; (try dsimp only at h2); (try simp only [false_or] at h2); omega))
  have Hx28 := Lib.hid (Hx21.out.trans hmr (by intro k h1 h2; (try dsimp only at h2 ⊢); (try simp only [false_or] at h2 ⊢); omega))
  clear Hx16 Hx17 Hx18 Hx19 Hx20 Hx21
  clear hmr
  clear hm hr hYZ hZ hout hsz hd hpre qB6 Hx15 h1
  refine QChain.cons rfl fun Z act hYZ hZ hout hsz hd hpre => ?_
  have h3 := hd ⟨3, .data⟩ (by simp) rfl _ rfl
  refine qc_store rfl (wanted_none rfl) rfl Hx23.out (off := 0) (vs := (smSt xt).cells) (by rw [St.len (smSt_ok xt)]; kernel_rfl) (St.one _) (by have h1 := St.len (smSt_ok xt); have h2 := (St.len HOB.out); rw [List.size_toArray]; omega) ((hout 7 (by decide)).trans oe7) (by rw [show act.eval ((.tmp 23)) = _ from h3]; rfl) ?_
  intro u1_4a qc0 hm
  have qB7 : Cs u1_4a (w.heap.size + 1) ((smSt xt).cells : List Value).toArray 30 := by rw [show lay _ 0 _ = ((smSt xt).cells : List Value).toArray from lay_whole _ _ (by have h1 := St.len (smSt_ok xt); have h2 := (St.len HOB.out); rw [List.size_toArray]; omega)] at qc0; exact qc0
  clear qc0
  have zu1_4a := hm.size
  refine ⟨hm.mono (by intro k hk h; (try dsimp only at h ⊢); (try simp only [false_or, or_false, true_and] at h ⊢); omega), (fun _ => rfl), ?_⟩
  intro u1_4 hr
  have zu1_4 := hr.size
  have Hx29 := Lib.hid (qB7.mod hr (by intro h2; (try dsimp only at h2); (try simp only [false_or] at h2); omega))
  have hmr := hm.two hr
  have Hx30 := Lib.hid (Hx22.out.mod hmr (by intro h2; (try dsimp only at h2); (try simp only [false_or] at h2); omega))
  have Hx31 := Lib.hid (Hx24.out.mod hmr (by intro h2; (try dsimp only at h2); (try simp only [false_or] at h2); omega))
  have Hx32 := Lib.hid (Hx25.out.mod hmr (by intro h2; (try dsimp only at h2); (try simp only [false_or] at h2); omega))
  have Hx33 := Lib.hid (Hx26.out.mod hmr (by intro h2; (try dsimp only at h2); (try simp only [false_or] at h2); omega))
  have Hx34 := Lib.hid (Hx27.out.mod hmr (by intro h2; (try dsimp only at h2); (try simp only [false_or] at h2); omega))
  have Hx35 := Lib.hid (Hx28.out.trans hmr (by intro k h1 h2; (try dsimp only at h2 ⊢); (try simp only [false_or] at h2 ⊢); omega))
  clear Hx22 Hx24 Hx25 Hx26 Hx27 Hx28
  clear hmr
  clear hm hr hYZ hZ hout hsz hd hpre qB7 Hx23 h3
  refine QChain.nil fun vs hl hzz hrows hne => ?_
  obtain ⟨Z, hYZ, hZb, hV⟩ := hzz
  obtain ⟨v0, vs0, rfl, hl0⟩ := list_cons hl
  obtain ⟨v1, vs1, rfl, hl1⟩ := list_cons hl0
  obtain ⟨v2, vs2, rfl, hl2⟩ := list_cons hl1
  obtain ⟨v3, vs3, rfl, hl3⟩ := list_cons hl2
  obtain ⟨v4, vs4, rfl, hl4⟩ := list_cons hl3
  obtain ⟨v5, vs5, rfl, hl5⟩ := list_cons hl4
  obtain rfl := list_nil hl5
  clear hl hl0 hl1 hl2 hl3 hl4 hl5
  obtain rfl : v1 = .agg (smSt xs).cells.toArray := hV 1 _ rfl
  obtain rfl : v3 = .agg (smSt xt).cells.toArray := hV 3 _ rfl
  have ha0 := HA0.out
  subst ha0
  clear HA0 hV hYZ hZb hsz0 hrows hne oe6 oe7
  simp only [putAll, Act.put, List.setIfInBounds_toArray, List.set_cons_zero, List.set_cons_succ, List.set_nil]
  go_upto_region 2 with (fail)
  generalize ha0 : Act.mk _ _ = a0
  have oe8 : a0.eval (.tmp 8) = .pointer (some ⟨w.heap.size + 2, 0, none⟩) := by rw [← ha0]; rfl
  have oe9 : a0.eval (.tmp 9) = .pointer (some ⟨w.heap.size + 3, 0, none⟩) := by rw [← ha0]; rfl
  have hsz0 : a0.tmps.size = 116 := by rw [← ha0]; rfl
  have HA0 := Lib.hid ha0
  clear ha0
  refine wp_region_Q 116 hsz0 (by kernel_rfl) (by kernel_rfl) [24, 25, 26, 27, 120, 121] (by kernel_rfl) (by decide) (fun k => (k = w.heap.size + 2) ∨ (k = w.heap.size + 3)) (fun k j => (k = 2 ∧ ((j = w.heap.size + 2))) ∨ (k = 3 ∧ ((j = w.heap.size + 3)))) (by intro k j h; (try dsimp only at h ⊢); omega) [qi (.agg (xv.cells).toArray), qi (.agg (smVt xv).cells.toArray), qi (.agg (xw.cells).toArray), qi (.agg (smVt xw).cells.toArray), qv 2, qv 3] ⟨qi_stable, qi_stable, qi_stable, qi_stable, qv_stable, qv_stable, trivial⟩ [1, 3, 4, 5] (by kernel_rfl) (by decide) (by kernel_rfl) [] (by kernel_rfl) (by intro r hr; cases hr) (by intro r hr; cases hr) (by intro r hr; cases hr) ⟨?_, ?_, ?_, ?_, ?_, ?_, trivial⟩ ?_
  · refine stepq_env rfl rfl rfl fun Z tr act w' hZ hm hm0 hout hsz hd hub hpre => ?_
    refine qe_run rfl (wanted_none rfl) (ex_loadA rfl Try.underlying32 rfl (off := 0) (cs := (xv.cells)) (by rw [Vt.len HOC.out]; kernel_rfl) ((hout 8 (by decide)).trans oe8) (Cs.whole (Hx31.out.mod hm0 (by intro h2; have hu := hub 2 4 rfl (by kernel_rfl); (try dsimp only at h2); rcases h2 with ⟨h0, kk, hk, h2⟩ | h2 <;> omega)))) QE.refl ?_
    rfl
  · exact stepq_chain rfl
  · refine stepq_env rfl rfl rfl fun Z tr act w' hZ hm hm0 hout hsz hd hub hpre => ?_
    refine qe_run rfl (wanted_none rfl) (ex_loadA rfl Try.underlying32 rfl (off := 0) (cs := (xw.cells)) (by rw [Vt.len HOD.out]; kernel_rfl) ((hout 9 (by decide)).trans oe9) (Cs.whole (Hx32.out.mod hm0 (by intro h2; have hu := hub 3 5 rfl (by kernel_rfl); (try dsimp only at h2); rcases h2 with ⟨h0, kk, hk, h2⟩ | h2 <;> omega)))) QE.refl ?_
    rfl
  · exact stepq_chain rfl
  · exact stepq_chain rfl
  · exact stepq_chain rfl
  intro u2_0 hr
  have zu2_0 := hr.size
  have Hx36 := Lib.hid (Hx30.out.mod hr (by intro h2; (try dsimp only at h2); (try simp only [false_or] at h2); omega))
  have Hx37 := Lib.hid (Hx29.out.mod hr (by intro h2; (try dsimp only at h2); (try simp only [false_or] at h2); omega))
  have Hx38 := Lib.hid (Hx31.out.mod hr (by intro h2; (try dsimp only at h2); (try simp only [false_or] at h2); omega))
  have Hx39 := Lib.hid (Hx32.out.mod hr (by intro h2; (try dsimp only at h2); (try simp only [false_or] at h2); omega))
  have Hx40 := Lib.hid (Hx33.out.mod hr (by intro h2; (try dsimp only at h2); (try simp only [false_or] at h2); omega))
  have Hx41 := Lib.hid (Hx34.out.mod hr (by intro h2; (try dsimp only at h2); (try simp only [false_or] at h2); omega))
  have Hx42 := Lib.hid (Hx35.out.trans hr (by intro k h1 h2; (try dsimp only at h2 ⊢); (try simp only [false_or] at h2 ⊢); omega))
  clear Hx30 Hx29 Hx31 Hx32 Hx33 Hx34 Hx35
  clear hr
  refine QChain.cons rfl fun Z act hYZ hZ hout hsz hd hpre => ?_
  have h0 := hd ⟨0, .data⟩ (by simp) rfl _ rfl
  have ea24 : act.eval (.tmp 24) = .agg (xv.cells).toArray := h0
  refine qc_call (args := #[.agg (xv.cells).toArray]) rfl (wanted_none rfl) (by rw [ex_callF rfl Try.func12 (by kernel_rfl) (by kernel_rfl)]; exact congrArg (fun z => Result.ok (Next.enter _ z) _) (by simp only [List.map_toArray, List.map_cons, List.map_nil, ea24]; try rfl)) (smallVote_any xv _ HOC.out) ?_
  rintro e u2_1a ⟨rfl, hm⟩
  have zu2_1a := hm.size
  refine ⟨_, rfl, hm.mono (fun _ _ h => h.elim), (fun _ => rfl), ?_⟩
  intro u2_1 hr
  have zu2_1 := hr.size
  have hmr := Mod.after hm hr
  have Hx43 := Lib.hid (Hx36.out.mod hmr (by intro h2; (try dsimp only at h2); (try simp only [false_or] at h2); omega))
  have Hx44 := Lib.hid (Hx37.out.mod hmr (by intro h2; (try dsimp only at h2); (try simp only [false_or] at h2); omega))
  have Hx45 := Lib.hid (Hx38.out.mod hmr (by intro h2; (try dsimp only at h2); (try simp only [false_or] at h2); omega))
  have Hx46 := Lib.hid (Hx39.out.mod hmr (by intro h2; (try dsimp only at h2); (try simp only [false_or] at h2); omega))
  have Hx47 := Lib.hid (Hx40.out.mod hmr (by intro h2; (try dsimp only at h2); (try simp only [false_or] at h2); omega))
  have Hx48 := Lib.hid (Hx41.out.mod hmr (by intro h2; (try dsimp only at h2); (try simp only [false_or] at h2); omega))
  have Hx49 := Lib.hid (Hx42.out.trans hmr (by intro k h1 h2; (try dsimp only at h2 ⊢); (try simp only [false_or] at h2 ⊢); omega))
  clear Hx36 Hx37 Hx38 Hx39 Hx40 Hx41 Hx42
  clear hmr
  clear hm hr hYZ hZ hout hsz hd hpre ea24 h0
  refine QChain.cons rfl fun Z act hYZ hZ hout hsz hd hpre => ?_
  have h2 := hd ⟨2, .data⟩ (by simp) rfl _ rfl
  have ea26 : act.eval (.tmp 26) = .agg (xw.cells).toArray := h2
  refine qc_call (args := #[.agg (xw.cells).toArray]) rfl (wanted_none rfl) (by rw [ex_callF rfl Try.func12 (by kernel_rfl) (by kernel_rfl)]; exact congrArg (fun z => Result.ok (Next.enter _ z) _) (by simp only [List.map_toArray, List.map_cons, List.map_nil, ea26]; try rfl)) (smallVote_any xw _ HOD.out) ?_
  rintro e u2_2a ⟨rfl, hm⟩
  have zu2_2a := hm.size
  refine ⟨_, rfl, hm.mono (fun _ _ h => h.elim), (fun _ => rfl), ?_⟩
  intro u2_2 hr
  have zu2_2 := hr.size
  have hmr := Mod.after hm hr
  have Hx50 := Lib.hid (Hx43.out.mod hmr (by intro h2; (try dsimp only at h2); (try simp only [false_or] at h2); omega))
  have Hx51 := Lib.hid (Hx44.out.mod hmr (by intro h2; (try dsimp only at h2); (try simp only [false_or] at h2); omega))
  have Hx52 := Lib.hid (Hx45.out.mod hmr (by intro h2; (try dsimp only at h2); (try simp only [false_or] at h2); omega))
  have Hx53 := Lib.hid (Hx46.out.mod hmr (by intro h2; (try dsimp only at h2); (try simp only [false_or] at h2); omega))
  have Hx54 := Lib.hid (Hx47.out.mod hmr (by intro h2; (try dsimp only at h2); (try simp only [false_or] at h2); omega))
  have Hx55 := Lib.hid (Hx48.out.mod hmr (by intro h2; (try dsimp only at h2); (try simp only [false_or] at h2); omega))
  have Hx56 := Lib.hid (Hx49.out.trans hmr (by intro k h1 h2; (try dsimp only at h2 ⊢); (try simp only [false_or] at h2 ⊢); omega))
  clear Hx43 Hx44 Hx45 Hx46 Hx47 Hx48 Hx49
  clear hmr
  clear hm hr hYZ hZ hout hsz hd hpre ea26 h2
  refine QChain.cons rfl fun Z act hYZ hZ hout hsz hd hpre => ?_
  have h1 := hd ⟨1, .data⟩ (by simp) rfl _ rfl
  refine qc_store rfl (wanted_none rfl) rfl Hx52.out (off := 0) (vs := (smVt xv).cells) (by rw [Vt.len (smVt_ok xv)]; kernel_rfl) (Vt.one _) (by have h1 := Vt.len (smVt_ok xv); have h2 := (Vt.len HOC.out); rw [List.size_toArray]; omega) ((hout 8 (by decide)).trans oe8) (by rw [show act.eval ((.tmp 25)) = _ from h1]; rfl) ?_
  intro u2_3a qc0 hm
  have qB8 : Cs u2_3a (w.heap.size + 2) ((smVt xv).cells : List Value).toArray 32 := by rw [show lay _ 0 _ = ((smVt xv).cells : List Value).toArray from lay_whole _ _ (by have h1 := Vt.len (smVt_ok xv); have h2 := (Vt.len HOC.out); rw [List.size_toArray]; omega)] at qc0; exact qc0
  clear qc0
  have zu2_3a := hm.size
  refine ⟨hm.mono (by intro k hk h; (try dsimp only at h ⊢); (try simp only [false_or, or_false, true_and] at h ⊢); omega), (fun _ => rfl), ?_⟩
  intro u2_3 hr
  have zu2_3 := hr.size
  have Hx57 := Lib.hid (qB8.mod hr (by intro h2; (try dsimp only at h2); (try simp only [false_or] at h2); omega))
  have hmr := hm.two hr
  have Hx58 := Lib.hid (Hx50.out.mod hmr (by intro h2; (try dsimp only at h2); (try simp only [false_or] at h2); omega))
  have Hx59 := Lib.hid (Hx51.out.mod hmr (by intro h2; (try dsimp only at h2); (try simp only [false_or] at h2); omega))
  have Hx60 := Lib.hid (Hx53.out.mod hmr (by intro h2; (try dsimp only at h2); (try simp only [false_or] at h2); omega))
  have Hx61 := Lib.hid (Hx54.out.mod hmr (by intro h2; (try dsimp only at h2); (try simp only [false_or] at h2); omega))
  have Hx62 := Lib.hid (Hx55.out.mod hmr (by intro h2; (try dsimp only at h2); (try simp only [false_or] at h2); omega))
  have Hx63 := Lib.hid (Hx56.out.trans hmr (by intro k h1 h2; (try dsimp only at h2 ⊢); (try simp only [false_or] at h2 ⊢); omega))
  clear Hx50 Hx51 Hx53 Hx54 Hx55 Hx56
  clear hmr
  clear hm hr hYZ hZ hout hsz hd hpre qB8 Hx52 h1
  refine QChain.cons rfl fun Z act hYZ hZ hout hsz hd hpre => ?_
  have h3 := hd ⟨3, .data⟩ (by simp) rfl _ rfl
  refine qc_store rfl (wanted_none rfl) rfl Hx60.out (off := 0) (vs := (smVt xw).cells) (by rw [Vt.len (smVt_ok xw)]; kernel_rfl) (Vt.one _) (by have h1 := Vt.len (smVt_ok xw); have h2 := (Vt.len HOD.out); rw [List.size_toArray]; omega) ((hout 9 (by decide)).trans oe9) (by rw [show act.eval ((.tmp 27)) = _ from h3]; rfl) ?_
  intro u2_4a qc0 hm
  have qB9 : Cs u2_4a (w.heap.size + 3) ((smVt xw).cells : List Value).toArray 32 := by rw [show lay _ 0 _ = ((smVt xw).cells : List Value).toArray from lay_whole _ _ (by have h1 := Vt.len (smVt_ok xw); have h2 := (Vt.len HOD.out); rw [List.size_toArray]; omega)] at qc0; exact qc0
  clear qc0
  have zu2_4a := hm.size
  refine ⟨hm.mono (by intro k hk h; (try dsimp only at h ⊢); (try simp only [false_or, or_false, true_and] at h ⊢); omega), (fun _ => rfl), ?_⟩
  intro u2_4 hr
  have zu2_4 := hr.size
  have Hx64 := Lib.hid (qB9.mod hr (by intro h2; (try dsimp only at h2); (try simp only [false_or] at h2); omega))
  have hmr := hm.two hr
  have Hx65 := Lib.hid (Hx58.out.mod hmr (by intro h2; (try dsimp only at h2); (try simp only [false_or] at h2); omega))
  have Hx66 := Lib.hid (Hx59.out.mod hmr (by intro h2; (try dsimp only at h2); (try simp only [false_or] at h2); omega))
  have Hx67 := Lib.hid (Hx57.out.mod hmr (by intro h2; (try dsimp only at h2); (try simp only [false_or] at h2); omega))
  have Hx68 := Lib.hid (Hx61.out.mod hmr (by intro h2; (try dsimp only at h2); (try simp only [false_or] at h2); omega))
  have Hx69 := Lib.hid (Hx62.out.mod hmr (by intro h2; (try dsimp only at h2); (try simp only [false_or] at h2); omega))
  have Hx70 := Lib.hid (Hx63.out.trans hmr (by intro k h1 h2; (try dsimp only at h2 ⊢); (try simp only [false_or] at h2 ⊢); omega))
  clear Hx58 Hx59 Hx57 Hx61 Hx62 Hx63
  clear hmr
  clear hm hr hYZ hZ hout hsz hd hpre qB9 Hx60 h3
  refine QChain.nil fun vs hl hzz hrows hne => ?_
  obtain ⟨Z, hYZ, hZb, hV⟩ := hzz
  obtain ⟨v0, vs0, rfl, hl0⟩ := list_cons hl
  obtain ⟨v1, vs1, rfl, hl1⟩ := list_cons hl0
  obtain ⟨v2, vs2, rfl, hl2⟩ := list_cons hl1
  obtain ⟨v3, vs3, rfl, hl3⟩ := list_cons hl2
  obtain ⟨v4, vs4, rfl, hl4⟩ := list_cons hl3
  obtain ⟨v5, vs5, rfl, hl5⟩ := list_cons hl4
  obtain rfl := list_nil hl5
  clear hl hl0 hl1 hl2 hl3 hl4 hl5
  obtain rfl : v1 = .agg (smVt xv).cells.toArray := hV 1 _ rfl
  obtain rfl : v3 = .agg (smVt xw).cells.toArray := hV 3 _ rfl
  have ha0 := HA0.out
  subst ha0
  clear HA0 hV hYZ hZb hsz0 hrows hne oe8 oe9
  simp only [putAll, Act.put, List.setIfInBounds_toArray, List.set_cons_zero, List.set_cons_succ, List.set_nil]
  go_upto_region 3 with (fail)
  generalize ha0 : Act.mk _ _ = a0
  have oe10 : a0.eval (.tmp 10) = .pointer (some ⟨w.heap.size + 4, 0, none⟩) := by rw [← ha0]; rfl
  have oe11 : a0.eval (.tmp 11) = .pointer (some ⟨w.heap.size + 5, 0, none⟩) := by rw [← ha0]; rfl
  have hsz0 : a0.tmps.size = 116 := by rw [← ha0]; rfl
  have HA0 := Lib.hid ha0
  clear ha0
  refine wp_region_Q 116 hsz0 (by kernel_rfl) (by kernel_rfl) [28, 29, 30, 31, 32, 33, 34, 35, 36, 37, 38, 39, 40, 41, 130, 131] (by kernel_rfl) (by decide) (fun k => (k = w.heap.size + 4) ∨ (k = w.heap.size + 5)) (fun k j => (k = 0 ∧ ((j = w.heap.size + 4))) ∨ (k = 1 ∧ ((j = w.heap.size + 5)))) (by intro k j h; (try dsimp only at h ⊢); omega) [qi (.pointer (some ⟨w.heap.size + 4, 0, none⟩)), qi (.int .i64 xd.rp), qi (.int .i64 (within xd.rp 4)), qi (.pointer (some ⟨w.heap.size + 4, 1, none⟩)), qi (.int .i64 xd.ix), qi (.int .i64 (within xd.ix 4)), qi (.agg (smDn xd).cells.toArray), qi (.pointer (some ⟨w.heap.size + 5, 0, none⟩)), qi (.int .i64 xe.rp), qi (.int .i64 (within xe.rp 4)), qi (.pointer (some ⟨w.heap.size + 5, 1, none⟩)), qi (.int .i64 xe.ix), qi (.int .i64 (within xe.ix 4)), qi (.agg (smDn xe).cells.toArray), qv 0, qv 1] ⟨qi_stable, qi_stable, qi_stable, qi_stable, qi_stable, qi_stable, qi_stable, qi_stable, qi_stable, qi_stable, qi_stable, qi_stable, qi_stable, qi_stable, qv_stable, qv_stable, trivial⟩ [14, 15] (by kernel_rfl) (by decide) (by kernel_rfl) [] (by kernel_rfl) (by intro r hr; cases hr) (by intro r hr; cases hr) (by intro r hr; cases hr) ⟨?_, ?_, ?_, ?_, ?_, ?_, ?_, ?_, ?_, ?_, ?_, ?_, ?_, ?_, ?_, ?_, trivial⟩ ?_
  · refine stepq_env rfl rfl rfl fun Z tr act w' hZ hm hm0 hout hsz hd hub hpre => ?_
    refine qe_run rfl (wanted_none rfl) (ex_field rfl Try.underlying34 rfl (by kernel_rfl) ((hout 10 (by decide)).trans oe10)) QE.refl ?_
    rfl
  · refine stepq_env rfl rfl rfl fun Z tr act w' hZ hm hm0 hout hsz hd hub hpre => ?_
    have h0 := hd ⟨0, .data⟩ (by simp) rfl _ rfl
    refine qe_run rfl (wanted_none rfl) (ex_load1 rfl Try.underlying3 rfl h0 (Cs.lit1 (Hx68.out.mod hm0 (by intro h2; have hu := hub 0 14 rfl (by kernel_rfl); (try dsimp only at h2); rcases h2 with ⟨h0, kk, hk, h2⟩ | h2 <;> omega)) rfl)) QE.refl ?_
    rfl
  · refine stepq_env rfl rfl rfl fun Z tr act w' hZ hm hm0 hout hsz hd hub hpre => ?_
    have h1 := hd ⟨1, .data⟩ (by simp) rfl _ rfl
    have ea29 : act.eval (.tmp 29) = .int .i64 xd.rp := h1
    refine qe_call (args := #[.int .i64 xd.rp, .int .i64 4]) rfl (wanted_none rfl) (by rw [ex_callF rfl Try.func13 (by kernel_rfl) (by kernel_rfl)]; exact congrArg (fun z => Result.ok (Next.enter _ z) _) (by simp only [List.map_toArray, List.map_cons, List.map_nil, ea29]; try rfl)) (Within_any xd.rp 4 (by decide) (by decide) HOE.out.rp _) ?_
    rintro e w2 ⟨rfl, rfl⟩
    exact ⟨_, rfl, QE.refl, rfl⟩
  · refine stepq_env rfl rfl rfl fun Z tr act w' hZ hm hm0 hout hsz hd hub hpre => ?_
    refine qe_run rfl (wanted_none rfl) (ex_field rfl Try.underlying34 rfl (by kernel_rfl) ((hout 10 (by decide)).trans oe10)) QE.refl ?_
    rfl
  · refine stepq_env rfl rfl rfl fun Z tr act w' hZ hm hm0 hout hsz hd hub hpre => ?_
    have h3 := hd ⟨3, .data⟩ (by simp) rfl _ rfl
    refine qe_run rfl (wanted_none rfl) (ex_load1 rfl Try.underlying3 rfl h3 (Cs.lit1 (Hx68.out.mod hm0 (by intro h2; have hu := hub 0 14 rfl (by kernel_rfl); (try dsimp only at h2); rcases h2 with ⟨h0, kk, hk, h2⟩ | h2 <;> omega)) rfl)) QE.refl ?_
    rfl
  · refine stepq_env rfl rfl rfl fun Z tr act w' hZ hm hm0 hout hsz hd hub hpre => ?_
    have h4 := hd ⟨4, .data⟩ (by simp) rfl _ rfl
    have ea32 : act.eval (.tmp 32) = .int .i64 xd.ix := h4
    refine qe_call (args := #[.int .i64 xd.ix, .int .i64 4]) rfl (wanted_none rfl) (by rw [ex_callF rfl Try.func13 (by kernel_rfl) (by kernel_rfl)]; exact congrArg (fun z => Result.ok (Next.enter _ z) _) (by simp only [List.map_toArray, List.map_cons, List.map_nil, ea32]; try rfl)) (Within_any xd.ix 4 (by decide) (by decide) HOE.out.ix _) ?_
    rintro e w2 ⟨rfl, rfl⟩
    exact ⟨_, rfl, QE.refl, rfl⟩
  · refine stepq_env rfl rfl rfl fun Z tr act w' hZ hm hm0 hout hsz hd hub hpre => ?_
    have h2 := hd ⟨2, .data⟩ (by simp) rfl _ rfl
    have h5 := hd ⟨5, .data⟩ (by simp) rfl _ rfl
    refine qe_run rfl (wanted_none rfl) (ex_build rfl (z := [.int .i64 0, .int .i64 0, .int .i64 0, .int .i64 0]) (places := [(0, 1), (1, 1), (2, 2)]) (by kernel_rfl) (parts := [(0, .int .i64 (within xd.rp 4)), (1, .int .i64 (within xd.ix 4))]) (by simp only [List.map_toArray, List.map_cons, List.map_nil, show act.eval (.tmp 30) = _ from h2, show act.eval (.tmp 33) = _ from h5]; try rfl) (r := (smDn xd).cells) (by rfl)) QE.refl ?_
    rfl
  · refine stepq_env rfl rfl rfl fun Z tr act w' hZ hm hm0 hout hsz hd hub hpre => ?_
    refine qe_run rfl (wanted_none rfl) (ex_field rfl Try.underlying34 rfl (by kernel_rfl) ((hout 11 (by decide)).trans oe11)) QE.refl ?_
    rfl
  · refine stepq_env rfl rfl rfl fun Z tr act w' hZ hm hm0 hout hsz hd hub hpre => ?_
    have h7 := hd ⟨7, .data⟩ (by simp) rfl _ rfl
    refine qe_run rfl (wanted_none rfl) (ex_load1 rfl Try.underlying3 rfl h7 (Cs.lit1 (Hx69.out.mod hm0 (by intro h2; have hu := hub 1 15 rfl (by kernel_rfl); (try dsimp only at h2); rcases h2 with ⟨h0, kk, hk, h2⟩ | h2 <;> omega)) rfl)) QE.refl ?_
    rfl
  · refine stepq_env rfl rfl rfl fun Z tr act w' hZ hm hm0 hout hsz hd hub hpre => ?_
    have h8 := hd ⟨8, .data⟩ (by simp) rfl _ rfl
    have ea36 : act.eval (.tmp 36) = .int .i64 xe.rp := h8
    refine qe_call (args := #[.int .i64 xe.rp, .int .i64 4]) rfl (wanted_none rfl) (by rw [ex_callF rfl Try.func13 (by kernel_rfl) (by kernel_rfl)]; exact congrArg (fun z => Result.ok (Next.enter _ z) _) (by simp only [List.map_toArray, List.map_cons, List.map_nil, ea36]; try rfl)) (Within_any xe.rp 4 (by decide) (by decide) HOF.out.rp _) ?_
    rintro e w2 ⟨rfl, rfl⟩
    exact ⟨_, rfl, QE.refl, rfl⟩
  · refine stepq_env rfl rfl rfl fun Z tr act w' hZ hm hm0 hout hsz hd hub hpre => ?_
    refine qe_run rfl (wanted_none rfl) (ex_field rfl Try.underlying34 rfl (by kernel_rfl) ((hout 11 (by decide)).trans oe11)) QE.refl ?_
    rfl
  · refine stepq_env rfl rfl rfl fun Z tr act w' hZ hm hm0 hout hsz hd hub hpre => ?_
    have h10 := hd ⟨10, .data⟩ (by simp) rfl _ rfl
    refine qe_run rfl (wanted_none rfl) (ex_load1 rfl Try.underlying3 rfl h10 (Cs.lit1 (Hx69.out.mod hm0 (by intro h2; have hu := hub 1 15 rfl (by kernel_rfl); (try dsimp only at h2); rcases h2 with ⟨h0, kk, hk, h2⟩ | h2 <;> omega)) rfl)) QE.refl ?_
    rfl
  · refine stepq_env rfl rfl rfl fun Z tr act w' hZ hm hm0 hout hsz hd hub hpre => ?_
    have h11 := hd ⟨11, .data⟩ (by simp) rfl _ rfl
    have ea39 : act.eval (.tmp 39) = .int .i64 xe.ix := h11
    refine qe_call (args := #[.int .i64 xe.ix, .int .i64 4]) rfl (wanted_none rfl) (by rw [ex_callF rfl Try.func13 (by kernel_rfl) (by kernel_rfl)]; exact congrArg (fun z => Result.ok (Next.enter _ z) _) (by simp only [List.map_toArray, List.map_cons, List.map_nil, ea39]; try rfl)) (Within_any xe.ix 4 (by decide) (by decide) HOF.out.ix _) ?_
    rintro e w2 ⟨rfl, rfl⟩
    exact ⟨_, rfl, QE.refl, rfl⟩
  · refine stepq_env rfl rfl rfl fun Z tr act w' hZ hm hm0 hout hsz hd hub hpre => ?_
    have h9 := hd ⟨9, .data⟩ (by simp) rfl _ rfl
    have h12 := hd ⟨12, .data⟩ (by simp) rfl _ rfl
    refine qe_run rfl (wanted_none rfl) (ex_build rfl (z := [.int .i64 0, .int .i64 0, .int .i64 0, .int .i64 0]) (places := [(0, 1), (1, 1), (2, 2)]) (by kernel_rfl) (parts := [(0, .int .i64 (within xe.rp 4)), (1, .int .i64 (within xe.ix 4))]) (by simp only [List.map_toArray, List.map_cons, List.map_nil, show act.eval (.tmp 37) = _ from h9, show act.eval (.tmp 40) = _ from h12]; try rfl) (r := (smDn xe).cells) (by rfl)) QE.refl ?_
    rfl
  · exact stepq_chain rfl
  · exact stepq_chain rfl
  intro u3_0 hr
  have zu3_0 := hr.size
  have Hx71 := Lib.hid (Hx65.out.mod hr (by intro h2; (try dsimp only at h2); (try simp only [false_or] at h2); omega))
  have Hx72 := Lib.hid (Hx66.out.mod hr (by intro h2; (try dsimp only at h2); (try simp only [false_or] at h2); omega))
  have Hx73 := Lib.hid (Hx67.out.mod hr (by intro h2; (try dsimp only at h2); (try simp only [false_or] at h2); omega))
  have Hx74 := Lib.hid (Hx64.out.mod hr (by intro h2; (try dsimp only at h2); (try simp only [false_or] at h2); omega))
  have Hx75 := Lib.hid (Hx68.out.mod hr (by intro h2; (try dsimp only at h2); (try simp only [false_or] at h2); omega))
  have Hx76 := Lib.hid (Hx69.out.mod hr (by intro h2; (try dsimp only at h2); (try simp only [false_or] at h2); omega))
  have Hx77 := Lib.hid (Hx70.out.trans hr (by intro k h1 h2; (try dsimp only at h2 ⊢); (try simp only [false_or] at h2 ⊢); omega))
  clear Hx65 Hx66 Hx67 Hx64 Hx68 Hx69 Hx70
  clear hr
  refine QChain.cons rfl fun Z act hYZ hZ hout hsz hd hpre => ?_
  have h6 := hd ⟨6, .data⟩ (by simp) rfl _ rfl
  refine qc_store rfl (wanted_none rfl) rfl Hx75.out (off := 0) (vs := (smDn xd).cells) (by kernel_rfl) (by intro u hu; simp only [Dn.cells, List.mem_cons, List.not_mem_nil, or_false] at hu; rcases hu with rfl | rfl | rfl | rfl <;> rfl) (by simp) ((hout 10 (by decide)).trans oe10) (by rw [show act.eval ((.tmp 34)) = _ from h6]; rfl) ?_
  intro u3_1a qc0 hm
  have qB10 : Cs u3_1a (w.heap.size + 4) ((smDn xd).cells : List Value).toArray 34 := by rw [show lay _ 0 _ = ((smDn xd).cells : List Value).toArray from rfl] at qc0; exact qc0
  clear qc0
  have zu3_1a := hm.size
  refine ⟨hm.mono (by intro k hk h; (try dsimp only at h ⊢); (try simp only [false_or, or_false, true_and] at h ⊢); omega), (fun _ => rfl), ?_⟩
  intro u3_1 hr
  have zu3_1 := hr.size
  have Hx78 := Lib.hid (qB10.mod hr (by intro h2; (try dsimp only at h2); (try simp only [false_or] at h2); omega))
  have hmr := hm.two hr
  have Hx79 := Lib.hid (Hx71.out.mod hmr (by intro h2; (try dsimp only at h2); (try simp only [false_or] at h2); omega))
  have Hx80 := Lib.hid (Hx72.out.mod hmr (by intro h2; (try dsimp only at h2); (try simp only [false_or] at h2); omega))
  have Hx81 := Lib.hid (Hx73.out.mod hmr (by intro h2; (try dsimp only at h2); (try simp only [false_or] at h2); omega))
  have Hx82 := Lib.hid (Hx74.out.mod hmr (by intro h2; (try dsimp only at h2); (try simp only [false_or] at h2); omega))
  have Hx83 := Lib.hid (Hx76.out.mod hmr (by intro h2; (try dsimp only at h2); (try simp only [false_or] at h2); omega))
  have Hx84 := Lib.hid (Hx77.out.trans hmr (by intro k h1 h2; (try dsimp only at h2 ⊢); (try simp only [false_or] at h2 ⊢); omega))
  clear Hx71 Hx72 Hx73 Hx74 Hx76 Hx77
  clear hmr
  clear hm hr hYZ hZ hout hsz hd hpre qB10 Hx75 h6
  refine QChain.cons rfl fun Z act hYZ hZ hout hsz hd hpre => ?_
  have h13 := hd ⟨13, .data⟩ (by simp) rfl _ rfl
  refine qc_store rfl (wanted_none rfl) rfl Hx83.out (off := 0) (vs := (smDn xe).cells) (by kernel_rfl) (by intro u hu; simp only [Dn.cells, List.mem_cons, List.not_mem_nil, or_false] at hu; rcases hu with rfl | rfl | rfl | rfl <;> rfl) (by simp) ((hout 11 (by decide)).trans oe11) (by rw [show act.eval ((.tmp 41)) = _ from h13]; rfl) ?_
  intro u3_2a qc0 hm
  have qB11 : Cs u3_2a (w.heap.size + 5) ((smDn xe).cells : List Value).toArray 34 := by rw [show lay _ 0 _ = ((smDn xe).cells : List Value).toArray from rfl] at qc0; exact qc0
  clear qc0
  have zu3_2a := hm.size
  refine ⟨hm.mono (by intro k hk h; (try dsimp only at h ⊢); (try simp only [false_or, or_false, true_and] at h ⊢); omega), (fun _ => rfl), ?_⟩
  intro u3_2 hr
  have zu3_2 := hr.size
  have Hx85 := Lib.hid (qB11.mod hr (by intro h2; (try dsimp only at h2); (try simp only [false_or] at h2); omega))
  have hmr := hm.two hr
  have Hx86 := Lib.hid (Hx79.out.mod hmr (by intro h2; (try dsimp only at h2); (try simp only [false_or] at h2); omega))
  have Hx87 := Lib.hid (Hx80.out.mod hmr (by intro h2; (try dsimp only at h2); (try simp only [false_or] at h2); omega))
  have Hx88 := Lib.hid (Hx81.out.mod hmr (by intro h2; (try dsimp only at h2); (try simp only [false_or] at h2); omega))
  have Hx89 := Lib.hid (Hx82.out.mod hmr (by intro h2; (try dsimp only at h2); (try simp only [false_or] at h2); omega))
  have Hx90 := Lib.hid (Hx78.out.mod hmr (by intro h2; (try dsimp only at h2); (try simp only [false_or] at h2); omega))
  have Hx91 := Lib.hid (Hx84.out.trans hmr (by intro k h1 h2; (try dsimp only at h2 ⊢); (try simp only [false_or] at h2 ⊢); omega))
  clear Hx79 Hx80 Hx81 Hx82 Hx78 Hx84
  clear hmr
  clear hm hr hYZ hZ hout hsz hd hpre qB11 Hx83 h13
  refine QChain.nil fun vs hl hzz hrows hne => ?_
  obtain ⟨Z, hYZ, hZb, hV⟩ := hzz
  obtain ⟨v0, vs0, rfl, hl0⟩ := list_cons hl
  obtain ⟨v1, vs1, rfl, hl1⟩ := list_cons hl0
  obtain ⟨v2, vs2, rfl, hl2⟩ := list_cons hl1
  obtain ⟨v3, vs3, rfl, hl3⟩ := list_cons hl2
  obtain ⟨v4, vs4, rfl, hl4⟩ := list_cons hl3
  obtain ⟨v5, vs5, rfl, hl5⟩ := list_cons hl4
  obtain ⟨v6, vs6, rfl, hl6⟩ := list_cons hl5
  obtain ⟨v7, vs7, rfl, hl7⟩ := list_cons hl6
  obtain ⟨v8, vs8, rfl, hl8⟩ := list_cons hl7
  obtain ⟨v9, vs9, rfl, hl9⟩ := list_cons hl8
  obtain ⟨v10, vs10, rfl, hl10⟩ := list_cons hl9
  obtain ⟨v11, vs11, rfl, hl11⟩ := list_cons hl10
  obtain ⟨v12, vs12, rfl, hl12⟩ := list_cons hl11
  obtain ⟨v13, vs13, rfl, hl13⟩ := list_cons hl12
  obtain ⟨v14, vs14, rfl, hl14⟩ := list_cons hl13
  obtain ⟨v15, vs15, rfl, hl15⟩ := list_cons hl14
  obtain rfl := list_nil hl15
  clear hl hl0 hl1 hl2 hl3 hl4 hl5 hl6 hl7 hl8 hl9 hl10 hl11 hl12 hl13 hl14 hl15
  obtain rfl : v2 = .int .i64 (within xd.rp 4) := hV 2 _ rfl
  obtain rfl : v5 = .int .i64 (within xd.ix 4) := hV 5 _ rfl
  obtain rfl : v9 = .int .i64 (within xe.rp 4) := hV 9 _ rfl
  obtain rfl : v12 = .int .i64 (within xe.ix 4) := hV 12 _ rfl
  have ha0 := HA0.out
  subst ha0
  clear HA0 hV hYZ hZb hsz0 hrows hne oe10 oe11
  simp only [putAll, Act.put, List.setIfInBounds_toArray, List.set_cons_zero, List.set_cons_succ, List.set_nil]
  go_upto_region 4 with (fail)
  generalize ha0 : Act.mk _ _ = a0
  have oe6 : a0.eval (.tmp 6) = .pointer (some ⟨w.heap.size, 0, none⟩) := by rw [← ha0]; rfl
  have oe7 : a0.eval (.tmp 7) = .pointer (some ⟨w.heap.size + 1, 0, none⟩) := by rw [← ha0]; rfl
  have hsz0 : a0.tmps.size = 116 := by rw [← ha0]; rfl
  have HA0 := Lib.hid ha0
  clear ha0
  refine wp_region_Q 116 hsz0 (by kernel_rfl) (by kernel_rfl) [42, 43, 44, 45, 13, 14] (by kernel_rfl) (by decide) (fun _ => False) (fun _ _ => False) (fun _ _ h => h) [qi (.agg ((smSt xs).cells).toArray), qv 0, qi (.agg ((smSt xt).cells).toArray), qv 1, qv 0, qv 1] ⟨qi_stable, qv_stable, qi_stable, qv_stable, qv_stable, qv_stable, trivial⟩ [1, 3] (by kernel_rfl) (by decide) (by kernel_rfl) [] (by kernel_rfl) (by intro r hr; cases hr) (by intro r hr; cases hr) (by intro r hr; cases hr) ⟨?_, ?_, ?_, ?_, ?_, ?_, trivial⟩ ?_
  · refine stepq_env rfl rfl rfl fun Z tr act w' hZ hm hm0 hout hsz hd hub hpre => ?_
    refine qe_run rfl (wanted_none rfl) (ex_loadA rfl Try.underlying30 rfl (off := 0) (cs := ((smSt xs).cells)) (by rw [St.len (smSt_ok xs)]; kernel_rfl) ((hout 6 (by decide)).trans oe6) (Cs.whole (Hx86.out.mod (Mod.mono (S' := fun k => u3_2.heap.size ≤ k) hm (fun _ _ h => h.elim (fun h => h.2.elim) (fun h => h))) (by intro h2; (try dsimp only at h2); (try simp only [false_or] at h2); omega)))) QE.refl ?_
    rfl
  · exact stepq_chain rfl
  · refine stepq_env rfl rfl rfl fun Z tr act w' hZ hm hm0 hout hsz hd hub hpre => ?_
    refine qe_run rfl (wanted_none rfl) (ex_loadA rfl Try.underlying30 rfl (off := 0) (cs := ((smSt xt).cells)) (by rw [St.len (smSt_ok xt)]; kernel_rfl) ((hout 7 (by decide)).trans oe7) (Cs.whole (Hx87.out.mod (Mod.mono (S' := fun k => u3_2.heap.size ≤ k) hm (fun _ _ h => h.elim (fun h => h.2.elim) (fun h => h))) (by intro h2; (try dsimp only at h2); (try simp only [false_or] at h2); omega)))) QE.refl ?_
    rfl
  · exact stepq_chain rfl
  · refine stepq_env rfl rfl rfl fun Z tr act w' hZ hm hm0 hout hsz hd hub hpre => ?_
    have h1 := hd ⟨1, .data⟩ (by simp) rfl _ rfl
    exact qe_run rfl (wanted_none rfl) (ex_assign rfl rfl) QE.refl h1
  · refine stepq_env rfl rfl rfl fun Z tr act w' hZ hm hm0 hout hsz hd hub hpre => ?_
    have h3 := hd ⟨3, .data⟩ (by simp) rfl _ rfl
    exact qe_run rfl (wanted_none rfl) (ex_assign rfl rfl) QE.refl h3
  intro u4_0 hr
  have zu4_0 := hr.size
  have Hx92 := Lib.hid (Hx86.out.mod hr (by intro h2; (try dsimp only at h2); (try simp only [false_or] at h2); omega))
  have Hx93 := Lib.hid (Hx87.out.mod hr (by intro h2; (try dsimp only at h2); (try simp only [false_or] at h2); omega))
  have Hx94 := Lib.hid (Hx88.out.mod hr (by intro h2; (try dsimp only at h2); (try simp only [false_or] at h2); omega))
  have Hx95 := Lib.hid (Hx89.out.mod hr (by intro h2; (try dsimp only at h2); (try simp only [false_or] at h2); omega))
  have Hx96 := Lib.hid (Hx90.out.mod hr (by intro h2; (try dsimp only at h2); (try simp only [false_or] at h2); omega))
  have Hx97 := Lib.hid (Hx85.out.mod hr (by intro h2; (try dsimp only at h2); (try simp only [false_or] at h2); omega))
  have Hx98 := Lib.hid (Hx91.out.trans hr (by intro k h1 h2; (try dsimp only at h2 ⊢); (try simp only [false_or] at h2 ⊢); omega))
  clear Hx86 Hx87 Hx88 Hx89 Hx90 Hx85 Hx91
  clear hr
  refine QChain.cons rfl fun Z act hYZ hZ hout hsz hd hpre => ?_
  have h0 := hd ⟨0, .data⟩ (by simp) rfl _ rfl
  have ea42 : act.eval (.tmp 42) = .agg (smSt xs).cells.toArray := h0
  refine qc_call (args := #[.agg (smSt xs).cells.toArray]) rfl (wanted_none rfl) (by rw [ex_callF rfl Try.func14 (by kernel_rfl) (by kernel_rfl)]; exact congrArg (fun z => Result.ok (Next.enter _ z) _) (by simp only [List.map_toArray, List.map_cons, List.map_nil, ea42]; try rfl)) (StampText_Q (fun _ => False) _ (smSt xs) _ ⟨rfl, smSt_ok xs⟩ (fun _ h => h.elim) (smStampT_len xs)) ?_
  rintro e u4_1a ⟨v_a1, rfl, qa1, hm⟩
  obtain ⟨ao_a1, cap_a1, rfl⟩ := qa1.shape
  have zu4_1a := hm.size
  refine ⟨_, rfl, hm.mono (fun _ _ h => h.elim), (fun _ => rfl), ?_⟩
  intro u4_1 hr
  have zu4_1 := hr.size
  have Hx99 := Lib.hid ((qa1.widen (R' := (fun k => (u4_0.heap.size ≤ k ∧ k < u4_1a.heap.size))) (by intro k h1; (try unfold New at h1); (try dsimp only at h1 ⊢); (try simp only [false_or] at h1 ⊢); omega) (Nat.le_refl _)).mod hr (by intro k h1 h2; (try dsimp only at h1 h2); (try simp only [false_or] at h1 h2); omega))
  have hmr := Mod.after hm hr
  have Hx100 := Lib.hid (Hx92.out.mod hmr (by intro h2; (try dsimp only at h2); (try simp only [false_or] at h2); omega))
  have Hx101 := Lib.hid (Hx93.out.mod hmr (by intro h2; (try dsimp only at h2); (try simp only [false_or] at h2); omega))
  have Hx102 := Lib.hid (Hx94.out.mod hmr (by intro h2; (try dsimp only at h2); (try simp only [false_or] at h2); omega))
  have Hx103 := Lib.hid (Hx95.out.mod hmr (by intro h2; (try dsimp only at h2); (try simp only [false_or] at h2); omega))
  have Hx104 := Lib.hid (Hx96.out.mod hmr (by intro h2; (try dsimp only at h2); (try simp only [false_or] at h2); omega))
  have Hx105 := Lib.hid (Hx97.out.mod hmr (by intro h2; (try dsimp only at h2); (try simp only [false_or] at h2); omega))
  have Hx106 := Lib.hid (Hx98.out.trans hmr (by intro k h1 h2; (try dsimp only at h2 ⊢); (try simp only [false_or] at h2 ⊢); omega))
  clear Hx92 Hx93 Hx94 Hx95 Hx96 Hx97 Hx98
  clear hmr
  clear hm hr hYZ hZ hout hsz hd hpre qa1 ea42 h0
  refine QChain.cons rfl fun Z act hYZ hZ hout hsz hd hpre => ?_
  have h2 := hd ⟨2, .data⟩ (by simp) rfl _ rfl
  have ea44 : act.eval (.tmp 44) = .agg (smSt xt).cells.toArray := h2
  refine qc_call (args := #[.agg (smSt xt).cells.toArray]) rfl (wanted_none rfl) (by rw [ex_callF rfl Try.func14 (by kernel_rfl) (by kernel_rfl)]; exact congrArg (fun z => Result.ok (Next.enter _ z) _) (by simp only [List.map_toArray, List.map_cons, List.map_nil, ea44]; try rfl)) (StampText_Q (fun _ => False) _ (smSt xt) _ ⟨rfl, smSt_ok xt⟩ (fun _ h => h.elim) (smStampT_len xt)) ?_
  rintro e u4_2a ⟨v_a2, rfl, qa2, hm⟩
  obtain ⟨ao_a2, cap_a2, rfl⟩ := qa2.shape
  have zu4_2a := hm.size
  refine ⟨_, rfl, hm.mono (fun _ _ h => h.elim), (fun _ => rfl), ?_⟩
  intro u4_2 hr
  have zu4_2 := hr.size
  have Hx107 := Lib.hid ((qa2.widen (R' := (fun k => (u4_1.heap.size ≤ k ∧ k < u4_2a.heap.size))) (by intro k h1; (try unfold New at h1); (try dsimp only at h1 ⊢); (try simp only [false_or] at h1 ⊢); omega) (Nat.le_refl _)).mod hr (by intro k h1 h2; (try dsimp only at h1 h2); (try simp only [false_or] at h1 h2); omega))
  have hmr := Mod.after hm hr
  have Hx108 := Lib.hid (Hx100.out.mod hmr (by intro h2; (try dsimp only at h2); (try simp only [false_or] at h2); omega))
  have Hx109 := Lib.hid (Hx101.out.mod hmr (by intro h2; (try dsimp only at h2); (try simp only [false_or] at h2); omega))
  have Hx110 := Lib.hid (Hx102.out.mod hmr (by intro h2; (try dsimp only at h2); (try simp only [false_or] at h2); omega))
  have Hx111 := Lib.hid (Hx103.out.mod hmr (by intro h2; (try dsimp only at h2); (try simp only [false_or] at h2); omega))
  have Hx112 := Lib.hid (Hx104.out.mod hmr (by intro h2; (try dsimp only at h2); (try simp only [false_or] at h2); omega))
  have Hx113 := Lib.hid (Hx105.out.mod hmr (by intro h2; (try dsimp only at h2); (try simp only [false_or] at h2); omega))
  have Hx114 := Lib.hid (Hx106.out.trans hmr (by intro k h1 h2; (try dsimp only at h2 ⊢); (try simp only [false_or] at h2 ⊢); omega))
  have Hx115 := Lib.hid (Hx99.out.mod hmr (by intro k h1 h2; (try dsimp only at h1 h2); (try simp only [false_or] at h1 h2); omega))
  clear Hx100 Hx101 Hx102 Hx103 Hx104 Hx105 Hx106 Hx99
  clear hmr
  clear hm hr hYZ hZ hout hsz hd hpre qa2 ea44 h2
  refine QChain.nil fun vs hl hzz hrows hne => ?_
  obtain ⟨Z, hYZ, hZb, hV⟩ := hzz
  obtain ⟨v0, vs0, rfl, hl0⟩ := list_cons hl
  obtain ⟨v1, vs1, rfl, hl1⟩ := list_cons hl0
  obtain ⟨v2, vs2, rfl, hl2⟩ := list_cons hl1
  obtain ⟨v3, vs3, rfl, hl3⟩ := list_cons hl2
  obtain ⟨v4, vs4, rfl, hl4⟩ := list_cons hl3
  obtain ⟨v5, vs5, rfl, hl5⟩ := list_cons hl4
  obtain rfl := list_nil hl5
  clear hl hl0 hl1 hl2 hl3 hl4 hl5
  have e1 := Option.some.inj (show some (.slice ao_a1 ((stampT (smSt xs)).length) cap_a1) = some v1 from hV 1 _ rfl)
  subst e1
  have e3 := Option.some.inj (show some (.slice ao_a2 ((stampT (smSt xt)).length) cap_a2) = some v3 from hV 3 _ rfl)
  subst e3
  have e4 := Option.some.inj (show some (.slice ao_a1 ((stampT (smSt xs)).length) cap_a1) = some v4 from hV 4 _ rfl)
  subst e4
  have e5 := Option.some.inj (show some (.slice ao_a2 ((stampT (smSt xt)).length) cap_a2) = some v5 from hV 5 _ rfl)
  subst e5
  have ha0 := HA0.out
  subst ha0
  clear HA0 hV hYZ hZb hsz0 hrows hne oe6 oe7
  simp only [putAll, Act.put, List.setIfInBounds_toArray, List.set_cons_zero, List.set_cons_succ]
  go_upto_region 5 with (fail)
  generalize ha0 : Act.mk _ _ = a0
  have oe8 : a0.eval (.tmp 8) = .pointer (some ⟨w.heap.size + 2, 0, none⟩) := by rw [← ha0]; rfl
  have oe9 : a0.eval (.tmp 9) = .pointer (some ⟨w.heap.size + 3, 0, none⟩) := by rw [← ha0]; rfl
  have hsz0 : a0.tmps.size = 116 := by rw [← ha0]; rfl
  have HA0 := Lib.hid ha0
  clear ha0
  refine wp_region_Q 116 hsz0 (by kernel_rfl) (by kernel_rfl) [46, 47, 48, 49, 15, 16] (by kernel_rfl) (by decide) (fun _ => False) (fun _ _ => False) (fun _ _ h => h) [qi (.agg ((smVt xv).cells).toArray), qv 0, qi (.agg ((smVt xw).cells).toArray), qv 1, qv 0, qv 1] ⟨qi_stable, qv_stable, qi_stable, qv_stable, qv_stable, qv_stable, trivial⟩ [1, 3] (by kernel_rfl) (by decide) (by kernel_rfl) [] (by kernel_rfl) (by intro r hr; cases hr) (by intro r hr; cases hr) (by intro r hr; cases hr) ⟨?_, ?_, ?_, ?_, ?_, ?_, trivial⟩ ?_
  · refine stepq_env rfl rfl rfl fun Z tr act w' hZ hm hm0 hout hsz hd hub hpre => ?_
    refine qe_run rfl (wanted_none rfl) (ex_loadA rfl Try.underlying32 rfl (off := 0) (cs := ((smVt xv).cells)) (by rw [Vt.len (smVt_ok xv)]; kernel_rfl) ((hout 8 (by decide)).trans oe8) (Cs.whole (Hx110.out.mod (Mod.mono (S' := fun k => u4_2.heap.size ≤ k) hm (fun _ _ h => h.elim (fun h => h.2.elim) (fun h => h))) (by intro h2; (try dsimp only at h2); (try simp only [false_or] at h2); omega)))) QE.refl ?_
    rfl
  · exact stepq_chain rfl
  · refine stepq_env rfl rfl rfl fun Z tr act w' hZ hm hm0 hout hsz hd hub hpre => ?_
    refine qe_run rfl (wanted_none rfl) (ex_loadA rfl Try.underlying32 rfl (off := 0) (cs := ((smVt xw).cells)) (by rw [Vt.len (smVt_ok xw)]; kernel_rfl) ((hout 9 (by decide)).trans oe9) (Cs.whole (Hx111.out.mod (Mod.mono (S' := fun k => u4_2.heap.size ≤ k) hm (fun _ _ h => h.elim (fun h => h.2.elim) (fun h => h))) (by intro h2; (try dsimp only at h2); (try simp only [false_or] at h2); omega)))) QE.refl ?_
    rfl
  · exact stepq_chain rfl
  · refine stepq_env rfl rfl rfl fun Z tr act w' hZ hm hm0 hout hsz hd hub hpre => ?_
    have h1 := hd ⟨1, .data⟩ (by simp) rfl _ rfl
    exact qe_run rfl (wanted_none rfl) (ex_assign rfl rfl) QE.refl h1
  · refine stepq_env rfl rfl rfl fun Z tr act w' hZ hm hm0 hout hsz hd hub hpre => ?_
    have h3 := hd ⟨3, .data⟩ (by simp) rfl _ rfl
    exact qe_run rfl (wanted_none rfl) (ex_assign rfl rfl) QE.refl h3
  intro u5_0 hr
  have zu5_0 := hr.size
  have Hx116 := Lib.hid (Hx108.out.mod hr (by intro h2; (try dsimp only at h2); (try simp only [false_or] at h2); omega))
  have Hx117 := Lib.hid (Hx109.out.mod hr (by intro h2; (try dsimp only at h2); (try simp only [false_or] at h2); omega))
  have Hx118 := Lib.hid (Hx110.out.mod hr (by intro h2; (try dsimp only at h2); (try simp only [false_or] at h2); omega))
  have Hx119 := Lib.hid (Hx111.out.mod hr (by intro h2; (try dsimp only at h2); (try simp only [false_or] at h2); omega))
  have Hx120 := Lib.hid (Hx112.out.mod hr (by intro h2; (try dsimp only at h2); (try simp only [false_or] at h2); omega))
  have Hx121 := Lib.hid (Hx113.out.mod hr (by intro h2; (try dsimp only at h2); (try simp only [false_or] at h2); omega))
  have Hx122 := Lib.hid (Hx114.out.trans hr (by intro k h1 h2; (try dsimp only at h2 ⊢); (try simp only [false_or] at h2 ⊢); omega))
  have Hx123 := Lib.hid (Hx115.out.mod hr (by intro k h1 h2; (try dsimp only at h1 h2); (try simp only [false_or] at h1 h2); omega))
  have Hx124 := Lib.hid (Hx107.out.mod hr (by intro k h1 h2; (try dsimp only at h1 h2); (try simp only [false_or] at h1 h2); omega))
  clear Hx108 Hx109 Hx110 Hx111 Hx112 Hx113 Hx114 Hx115 Hx107
  clear hr
  refine QChain.cons rfl fun Z act hYZ hZ hout hsz hd hpre => ?_
  have h0 := hd ⟨0, .data⟩ (by simp) rfl _ rfl
  have ea46 : act.eval (.tmp 46) = .agg (smVt xv).cells.toArray := h0
  refine qc_call (args := #[.agg (smVt xv).cells.toArray]) rfl (wanted_none rfl) (by rw [ex_callF rfl Try.func15 (by kernel_rfl) (by kernel_rfl)]; exact congrArg (fun z => Result.ok (Next.enter _ z) _) (by simp only [List.map_toArray, List.map_cons, List.map_nil, ea46]; try rfl)) (VoteText_Q (fun _ => False) _ (smVt xv) _ ⟨rfl, smVt_ok xv⟩ (fun _ h => h.elim) (smVoteT_len xv)) ?_
  rintro e u5_1a ⟨v_a3, rfl, qa3, hm⟩
  obtain ⟨ao_a3, cap_a3, rfl⟩ := qa3.shape
  have zu5_1a := hm.size
  refine ⟨_, rfl, hm.mono (fun _ _ h => h.elim), (fun _ => rfl), ?_⟩
  intro u5_1 hr
  have zu5_1 := hr.size
  have Hx125 := Lib.hid ((qa3.widen (R' := (fun k => (u5_0.heap.size ≤ k ∧ k < u5_1a.heap.size))) (by intro k h1; (try unfold New at h1); (try dsimp only at h1 ⊢); (try simp only [false_or] at h1 ⊢); omega) (Nat.le_refl _)).mod hr (by intro k h1 h2; (try dsimp only at h1 h2); (try simp only [false_or] at h1 h2); omega))
  have hmr := Mod.after hm hr
  have Hx126 := Lib.hid (Hx116.out.mod hmr (by intro h2; (try dsimp only at h2); (try simp only [false_or] at h2); omega))
  have Hx127 := Lib.hid (Hx117.out.mod hmr (by intro h2; (try dsimp only at h2); (try simp only [false_or] at h2); omega))
  have Hx128 := Lib.hid (Hx118.out.mod hmr (by intro h2; (try dsimp only at h2); (try simp only [false_or] at h2); omega))
  have Hx129 := Lib.hid (Hx119.out.mod hmr (by intro h2; (try dsimp only at h2); (try simp only [false_or] at h2); omega))
  have Hx130 := Lib.hid (Hx120.out.mod hmr (by intro h2; (try dsimp only at h2); (try simp only [false_or] at h2); omega))
  have Hx131 := Lib.hid (Hx121.out.mod hmr (by intro h2; (try dsimp only at h2); (try simp only [false_or] at h2); omega))
  have Hx132 := Lib.hid (Hx122.out.trans hmr (by intro k h1 h2; (try dsimp only at h2 ⊢); (try simp only [false_or] at h2 ⊢); omega))
  have Hx133 := Lib.hid (Hx123.out.mod hmr (by intro k h1 h2; (try dsimp only at h1 h2); (try simp only [false_or] at h1 h2); omega))
  have Hx134 := Lib.hid (Hx124.out.mod hmr (by intro k h1 h2; (try dsimp only at h1 h2); (try simp only [false_or] at h1 h2); omega))
  clear Hx116 Hx117 Hx118 Hx119 Hx120 Hx121 Hx122 Hx123 Hx124
  clear hmr
  clear hm hr hYZ hZ hout hsz hd hpre qa3 ea46 h0
  refine QChain.cons rfl fun Z act hYZ hZ hout hsz hd hpre => ?_
  have h2 := hd ⟨2, .data⟩ (by simp) rfl _ rfl
  have ea48 : act.eval (.tmp 48) = .agg (smVt xw).cells.toArray := h2
  refine qc_call (args := #[.agg (smVt xw).cells.toArray]) rfl (wanted_none rfl) (by rw [ex_callF rfl Try.func15 (by kernel_rfl) (by kernel_rfl)]; exact congrArg (fun z => Result.ok (Next.enter _ z) _) (by simp only [List.map_toArray, List.map_cons, List.map_nil, ea48]; try rfl)) (VoteText_Q (fun _ => False) _ (smVt xw) _ ⟨rfl, smVt_ok xw⟩ (fun _ h => h.elim) (smVoteT_len xw)) ?_
  rintro e u5_2a ⟨v_a4, rfl, qa4, hm⟩
  obtain ⟨ao_a4, cap_a4, rfl⟩ := qa4.shape
  have zu5_2a := hm.size
  refine ⟨_, rfl, hm.mono (fun _ _ h => h.elim), (fun _ => rfl), ?_⟩
  intro u5_2 hr
  have zu5_2 := hr.size
  have Hx135 := Lib.hid ((qa4.widen (R' := (fun k => (u5_1.heap.size ≤ k ∧ k < u5_2a.heap.size))) (by intro k h1; (try unfold New at h1); (try dsimp only at h1 ⊢); (try simp only [false_or] at h1 ⊢); omega) (Nat.le_refl _)).mod hr (by intro k h1 h2; (try dsimp only at h1 h2); (try simp only [false_or] at h1 h2); omega))
  have hmr := Mod.after hm hr
  have Hx136 := Lib.hid (Hx126.out.mod hmr (by intro h2; (try dsimp only at h2); (try simp only [false_or] at h2); omega))
  have Hx137 := Lib.hid (Hx127.out.mod hmr (by intro h2; (try dsimp only at h2); (try simp only [false_or] at h2); omega))
  have Hx138 := Lib.hid (Hx128.out.mod hmr (by intro h2; (try dsimp only at h2); (try simp only [false_or] at h2); omega))
  have Hx139 := Lib.hid (Hx129.out.mod hmr (by intro h2; (try dsimp only at h2); (try simp only [false_or] at h2); omega))
  have Hx140 := Lib.hid (Hx130.out.mod hmr (by intro h2; (try dsimp only at h2); (try simp only [false_or] at h2); omega))
  have Hx141 := Lib.hid (Hx131.out.mod hmr (by intro h2; (try dsimp only at h2); (try simp only [false_or] at h2); omega))
  have Hx142 := Lib.hid (Hx132.out.trans hmr (by intro k h1 h2; (try dsimp only at h2 ⊢); (try simp only [false_or] at h2 ⊢); omega))
  have Hx143 := Lib.hid (Hx133.out.mod hmr (by intro k h1 h2; (try dsimp only at h1 h2); (try simp only [false_or] at h1 h2); omega))
  have Hx144 := Lib.hid (Hx134.out.mod hmr (by intro k h1 h2; (try dsimp only at h1 h2); (try simp only [false_or] at h1 h2); omega))
  have Hx145 := Lib.hid (Hx125.out.mod hmr (by intro k h1 h2; (try dsimp only at h1 h2); (try simp only [false_or] at h1 h2); omega))
  clear Hx126 Hx127 Hx128 Hx129 Hx130 Hx131 Hx132 Hx133 Hx134 Hx125
  clear hmr
  clear hm hr hYZ hZ hout hsz hd hpre qa4 ea48 h2
  refine QChain.nil fun vs hl hzz hrows hne => ?_
  obtain ⟨Z, hYZ, hZb, hV⟩ := hzz
  obtain ⟨v0, vs0, rfl, hl0⟩ := list_cons hl
  obtain ⟨v1, vs1, rfl, hl1⟩ := list_cons hl0
  obtain ⟨v2, vs2, rfl, hl2⟩ := list_cons hl1
  obtain ⟨v3, vs3, rfl, hl3⟩ := list_cons hl2
  obtain ⟨v4, vs4, rfl, hl4⟩ := list_cons hl3
  obtain ⟨v5, vs5, rfl, hl5⟩ := list_cons hl4
  obtain rfl := list_nil hl5
  clear hl hl0 hl1 hl2 hl3 hl4 hl5
  have e1 := Option.some.inj (show some (.slice ao_a3 ((voteT (smVt xv)).length) cap_a3) = some v1 from hV 1 _ rfl)
  subst e1
  have e3 := Option.some.inj (show some (.slice ao_a4 ((voteT (smVt xw)).length) cap_a4) = some v3 from hV 3 _ rfl)
  subst e3
  have e4 := Option.some.inj (show some (.slice ao_a3 ((voteT (smVt xv)).length) cap_a3) = some v4 from hV 4 _ rfl)
  subst e4
  have e5 := Option.some.inj (show some (.slice ao_a4 ((voteT (smVt xw)).length) cap_a4) = some v5 from hV 5 _ rfl)
  subst e5
  have ha0 := HA0.out
  subst ha0
  clear HA0 hV hYZ hZb hsz0 hrows hne oe8 oe9
  simp only [putAll, Act.put, List.setIfInBounds_toArray, List.set_cons_zero, List.set_cons_succ]
  go_upto_region 6 with (fail)
  generalize ha0 : Act.mk _ _ = a0
  have oe10 : a0.eval (.tmp 10) = .pointer (some ⟨w.heap.size + 4, 0, none⟩) := by rw [← ha0]; rfl
  have oe11 : a0.eval (.tmp 11) = .pointer (some ⟨w.heap.size + 5, 0, none⟩) := by rw [← ha0]; rfl
  have hsz0 : a0.tmps.size = 116 := by rw [← ha0]; rfl
  have HA0 := Lib.hid ha0
  clear ha0
  refine wp_region_Q 116 hsz0 (by kernel_rfl) (by kernel_rfl) [50, 51, 52, 53, 17, 18] (by kernel_rfl) (by decide) (fun _ => False) (fun _ _ => False) (fun _ _ h => h) [qi (.agg ((smDn xd).cells).toArray), qv 0, qi (.agg ((smDn xe).cells).toArray), qv 1, qv 0, qv 1] ⟨qi_stable, qv_stable, qi_stable, qv_stable, qv_stable, qv_stable, trivial⟩ [1, 3] (by kernel_rfl) (by decide) (by kernel_rfl) [] (by kernel_rfl) (by intro r hr; cases hr) (by intro r hr; cases hr) (by intro r hr; cases hr) ⟨?_, ?_, ?_, ?_, ?_, ?_, trivial⟩ ?_
  · refine stepq_env rfl rfl rfl fun Z tr act w' hZ hm hm0 hout hsz hd hub hpre => ?_
    refine qe_run rfl (wanted_none rfl) (ex_loadA rfl Try.underlying34 rfl (off := 0) (cs := ((smDn xd).cells)) (by kernel_rfl) ((hout 10 (by decide)).trans oe10) (Cs.whole (Hx140.out.mod (Mod.mono (S' := fun k => u5_2.heap.size ≤ k) hm (fun _ _ h => h.elim (fun h => h.2.elim) (fun h => h))) (by intro h2; (try dsimp only at h2); (try simp only [false_or] at h2); omega)))) QE.refl ?_
    rfl
  · exact stepq_chain rfl
  · refine stepq_env rfl rfl rfl fun Z tr act w' hZ hm hm0 hout hsz hd hub hpre => ?_
    refine qe_run rfl (wanted_none rfl) (ex_loadA rfl Try.underlying34 rfl (off := 0) (cs := ((smDn xe).cells)) (by kernel_rfl) ((hout 11 (by decide)).trans oe11) (Cs.whole (Hx141.out.mod (Mod.mono (S' := fun k => u5_2.heap.size ≤ k) hm (fun _ _ h => h.elim (fun h => h.2.elim) (fun h => h))) (by intro h2; (try dsimp only at h2); (try simp only [false_or] at h2); omega)))) QE.refl ?_
    rfl
  · exact stepq_chain rfl
  · refine stepq_env rfl rfl rfl fun Z tr act w' hZ hm hm0 hout hsz hd hub hpre => ?_
    have h1 := hd ⟨1, .data⟩ (by simp) rfl _ rfl
    exact qe_run rfl (wanted_none rfl) (ex_assign rfl rfl) QE.refl h1
  · refine stepq_env rfl rfl rfl fun Z tr act w' hZ hm hm0 hout hsz hd hub hpre => ?_
    have h3 := hd ⟨3, .data⟩ (by simp) rfl _ rfl
    exact qe_run rfl (wanted_none rfl) (ex_assign rfl rfl) QE.refl h3
  intro u6_0 hr
  have zu6_0 := hr.size
  have Hx146 := Lib.hid (Hx136.out.mod hr (by intro h2; (try dsimp only at h2); (try simp only [false_or] at h2); omega))
  have Hx147 := Lib.hid (Hx137.out.mod hr (by intro h2; (try dsimp only at h2); (try simp only [false_or] at h2); omega))
  have Hx148 := Lib.hid (Hx138.out.mod hr (by intro h2; (try dsimp only at h2); (try simp only [false_or] at h2); omega))
  have Hx149 := Lib.hid (Hx139.out.mod hr (by intro h2; (try dsimp only at h2); (try simp only [false_or] at h2); omega))
  have Hx150 := Lib.hid (Hx140.out.mod hr (by intro h2; (try dsimp only at h2); (try simp only [false_or] at h2); omega))
  have Hx151 := Lib.hid (Hx141.out.mod hr (by intro h2; (try dsimp only at h2); (try simp only [false_or] at h2); omega))
  have Hx152 := Lib.hid (Hx142.out.trans hr (by intro k h1 h2; (try dsimp only at h2 ⊢); (try simp only [false_or] at h2 ⊢); omega))
  have Hx153 := Lib.hid (Hx143.out.mod hr (by intro k h1 h2; (try dsimp only at h1 h2); (try simp only [false_or] at h1 h2); omega))
  have Hx154 := Lib.hid (Hx144.out.mod hr (by intro k h1 h2; (try dsimp only at h1 h2); (try simp only [false_or] at h1 h2); omega))
  have Hx155 := Lib.hid (Hx145.out.mod hr (by intro k h1 h2; (try dsimp only at h1 h2); (try simp only [false_or] at h1 h2); omega))
  have Hx156 := Lib.hid (Hx135.out.mod hr (by intro k h1 h2; (try dsimp only at h1 h2); (try simp only [false_or] at h1 h2); omega))
  clear Hx136 Hx137 Hx138 Hx139 Hx140 Hx141 Hx142 Hx143 Hx144 Hx145 Hx135
  clear hr
  refine QChain.cons rfl fun Z act hYZ hZ hout hsz hd hpre => ?_
  have h0 := hd ⟨0, .data⟩ (by simp) rfl _ rfl
  have ea50 : act.eval (.tmp 50) = .agg (smDn xd).cells.toArray := h0
  refine qc_call (args := #[.agg (smDn xd).cells.toArray]) rfl (wanted_none rfl) (by rw [ex_callF rfl Try.func16 (by kernel_rfl) (by kernel_rfl)]; exact congrArg (fun z => Result.ok (Next.enter _ z) _) (by simp only [List.map_toArray, List.map_cons, List.map_nil, ea50]; try rfl)) (DenyText_Q (fun _ => False) _ (smDn xd) _ ⟨rfl, smDn_ok xd⟩ (fun _ h => h.elim) (smDenyT_len xd)) ?_
  rintro e u6_1a ⟨v_a5, rfl, qa5, hm⟩
  obtain ⟨ao_a5, cap_a5, rfl⟩ := qa5.shape
  have zu6_1a := hm.size
  refine ⟨_, rfl, hm.mono (fun _ _ h => h.elim), (fun _ => rfl), ?_⟩
  intro u6_1 hr
  have zu6_1 := hr.size
  have Hx157 := Lib.hid ((qa5.widen (R' := (fun k => (u6_0.heap.size ≤ k ∧ k < u6_1a.heap.size))) (by intro k h1; (try unfold New at h1); (try dsimp only at h1 ⊢); (try simp only [false_or] at h1 ⊢); omega) (Nat.le_refl _)).mod hr (by intro k h1 h2; (try dsimp only at h1 h2); (try simp only [false_or] at h1 h2); omega))
  have hmr := Mod.after hm hr
  have Hx158 := Lib.hid (Hx146.out.mod hmr (by intro h2; (try dsimp only at h2); (try simp only [false_or] at h2); omega))
  have Hx159 := Lib.hid (Hx147.out.mod hmr (by intro h2; (try dsimp only at h2); (try simp only [false_or] at h2); omega))
  have Hx160 := Lib.hid (Hx148.out.mod hmr (by intro h2; (try dsimp only at h2); (try simp only [false_or] at h2); omega))
  have Hx161 := Lib.hid (Hx149.out.mod hmr (by intro h2; (try dsimp only at h2); (try simp only [false_or] at h2); omega))
  have Hx162 := Lib.hid (Hx150.out.mod hmr (by intro h2; (try dsimp only at h2); (try simp only [false_or] at h2); omega))
  have Hx163 := Lib.hid (Hx151.out.mod hmr (by intro h2; (try dsimp only at h2); (try simp only [false_or] at h2); omega))
  have Hx164 := Lib.hid (Hx152.out.trans hmr (by intro k h1 h2; (try dsimp only at h2 ⊢); (try simp only [false_or] at h2 ⊢); omega))
  have Hx165 := Lib.hid (Hx153.out.mod hmr (by intro k h1 h2; (try dsimp only at h1 h2); (try simp only [false_or] at h1 h2); omega))
  have Hx166 := Lib.hid (Hx154.out.mod hmr (by intro k h1 h2; (try dsimp only at h1 h2); (try simp only [false_or] at h1 h2); omega))
  have Hx167 := Lib.hid (Hx155.out.mod hmr (by intro k h1 h2; (try dsimp only at h1 h2); (try simp only [false_or] at h1 h2); omega))
  have Hx168 := Lib.hid (Hx156.out.mod hmr (by intro k h1 h2; (try dsimp only at h1 h2); (try simp only [false_or] at h1 h2); omega))
  clear Hx146 Hx147 Hx148 Hx149 Hx150 Hx151 Hx152 Hx153 Hx154 Hx155 Hx156
  clear hmr
  clear hm hr hYZ hZ hout hsz hd hpre qa5 ea50 h0
  refine QChain.cons rfl fun Z act hYZ hZ hout hsz hd hpre => ?_
  have h2 := hd ⟨2, .data⟩ (by simp) rfl _ rfl
  have ea52 : act.eval (.tmp 52) = .agg (smDn xe).cells.toArray := h2
  refine qc_call (args := #[.agg (smDn xe).cells.toArray]) rfl (wanted_none rfl) (by rw [ex_callF rfl Try.func16 (by kernel_rfl) (by kernel_rfl)]; exact congrArg (fun z => Result.ok (Next.enter _ z) _) (by simp only [List.map_toArray, List.map_cons, List.map_nil, ea52]; try rfl)) (DenyText_Q (fun _ => False) _ (smDn xe) _ ⟨rfl, smDn_ok xe⟩ (fun _ h => h.elim) (smDenyT_len xe)) ?_
  rintro e u6_2a ⟨v_a6, rfl, qa6, hm⟩
  obtain ⟨ao_a6, cap_a6, rfl⟩ := qa6.shape
  have zu6_2a := hm.size
  refine ⟨_, rfl, hm.mono (fun _ _ h => h.elim), (fun _ => rfl), ?_⟩
  intro u6_2 hr
  have zu6_2 := hr.size
  have Hx169 := Lib.hid ((qa6.widen (R' := (fun k => (u6_1.heap.size ≤ k ∧ k < u6_2a.heap.size))) (by intro k h1; (try unfold New at h1); (try dsimp only at h1 ⊢); (try simp only [false_or] at h1 ⊢); omega) (Nat.le_refl _)).mod hr (by intro k h1 h2; (try dsimp only at h1 h2); (try simp only [false_or] at h1 h2); omega))
  have hmr := Mod.after hm hr
  have Hx170 := Lib.hid (Hx158.out.mod hmr (by intro h2; (try dsimp only at h2); (try simp only [false_or] at h2); omega))
  have Hx171 := Lib.hid (Hx159.out.mod hmr (by intro h2; (try dsimp only at h2); (try simp only [false_or] at h2); omega))
  have Hx172 := Lib.hid (Hx160.out.mod hmr (by intro h2; (try dsimp only at h2); (try simp only [false_or] at h2); omega))
  have Hx173 := Lib.hid (Hx161.out.mod hmr (by intro h2; (try dsimp only at h2); (try simp only [false_or] at h2); omega))
  have Hx174 := Lib.hid (Hx162.out.mod hmr (by intro h2; (try dsimp only at h2); (try simp only [false_or] at h2); omega))
  have Hx175 := Lib.hid (Hx163.out.mod hmr (by intro h2; (try dsimp only at h2); (try simp only [false_or] at h2); omega))
  have Hx176 := Lib.hid (Hx164.out.trans hmr (by intro k h1 h2; (try dsimp only at h2 ⊢); (try simp only [false_or] at h2 ⊢); omega))
  have Hx177 := Lib.hid (Hx165.out.mod hmr (by intro k h1 h2; (try dsimp only at h1 h2); (try simp only [false_or] at h1 h2); omega))
  have Hx178 := Lib.hid (Hx166.out.mod hmr (by intro k h1 h2; (try dsimp only at h1 h2); (try simp only [false_or] at h1 h2); omega))
  have Hx179 := Lib.hid (Hx167.out.mod hmr (by intro k h1 h2; (try dsimp only at h1 h2); (try simp only [false_or] at h1 h2); omega))
  have Hx180 := Lib.hid (Hx168.out.mod hmr (by intro k h1 h2; (try dsimp only at h1 h2); (try simp only [false_or] at h1 h2); omega))
  have Hx181 := Lib.hid (Hx157.out.mod hmr (by intro k h1 h2; (try dsimp only at h1 h2); (try simp only [false_or] at h1 h2); omega))
  clear Hx158 Hx159 Hx160 Hx161 Hx162 Hx163 Hx164 Hx165 Hx166 Hx167 Hx168 Hx157
  clear hmr
  clear hm hr hYZ hZ hout hsz hd hpre qa6 ea52 h2
  refine QChain.nil fun vs hl hzz hrows hne => ?_
  obtain ⟨Z, hYZ, hZb, hV⟩ := hzz
  obtain ⟨v0, vs0, rfl, hl0⟩ := list_cons hl
  obtain ⟨v1, vs1, rfl, hl1⟩ := list_cons hl0
  obtain ⟨v2, vs2, rfl, hl2⟩ := list_cons hl1
  obtain ⟨v3, vs3, rfl, hl3⟩ := list_cons hl2
  obtain ⟨v4, vs4, rfl, hl4⟩ := list_cons hl3
  obtain ⟨v5, vs5, rfl, hl5⟩ := list_cons hl4
  obtain rfl := list_nil hl5
  clear hl hl0 hl1 hl2 hl3 hl4 hl5
  have e1 := Option.some.inj (show some (.slice ao_a5 ((denyT (smDn xd)).length) cap_a5) = some v1 from hV 1 _ rfl)
  subst e1
  have e3 := Option.some.inj (show some (.slice ao_a6 ((denyT (smDn xe)).length) cap_a6) = some v3 from hV 3 _ rfl)
  subst e3
  have e4 := Option.some.inj (show some (.slice ao_a5 ((denyT (smDn xd)).length) cap_a5) = some v4 from hV 4 _ rfl)
  subst e4
  have e5 := Option.some.inj (show some (.slice ao_a6 ((denyT (smDn xe)).length) cap_a6) = some v5 from hV 5 _ rfl)
  subst e5
  have ha0 := HA0.out
  subst ha0
  clear HA0 hV hYZ hZb hsz0 hrows hne oe10 oe11
  simp only [putAll, Act.put, List.setIfInBounds_toArray, List.set_cons_zero, List.set_cons_succ]
  go_upto_region 7 with (fail)
  generalize ha0 : Act.mk _ _ = a0
  have oe6 : a0.eval (.tmp 6) = .pointer (some ⟨w.heap.size, 0, none⟩) := by rw [← ha0]; rfl
  have hsz0 : a0.tmps.size = 116 := by rw [← ha0]; rfl
  have HA0 := Lib.hid ha0
  clear ha0
  refine wp_region_Q 116 hsz0 (by kernel_rfl) (by kernel_rfl) [54, 55, 56, 57, 58, 59, 60, 61, 62, 63, 19] (by kernel_rfl) (by decide) (fun _ => False) (fun _ _ => False) (fun _ _ h => h) [qi (.pointer (some ⟨w.heap.size, 0, none⟩)), qi (.int .i64 (smSt xs).rp), qi (.pointer (some ⟨w.heap.size, 1, none⟩)), qi (.agg #[.int .i64 (smSt xs).cl, .int .i64 (smSt xs).sq]), qi (.pointer (some ⟨w.heap.size, 3, none⟩)), qi (hv (smSt xs).h), qi (.pointer (some ⟨w.heap.size, 35, none⟩)), qi (.int .u64 ((smSt xs).tm : Nat)), qi (.agg (smSt xs).cells.toArray), qv 0, qv 0] ⟨qi_stable, qi_stable, qi_stable, qi_stable, qi_stable, qi_stable, qi_stable, qi_stable, qi_stable, qv_stable, qv_stable, trivial⟩ [9] (by kernel_rfl) (by decide) (by kernel_rfl) [] (by kernel_rfl) (by intro r hr; cases hr) (by intro r hr; cases hr) (by intro r hr; cases hr) ⟨?_, ?_, ?_, ?_, ?_, ?_, ?_, ?_, ?_, ?_, ?_, trivial⟩ ?_
  · refine stepq_env rfl rfl rfl fun Z tr act w' hZ hm hm0 hout hsz hd hub hpre => ?_
    refine qe_run rfl (wanted_none rfl) (ex_field rfl Try.underlying30 rfl (by kernel_rfl) ((hout 6 (by decide)).trans oe6)) QE.refl ?_
    rfl
  · refine stepq_env rfl rfl rfl fun Z tr act w' hZ hm hm0 hout hsz hd hub hpre => ?_
    have h0 := hd ⟨0, .data⟩ (by simp) rfl _ rfl
    refine qe_run rfl (wanted_none rfl) (ex_load1 rfl Try.underlying3 rfl h0 (Cs.pre1 (Hx170.out.mod (Mod.mono (S' := fun k => u6_2.heap.size ≤ k) hm (fun _ _ h => h.elim (fun h => h.2.elim) (fun h => h))) (by intro h2; (try dsimp only at h2); (try simp only [false_or] at h2); omega)) rfl)) QE.refl ?_
    rfl
  · refine stepq_env rfl rfl rfl fun Z tr act w' hZ hm hm0 hout hsz hd hub hpre => ?_
    refine qe_run rfl (wanted_none rfl) (ex_field rfl Try.underlying30 rfl (by kernel_rfl) ((hout 6 (by decide)).trans oe6)) QE.refl ?_
    rfl
  · refine stepq_env rfl rfl rfl fun Z tr act w' hZ hm hm0 hout hsz hd hub hpre => ?_
    have h2 := hd ⟨2, .data⟩ (by simp) rfl _ rfl
    refine qe_run rfl (wanted_none rfl) (ex_loadA rfl Try.underlying23 rfl (off := 1) (cs := [.int .i64 (smSt xs).cl, .int .i64 (smSt xs).sq]) (by kernel_rfl) h2 (Cs.preA (Hx170.out.mod (Mod.mono (S' := fun k => u6_2.heap.size ≤ k) hm (fun _ _ h => h.elim (fun h => h.2.elim) (fun h => h))) (by intro h2; (try dsimp only at h2); (try simp only [false_or] at h2); omega)) rfl)) QE.refl ?_
    rfl
  · refine stepq_env rfl rfl rfl fun Z tr act w' hZ hm hm0 hout hsz hd hub hpre => ?_
    refine qe_run rfl (wanted_none rfl) (ex_field rfl Try.underlying30 rfl (by kernel_rfl) ((hout 6 (by decide)).trans oe6)) QE.refl ?_
    rfl
  · refine stepq_env rfl rfl rfl fun Z tr act w' hZ hm hm0 hout hsz hd hub hpre => ?_
    have h4 := hd ⟨4, .data⟩ (by simp) rfl _ rfl
    refine qe_run rfl (wanted_none rfl) (ex_loadA rfl Try.underlying25 rfl (off := 3) (cs := (smSt xs).h.map bv) (by rw [List.length_map, (smSt_ok xs).h.1]; exact size_hash) h4 (Cs.midA (Hx170.out.mod (Mod.mono (S' := fun k => u6_2.heap.size ≤ k) hm (fun _ _ h => h.elim (fun h => h.2.elim) (fun h => h))) (by intro h2; (try dsimp only at h2); (try simp only [false_or] at h2); omega)) rfl)) QE.refl ?_
    rfl
  · refine stepq_env rfl rfl rfl fun Z tr act w' hZ hm hm0 hout hsz hd hub hpre => ?_
    refine qe_run rfl (wanted_none rfl) (ex_field rfl Try.underlying30 rfl (by kernel_rfl) ((hout 6 (by decide)).trans oe6)) QE.refl ?_
    rfl
  · refine stepq_env rfl rfl rfl fun Z tr act w' hZ hm hm0 hout hsz hd hub hpre => ?_
    have h6 := hd ⟨6, .data⟩ (by simp) rfl _ rfl
    refine qe_run rfl (wanted_none rfl) (ex_load1 rfl Try.underlying26 rfl h6 (Cs.post1 (m := 32) (k := 0) (Hx170.out.mod (Mod.mono (S' := fun k => u6_2.heap.size ≤ k) hm (fun _ _ h => h.elim (fun h => h.2.elim) (fun h => h))) (by intro h2; (try dsimp only at h2); (try simp only [false_or] at h2); omega)) (by rw [List.length_map]; exact (smSt_ok xs).h.1) rfl rfl)) QE.refl ?_
    rfl
  · refine stepq_env rfl rfl rfl fun Z tr act w' hZ hm hm0 hout hsz hd hub hpre => ?_
    have h1 := hd ⟨1, .data⟩ (by simp) rfl _ rfl
    have h3 := hd ⟨3, .data⟩ (by simp) rfl _ rfl
    have h5 := hd ⟨5, .data⟩ (by simp) rfl _ rfl
    have h7 := hd ⟨7, .data⟩ (by simp) rfl _ rfl
    refine qe_run rfl (wanted_none rfl) (ex_build rfl (z := [.int .i64 0, .int .i64 0, .int .i64 0, .int .u8 0, .int .u8 0, .int .u8 0, .int .u8 0, .int .u8 0, .int .u8 0, .int .u8 0, .int .u8 0, .int .u8 0, .int .u8 0, .int .u8 0, .int .u8 0, .int .u8 0, .int .u8 0, .int .u8 0, .int .u8 0, .int .u8 0, .int .u8 0, .int .u8 0, .int .u8 0, .int .u8 0, .int .u8 0, .int .u8 0, .int .u8 0, .int .u8 0, .int .u8 0, .int .u8 0, .int .u8 0, .int .u8 0, .int .u8 0, .int .u8 0, .int .u8 0, .int .u64 0, .int .i64 0, .int .i64 0]) (places := [(0, 1), (1, 2), (3, 32), (35, 1), (36, 2)]) (by kernel_rfl) (parts := [(0, .int .i64 (smSt xs).rp), (1, .agg #[.int .i64 (smSt xs).cl, .int .i64 (smSt xs).sq]), (2, hv (smSt xs).h), (3, .int .u64 ((smSt xs).tm : Nat))]) (by simp only [List.map_toArray, List.map_cons, List.map_nil, show act.eval (.tmp 55) = _ from h1, show act.eval (.tmp 57) = _ from h3, show act.eval (.tmp 59) = _ from h5, show act.eval (.tmp 61) = _ from h7]; try rfl) (r := (smSt xs).cells) (by rfl)) QE.refl ?_
    rfl
  · exact stepq_chain rfl
  · refine stepq_env rfl rfl rfl fun Z tr act w' hZ hm hm0 hout hsz hd hub hpre => ?_
    have h9 := hd ⟨9, .data⟩ (by simp) rfl _ rfl
    exact qe_run rfl (wanted_none rfl) (ex_assign rfl rfl) QE.refl h9
  intro u7_0 hr
  have zu7_0 := hr.size
  have Hx182 := Lib.hid (Hx170.out.mod hr (by intro h2; (try dsimp only at h2); (try simp only [false_or] at h2); omega))
  have Hx183 := Lib.hid (Hx171.out.mod hr (by intro h2; (try dsimp only at h2); (try simp only [false_or] at h2); omega))
  have Hx184 := Lib.hid (Hx172.out.mod hr (by intro h2; (try dsimp only at h2); (try simp only [false_or] at h2); omega))
  have Hx185 := Lib.hid (Hx173.out.mod hr (by intro h2; (try dsimp only at h2); (try simp only [false_or] at h2); omega))
  have Hx186 := Lib.hid (Hx174.out.mod hr (by intro h2; (try dsimp only at h2); (try simp only [false_or] at h2); omega))
  have Hx187 := Lib.hid (Hx175.out.mod hr (by intro h2; (try dsimp only at h2); (try simp only [false_or] at h2); omega))
  have Hx188 := Lib.hid (Hx176.out.trans hr (by intro k h1 h2; (try dsimp only at h2 ⊢); (try simp only [false_or] at h2 ⊢); omega))
  have Hx189 := Lib.hid (Hx177.out.mod hr (by intro k h1 h2; (try dsimp only at h1 h2); (try simp only [false_or] at h1 h2); omega))
  have Hx190 := Lib.hid (Hx178.out.mod hr (by intro k h1 h2; (try dsimp only at h1 h2); (try simp only [false_or] at h1 h2); omega))
  have Hx191 := Lib.hid (Hx179.out.mod hr (by intro k h1 h2; (try dsimp only at h1 h2); (try simp only [false_or] at h1 h2); omega))
  have Hx192 := Lib.hid (Hx180.out.mod hr (by intro k h1 h2; (try dsimp only at h1 h2); (try simp only [false_or] at h1 h2); omega))
  have Hx193 := Lib.hid (Hx181.out.mod hr (by intro k h1 h2; (try dsimp only at h1 h2); (try simp only [false_or] at h1 h2); omega))
  have Hx194 := Lib.hid (Hx169.out.mod hr (by intro k h1 h2; (try dsimp only at h1 h2); (try simp only [false_or] at h1 h2); omega))
  clear Hx170 Hx171 Hx172 Hx173 Hx174 Hx175 Hx176 Hx177 Hx178 Hx179 Hx180 Hx181 Hx169
  clear hr
  refine QChain.cons rfl fun Z act hYZ hZ hout hsz hd hpre => ?_
  have h8 := hd ⟨8, .data⟩ (by simp) rfl _ rfl
  have ea62 : act.eval (.tmp 62) = .agg (smSt xs).cells.toArray := h8
  refine qc_call (args := #[.agg (smSt xs).cells.toArray]) rfl (wanted_none rfl) (by rw [ex_callF rfl Try.func17 (by kernel_rfl) (by kernel_rfl)]; exact congrArg (fun z => Result.ok (Next.enter _ z) _) (by simp only [List.map_toArray, List.map_cons, List.map_nil, ea62]; try rfl)) (AckText_Q (fun _ => False) _ (smSt xs) _ ⟨rfl, smSt_ok xs⟩ (fun _ h => h.elim) (smAckT_len xs)) ?_
  rintro e u7_1a ⟨v_a7, rfl, qa7, hm⟩
  obtain ⟨ao_a7, cap_a7, rfl⟩ := qa7.shape
  have zu7_1a := hm.size
  refine ⟨_, rfl, hm.mono (fun _ _ h => h.elim), (fun _ => rfl), ?_⟩
  intro u7_1 hr
  have zu7_1 := hr.size
  have Hx195 := Lib.hid ((qa7.widen (R' := (fun k => (u7_0.heap.size ≤ k ∧ k < u7_1a.heap.size))) (by intro k h1; (try unfold New at h1); (try dsimp only at h1 ⊢); (try simp only [false_or] at h1 ⊢); omega) (Nat.le_refl _)).mod hr (by intro k h1 h2; (try dsimp only at h1 h2); (try simp only [false_or] at h1 h2); omega))
  have hmr := Mod.after hm hr
  have Hx196 := Lib.hid (Hx182.out.mod hmr (by intro h2; (try dsimp only at h2); (try simp only [false_or] at h2); omega))
  have Hx197 := Lib.hid (Hx183.out.mod hmr (by intro h2; (try dsimp only at h2); (try simp only [false_or] at h2); omega))
  have Hx198 := Lib.hid (Hx184.out.mod hmr (by intro h2; (try dsimp only at h2); (try simp only [false_or] at h2); omega))
  have Hx199 := Lib.hid (Hx185.out.mod hmr (by intro h2; (try dsimp only at h2); (try simp only [false_or] at h2); omega))
  have Hx200 := Lib.hid (Hx186.out.mod hmr (by intro h2; (try dsimp only at h2); (try simp only [false_or] at h2); omega))
  have Hx201 := Lib.hid (Hx187.out.mod hmr (by intro h2; (try dsimp only at h2); (try simp only [false_or] at h2); omega))
  have Hx202 := Lib.hid (Hx188.out.trans hmr (by intro k h1 h2; (try dsimp only at h2 ⊢); (try simp only [false_or] at h2 ⊢); omega))
  have Hx203 := Lib.hid (Hx189.out.mod hmr (by intro k h1 h2; (try dsimp only at h1 h2); (try simp only [false_or] at h1 h2); omega))
  have Hx204 := Lib.hid (Hx190.out.mod hmr (by intro k h1 h2; (try dsimp only at h1 h2); (try simp only [false_or] at h1 h2); omega))
  have Hx205 := Lib.hid (Hx191.out.mod hmr (by intro k h1 h2; (try dsimp only at h1 h2); (try simp only [false_or] at h1 h2); omega))
  have Hx206 := Lib.hid (Hx192.out.mod hmr (by intro k h1 h2; (try dsimp only at h1 h2); (try simp only [false_or] at h1 h2); omega))
  have Hx207 := Lib.hid (Hx193.out.mod hmr (by intro k h1 h2; (try dsimp only at h1 h2); (try simp only [false_or] at h1 h2); omega))
  have Hx208 := Lib.hid (Hx194.out.mod hmr (by intro k h1 h2; (try dsimp only at h1 h2); (try simp only [false_or] at h1 h2); omega))
  clear Hx182 Hx183 Hx184 Hx185 Hx186 Hx187 Hx188 Hx189 Hx190 Hx191 Hx192 Hx193 Hx194
  clear hmr
  clear hm hr hYZ hZ hout hsz hd hpre qa7 ea62 h8
  refine QChain.nil fun vs hl hzz hrows hne => ?_
  obtain ⟨Z, hYZ, hZb, hV⟩ := hzz
  obtain ⟨v0, vs0, rfl, hl0⟩ := list_cons hl
  obtain ⟨v1, vs1, rfl, hl1⟩ := list_cons hl0
  obtain ⟨v2, vs2, rfl, hl2⟩ := list_cons hl1
  obtain ⟨v3, vs3, rfl, hl3⟩ := list_cons hl2
  obtain ⟨v4, vs4, rfl, hl4⟩ := list_cons hl3
  obtain ⟨v5, vs5, rfl, hl5⟩ := list_cons hl4
  obtain ⟨v6, vs6, rfl, hl6⟩ := list_cons hl5
  obtain ⟨v7, vs7, rfl, hl7⟩ := list_cons hl6
  obtain ⟨v8, vs8, rfl, hl8⟩ := list_cons hl7
  obtain ⟨v9, vs9, rfl, hl9⟩ := list_cons hl8
  obtain ⟨v10, vs10, rfl, hl10⟩ := list_cons hl9
  obtain rfl := list_nil hl10
  clear hl hl0 hl1 hl2 hl3 hl4 hl5 hl6 hl7 hl8 hl9 hl10
  have e9 := Option.some.inj (show some (.slice ao_a7 ((ackT (smSt xs)).length) cap_a7) = some v9 from hV 9 _ rfl)
  subst e9
  have e10 := Option.some.inj (show some (.slice ao_a7 ((ackT (smSt xs)).length) cap_a7) = some v10 from hV 10 _ rfl)
  subst e10
  have ha0 := HA0.out
  subst ha0
  clear HA0 hV hYZ hZb hsz0 hrows hne oe6
  simp only [putAll, Act.put, List.setIfInBounds_toArray, List.set_cons_zero, List.set_cons_succ]
  obtain ⟨b0, hb0⟩ : ∃ z : Bool, decide (stampT (smSt xs) = stampT (smSt xt)) = z := ⟨_, rfl⟩
  have HD0 := Lib.hid hb0
  have HE0 := Lib.hid (show b0 = true ↔ (smSt xs).cells = (smSt xt).cells from (by rw [← hb0, decide_eq_true_iff]; exact sm_St xs xt))
  clear hb0
  obtain ⟨b1, hb1⟩ : ∃ z : Bool, decide (voteT (smVt xv) = voteT (smVt xw)) = z := ⟨_, rfl⟩
  have HD1 := Lib.hid hb1
  have HE1 := Lib.hid (show b1 = true ↔ (smVt xv).cells = (smVt xw).cells from (by rw [← hb1, decide_eq_true_iff]; exact sm_Vt xv xw))
  clear hb1
  obtain ⟨b2, hb2⟩ : ∃ z : Bool, decide (denyT (smDn xd) = denyT (smDn xe)) = z := ⟨_, rfl⟩
  have HD2 := Lib.hid hb2
  have HE2 := Lib.hid (show b2 = true ↔ (smDn xd).cells = (smDn xe).cells from (by rw [← hb2, decide_eq_true_iff]; exact sm_Dn xd xe))
  clear hb2
  go_upto_region 8 with (fail)
  generalize ha0 : Act.mk _ _ = a0
  have oe6 : a0.eval (.tmp 6) = .pointer (some ⟨w.heap.size, 0, none⟩) := by rw [← ha0]; rfl
  have oe7 : a0.eval (.tmp 7) = .pointer (some ⟨w.heap.size + 1, 0, none⟩) := by rw [← ha0]; rfl
  have oe8 : a0.eval (.tmp 8) = .pointer (some ⟨w.heap.size + 2, 0, none⟩) := by rw [← ha0]; rfl
  have oe9 : a0.eval (.tmp 9) = .pointer (some ⟨w.heap.size + 3, 0, none⟩) := by rw [← ha0]; rfl
  have oe10 : a0.eval (.tmp 10) = .pointer (some ⟨w.heap.size + 4, 0, none⟩) := by rw [← ha0]; rfl
  have oe11 : a0.eval (.tmp 11) = .pointer (some ⟨w.heap.size + 5, 0, none⟩) := by rw [← ha0]; rfl
  have oe13 : a0.eval (.tmp 13) = .slice ao_a1 ((stampT (smSt xs)).length) cap_a1 := by rw [← ha0]; rfl
  have oe14 : a0.eval (.tmp 14) = .slice ao_a2 ((stampT (smSt xt)).length) cap_a2 := by rw [← ha0]; rfl
  have oe15 : a0.eval (.tmp 15) = .slice ao_a3 ((voteT (smVt xv)).length) cap_a3 := by rw [← ha0]; rfl
  have oe16 : a0.eval (.tmp 16) = .slice ao_a4 ((voteT (smVt xw)).length) cap_a4 := by rw [← ha0]; rfl
  have oe17 : a0.eval (.tmp 17) = .slice ao_a5 ((denyT (smDn xd)).length) cap_a5 := by rw [← ha0]; rfl
  have oe18 : a0.eval (.tmp 18) = .slice ao_a6 ((denyT (smDn xe)).length) cap_a6 := by rw [← ha0]; rfl
  have oe19 : a0.eval (.tmp 19) = .slice ao_a7 ((ackT (smSt xs)).length) cap_a7 := by rw [← ha0]; rfl
  have hsz0 : a0.tmps.size = 116 := by rw [← ha0]; rfl
  have HA0 := Lib.hid ha0
  clear ha0
  refine wp_region_Q 116 hsz0 (by kernel_rfl) (by kernel_rfl) [64, 65, 66, 67, 68, 69, 70, 71, 72, 73, 74, 75, 76, 77, 78, 79, 80, 81, 82, 83, 84, 85, 86, 87, 88, 89, 90, 91, 92, 93, 94, 95, 96, 97, 98, 99, 100, 101, 102, 103, 104, 105, 106, 107, 108, 109, 110, 111, 112, 113, 114, 115, 12] (by kernel_rfl) (by decide) (fun _ => False) (fun _ _ => False) (fun _ _ h => h) [qi (.slice ao_a1 ((stampT (smSt xs)).length) cap_a1), qi (.slice ao_a2 ((stampT (smSt xt)).length) cap_a2), qi (.bool b0), qi (.agg ((smSt xs).cells).toArray), qi (.agg ((smSt xt).cells).toArray), qi (.bool b0), qi (.bool true), qi (.bool true), qi (.slice ao_a3 ((voteT (smVt xv)).length) cap_a3), qi (.slice ao_a4 ((voteT (smVt xw)).length) cap_a4), qi (.bool b1), qi (.agg ((smVt xv).cells).toArray), qi (.agg ((smVt xw).cells).toArray), qi (.bool b1), qi (.bool true), qi (.bool true), qi (.bool true), qi (.slice ao_a5 ((denyT (smDn xd)).length) cap_a5), qi (.slice ao_a6 ((denyT (smDn xe)).length) cap_a6), qi (.bool b2), qi (.agg ((smDn xd).cells).toArray), qi (.agg ((smDn xe).cells).toArray), qi (.bool b2), qi (.bool true), qi (.bool true), qi (.bool true), qi (.slice ao_a1 ((stampT (smSt xs)).length) cap_a1), qi (.slice ao_a3 ((voteT (smVt xv)).length) cap_a3), qi (.bool false), qi (.bool true), qi (.bool true), qi (.bool true), qi (.slice ao_a1 ((stampT (smSt xs)).length) cap_a1), qi (.slice ao_a5 ((denyT (smDn xd)).length) cap_a5), qi (.bool false), qi (.bool true), qi (.bool true), qi (.bool true), qi (.slice ao_a3 ((voteT (smVt xv)).length) cap_a3), qi (.slice ao_a5 ((denyT (smDn xd)).length) cap_a5), qi (.bool false), qi (.bool true), qi (.bool true), qi (.bool true), qi (.slice ao_a1 ((stampT (smSt xs)).length) cap_a1), qi (.slice ao_a7 ((ackT (smSt xs)).length) cap_a7), qi (.bool false), qi (.bool true), qi (.bool true), qi (.bool true), qi (.bool true), qi (.bool true), qi (.bool true)] ⟨qi_stable, qi_stable, qi_stable, qi_stable, qi_stable, qi_stable, qi_stable, qi_stable, qi_stable, qi_stable, qi_stable, qi_stable, qi_stable, qi_stable, qi_stable, qi_stable, qi_stable, qi_stable, qi_stable, qi_stable, qi_stable, qi_stable, qi_stable, qi_stable, qi_stable, qi_stable, qi_stable, qi_stable, qi_stable, qi_stable, qi_stable, qi_stable, qi_stable, qi_stable, qi_stable, qi_stable, qi_stable, qi_stable, qi_stable, qi_stable, qi_stable, qi_stable, qi_stable, qi_stable, qi_stable, qi_stable, qi_stable, qi_stable, qi_stable, qi_stable, qi_stable, qi_stable, qi_stable, trivial⟩ [2, 10, 19, 28, 34, 40, 46, 50] (by kernel_rfl) (by decide) (by kernel_rfl) [] (by kernel_rfl) (by intro r hr; cases hr) (by intro r hr; cases hr) (by intro r hr; cases hr) ⟨?_, ?_, ?_, ?_, ?_, ?_, ?_, ?_, ?_, ?_, ?_, ?_, ?_, ?_, ?_, ?_, ?_, ?_, ?_, ?_, ?_, ?_, ?_, ?_, ?_, ?_, ?_, ?_, ?_, ?_, ?_, ?_, ?_, ?_, ?_, ?_, ?_, ?_, ?_, ?_, ?_, ?_, ?_, ?_, ?_, ?_, ?_, ?_, ?_, ?_, ?_, ?_, ?_, trivial⟩ ?_
  · refine stepq_env rfl rfl rfl fun Z tr act w' hZ hm hm0 hout hsz hd hub hpre => ?_
    refine qe_run rfl (wanted_none rfl) (ex_move rfl ((hout 13 (by decide)).trans oe13)) QE.refl ?_
    rfl
  · refine stepq_env rfl rfl rfl fun Z tr act w' hZ hm hm0 hout hsz hd hub hpre => ?_
    refine qe_run rfl (wanted_none rfl) (ex_move rfl ((hout 14 (by decide)).trans oe14)) QE.refl ?_
    rfl
  · exact stepq_chain rfl
  · refine stepq_env rfl rfl rfl fun Z tr act w' hZ hm hm0 hout hsz hd hub hpre => ?_
    refine qe_run rfl (wanted_none rfl) (ex_loadA rfl Try.underlying30 rfl (off := 0) (cs := ((smSt xs).cells)) (by rw [St.len (smSt_ok xs)]; kernel_rfl) ((hout 6 (by decide)).trans oe6) (Cs.whole (Hx196.out.mod (Mod.mono (S' := fun k => u7_1.heap.size ≤ k) hm (fun _ _ h => h.elim (fun h => h.2.elim) (fun h => h))) (by intro h2; (try dsimp only at h2); (try simp only [false_or] at h2); omega)))) QE.refl ?_
    rfl
  · refine stepq_env rfl rfl rfl fun Z tr act w' hZ hm hm0 hout hsz hd hub hpre => ?_
    refine qe_run rfl (wanted_none rfl) (ex_loadA rfl Try.underlying30 rfl (off := 0) (cs := ((smSt xt).cells)) (by rw [St.len (smSt_ok xt)]; kernel_rfl) ((hout 7 (by decide)).trans oe7) (Cs.whole (Hx197.out.mod (Mod.mono (S' := fun k => u7_1.heap.size ≤ k) hm (fun _ _ h => h.elim (fun h => h.2.elim) (fun h => h))) (by intro h2; (try dsimp only at h2); (try simp only [false_or] at h2); omega)))) QE.refl ?_
    rfl
  · refine stepq_env rfl rfl rfl fun Z tr act w' hZ hm hm0 hout hsz hd hub hpre => ?_
    have h3 := hd ⟨3, .data⟩ (by simp) rfl _ rfl
    have h4 := hd ⟨4, .data⟩ (by simp) rfl _ rfl
    refine qe_run rfl (wanted_none rfl) (ex_binE rfl h3 h4 (agg_guardQ _ _ _ _ _ _ (by kernel_rfl) _) (EqW.run eqW_stamp (ki_st (smSt_ok xs)) (ki_st (smSt_ok xt)) HE0.out _) rfl) QE.refl ?_
    rfl
  · refine stepq_env rfl rfl rfl fun Z tr act w' hZ hm hm0 hout hsz hd hub hpre => ?_
    have h2 := hd ⟨2, .data⟩ (by simp) rfl _ rfl
    have h5 := hd ⟨5, .data⟩ (by simp) rfl _ rfl
    refine qe_run rfl (wanted_none rfl) (ex_binE rfl h2 h5 (guard_bools _ _ _ _ _ _) (run_eql_bools _ _ _ Try.underlying4) (congrArg Value.bool (beq_self_eq_true b0))) QE.refl ?_
    rfl
  · refine stepq_env rfl rfl rfl fun Z tr act w' hZ hm hm0 hout hsz hd hub hpre => ?_
    have h6 := hd ⟨6, .data⟩ (by simp) rfl _ rfl
    refine qe_run rfl (wanted_none rfl) (ex_move rfl h6) QE.refl ?_
    rfl
  · refine stepq_env rfl rfl rfl fun Z tr act w' hZ hm hm0 hout hsz hd hub hpre => ?_
    have h7 := hd ⟨7, .guard⟩ (by simp) rfl _ rfl
    refine qe_run rfl ((wanted_of rfl rfl (hsz 71 (by decide)) h7).trans rfl) (ex_move rfl ((hout 15 (by decide)).trans oe15)) QE.refl ?_
    rfl
  · refine stepq_env rfl rfl rfl fun Z tr act w' hZ hm hm0 hout hsz hd hub hpre => ?_
    have h7 := hd ⟨7, .guard⟩ (by simp) rfl _ rfl
    refine qe_run rfl ((wanted_of rfl rfl (hsz 71 (by decide)) h7).trans rfl) (ex_move rfl ((hout 16 (by decide)).trans oe16)) QE.refl ?_
    rfl
  · exact stepq_chain rfl
  · refine stepq_env rfl rfl rfl fun Z tr act w' hZ hm hm0 hout hsz hd hub hpre => ?_
    have h7 := hd ⟨7, .guard⟩ (by simp) rfl _ rfl
    refine qe_run rfl ((wanted_of rfl rfl (hsz 71 (by decide)) h7).trans rfl) (ex_loadA rfl Try.underlying32 rfl (off := 0) (cs := ((smVt xv).cells)) (by rw [Vt.len (smVt_ok xv)]; kernel_rfl) ((hout 8 (by decide)).trans oe8) (Cs.whole (Hx198.out.mod (Mod.mono (S' := fun k => u7_1.heap.size ≤ k) hm (fun _ _ h => h.elim (fun h => h.2.elim) (fun h => h))) (by intro h2; (try dsimp only at h2); (try simp only [false_or] at h2); omega)))) QE.refl ?_
    rfl
  · refine stepq_env rfl rfl rfl fun Z tr act w' hZ hm hm0 hout hsz hd hub hpre => ?_
    have h7 := hd ⟨7, .guard⟩ (by simp) rfl _ rfl
    refine qe_run rfl ((wanted_of rfl rfl (hsz 71 (by decide)) h7).trans rfl) (ex_loadA rfl Try.underlying32 rfl (off := 0) (cs := ((smVt xw).cells)) (by rw [Vt.len (smVt_ok xw)]; kernel_rfl) ((hout 9 (by decide)).trans oe9) (Cs.whole (Hx199.out.mod (Mod.mono (S' := fun k => u7_1.heap.size ≤ k) hm (fun _ _ h => h.elim (fun h => h.2.elim) (fun h => h))) (by intro h2; (try dsimp only at h2); (try simp only [false_or] at h2); omega)))) QE.refl ?_
    rfl
  · refine stepq_env rfl rfl rfl fun Z tr act w' hZ hm hm0 hout hsz hd hub hpre => ?_
    have h7 := hd ⟨7, .guard⟩ (by simp) rfl _ rfl
    have h11 := hd ⟨11, .data⟩ (by simp) rfl _ rfl
    have h12 := hd ⟨12, .data⟩ (by simp) rfl _ rfl
    refine qe_run rfl ((wanted_of rfl rfl (hsz 71 (by decide)) h7).trans rfl) (ex_binE rfl h11 h12 (agg_guardQ _ _ _ _ _ _ (by kernel_rfl) _) (EqW.run eqW_vote (ki_vt (smVt_ok xv)) (ki_vt (smVt_ok xw)) HE1.out _) rfl) QE.refl ?_
    rfl
  · refine stepq_env rfl rfl rfl fun Z tr act w' hZ hm hm0 hout hsz hd hub hpre => ?_
    have h7 := hd ⟨7, .guard⟩ (by simp) rfl _ rfl
    have h10 := hd ⟨10, .data⟩ (by simp) rfl _ rfl
    have h13 := hd ⟨13, .data⟩ (by simp) rfl _ rfl
    refine qe_run rfl ((wanted_of rfl rfl (hsz 71 (by decide)) h7).trans rfl) (ex_binE rfl h10 h13 (guard_bools _ _ _ _ _ _) (run_eql_bools _ _ _ Try.underlying4) (congrArg Value.bool (beq_self_eq_true b1))) QE.refl ?_
    rfl
  · refine stepq_env rfl rfl rfl fun Z tr act w' hZ hm hm0 hout hsz hd hub hpre => ?_
    have h7 := hd ⟨7, .data⟩ (by simp) rfl _ rfl
    have h14 := hd ⟨14, .data⟩ (by simp) rfl _ rfl
    refine qe_run rfl (wanted_none rfl) (ex_pick rfl h7 h14 rfl) QE.refl ?_
    rfl
  · refine stepq_env rfl rfl rfl fun Z tr act w' hZ hm hm0 hout hsz hd hub hpre => ?_
    have h15 := hd ⟨15, .data⟩ (by simp) rfl _ rfl
    refine qe_run rfl (wanted_none rfl) (ex_move rfl h15) QE.refl ?_
    rfl
  · refine stepq_env rfl rfl rfl fun Z tr act w' hZ hm hm0 hout hsz hd hub hpre => ?_
    have h16 := hd ⟨16, .guard⟩ (by simp) rfl _ rfl
    refine qe_run rfl ((wanted_of rfl rfl (hsz 80 (by decide)) h16).trans rfl) (ex_move rfl ((hout 17 (by decide)).trans oe17)) QE.refl ?_
    rfl
  · refine stepq_env rfl rfl rfl fun Z tr act w' hZ hm hm0 hout hsz hd hub hpre => ?_
    have h16 := hd ⟨16, .guard⟩ (by simp) rfl _ rfl
    refine qe_run rfl ((wanted_of rfl rfl (hsz 80 (by decide)) h16).trans rfl) (ex_move rfl ((hout 18 (by decide)).trans oe18)) QE.refl ?_
    rfl
  · exact stepq_chain rfl
  · refine stepq_env rfl rfl rfl fun Z tr act w' hZ hm hm0 hout hsz hd hub hpre => ?_
    have h16 := hd ⟨16, .guard⟩ (by simp) rfl _ rfl
    refine qe_run rfl ((wanted_of rfl rfl (hsz 80 (by decide)) h16).trans rfl) (ex_loadA rfl Try.underlying34 rfl (off := 0) (cs := ((smDn xd).cells)) (by kernel_rfl) ((hout 10 (by decide)).trans oe10) (Cs.whole (Hx200.out.mod (Mod.mono (S' := fun k => u7_1.heap.size ≤ k) hm (fun _ _ h => h.elim (fun h => h.2.elim) (fun h => h))) (by intro h2; (try dsimp only at h2); (try simp only [false_or] at h2); omega)))) QE.refl ?_
    rfl
  · refine stepq_env rfl rfl rfl fun Z tr act w' hZ hm hm0 hout hsz hd hub hpre => ?_
    have h16 := hd ⟨16, .guard⟩ (by simp) rfl _ rfl
    refine qe_run rfl ((wanted_of rfl rfl (hsz 80 (by decide)) h16).trans rfl) (ex_loadA rfl Try.underlying34 rfl (off := 0) (cs := ((smDn xe).cells)) (by kernel_rfl) ((hout 11 (by decide)).trans oe11) (Cs.whole (Hx201.out.mod (Mod.mono (S' := fun k => u7_1.heap.size ≤ k) hm (fun _ _ h => h.elim (fun h => h.2.elim) (fun h => h))) (by intro h2; (try dsimp only at h2); (try simp only [false_or] at h2); omega)))) QE.refl ?_
    rfl
  · refine stepq_env rfl rfl rfl fun Z tr act w' hZ hm hm0 hout hsz hd hub hpre => ?_
    have h16 := hd ⟨16, .guard⟩ (by simp) rfl _ rfl
    have h20 := hd ⟨20, .data⟩ (by simp) rfl _ rfl
    have h21 := hd ⟨21, .data⟩ (by simp) rfl _ rfl
    refine qe_run rfl ((wanted_of rfl rfl (hsz 80 (by decide)) h16).trans rfl) (ex_binE rfl h20 h21 (agg_guardQ _ _ _ _ _ _ (by kernel_rfl) _) (EqW.run eqW_deny (ki_dn (smDn xd)) (ki_dn (smDn xe)) HE2.out _) rfl) QE.refl ?_
    rfl
  · refine stepq_env rfl rfl rfl fun Z tr act w' hZ hm hm0 hout hsz hd hub hpre => ?_
    have h16 := hd ⟨16, .guard⟩ (by simp) rfl _ rfl
    have h19 := hd ⟨19, .data⟩ (by simp) rfl _ rfl
    have h22 := hd ⟨22, .data⟩ (by simp) rfl _ rfl
    refine qe_run rfl ((wanted_of rfl rfl (hsz 80 (by decide)) h16).trans rfl) (ex_binE rfl h19 h22 (guard_bools _ _ _ _ _ _) (run_eql_bools _ _ _ Try.underlying4) (congrArg Value.bool (beq_self_eq_true b2))) QE.refl ?_
    rfl
  · refine stepq_env rfl rfl rfl fun Z tr act w' hZ hm hm0 hout hsz hd hub hpre => ?_
    have h16 := hd ⟨16, .data⟩ (by simp) rfl _ rfl
    have h23 := hd ⟨23, .data⟩ (by simp) rfl _ rfl
    refine qe_run rfl (wanted_none rfl) (ex_pick rfl h16 h23 rfl) QE.refl ?_
    rfl
  · refine stepq_env rfl rfl rfl fun Z tr act w' hZ hm hm0 hout hsz hd hub hpre => ?_
    have h24 := hd ⟨24, .data⟩ (by simp) rfl _ rfl
    refine qe_run rfl (wanted_none rfl) (ex_move rfl h24) QE.refl ?_
    rfl
  · refine stepq_env rfl rfl rfl fun Z tr act w' hZ hm hm0 hout hsz hd hub hpre => ?_
    have h25 := hd ⟨25, .guard⟩ (by simp) rfl _ rfl
    refine qe_run rfl ((wanted_of rfl rfl (hsz 89 (by decide)) h25).trans rfl) (ex_move rfl ((hout 13 (by decide)).trans oe13)) QE.refl ?_
    rfl
  · refine stepq_env rfl rfl rfl fun Z tr act w' hZ hm hm0 hout hsz hd hub hpre => ?_
    have h25 := hd ⟨25, .guard⟩ (by simp) rfl _ rfl
    refine qe_run rfl ((wanted_of rfl rfl (hsz 89 (by decide)) h25).trans rfl) (ex_move rfl ((hout 15 (by decide)).trans oe15)) QE.refl ?_
    rfl
  · exact stepq_chain rfl
  · refine stepq_env rfl rfl rfl fun Z tr act w' hZ hm hm0 hout hsz hd hub hpre => ?_
    have h25 := hd ⟨25, .guard⟩ (by simp) rfl _ rfl
    have h28 := hd ⟨28, .data⟩ (by simp) rfl _ rfl
    refine qe_run rfl ((wanted_of rfl rfl (hsz 89 (by decide)) h25).trans rfl) (ex_not rfl h28) QE.refl ?_
    rfl
  · refine stepq_env rfl rfl rfl fun Z tr act w' hZ hm hm0 hout hsz hd hub hpre => ?_
    have h25 := hd ⟨25, .data⟩ (by simp) rfl _ rfl
    have h29 := hd ⟨29, .data⟩ (by simp) rfl _ rfl
    refine qe_run rfl (wanted_none rfl) (ex_pick rfl h25 h29 rfl) QE.refl ?_
    rfl
  · refine stepq_env rfl rfl rfl fun Z tr act w' hZ hm hm0 hout hsz hd hub hpre => ?_
    have h30 := hd ⟨30, .data⟩ (by simp) rfl _ rfl
    refine qe_run rfl (wanted_none rfl) (ex_move rfl h30) QE.refl ?_
    rfl
  · refine stepq_env rfl rfl rfl fun Z tr act w' hZ hm hm0 hout hsz hd hub hpre => ?_
    have h31 := hd ⟨31, .guard⟩ (by simp) rfl _ rfl
    refine qe_run rfl ((wanted_of rfl rfl (hsz 95 (by decide)) h31).trans rfl) (ex_move rfl ((hout 13 (by decide)).trans oe13)) QE.refl ?_
    rfl
  · refine stepq_env rfl rfl rfl fun Z tr act w' hZ hm hm0 hout hsz hd hub hpre => ?_
    have h31 := hd ⟨31, .guard⟩ (by simp) rfl _ rfl
    refine qe_run rfl ((wanted_of rfl rfl (hsz 95 (by decide)) h31).trans rfl) (ex_move rfl ((hout 17 (by decide)).trans oe17)) QE.refl ?_
    rfl
  · exact stepq_chain rfl
  · refine stepq_env rfl rfl rfl fun Z tr act w' hZ hm hm0 hout hsz hd hub hpre => ?_
    have h31 := hd ⟨31, .guard⟩ (by simp) rfl _ rfl
    have h34 := hd ⟨34, .data⟩ (by simp) rfl _ rfl
    refine qe_run rfl ((wanted_of rfl rfl (hsz 95 (by decide)) h31).trans rfl) (ex_not rfl h34) QE.refl ?_
    rfl
  · refine stepq_env rfl rfl rfl fun Z tr act w' hZ hm hm0 hout hsz hd hub hpre => ?_
    have h31 := hd ⟨31, .data⟩ (by simp) rfl _ rfl
    have h35 := hd ⟨35, .data⟩ (by simp) rfl _ rfl
    refine qe_run rfl (wanted_none rfl) (ex_pick rfl h31 h35 rfl) QE.refl ?_
    rfl
  · refine stepq_env rfl rfl rfl fun Z tr act w' hZ hm hm0 hout hsz hd hub hpre => ?_
    have h36 := hd ⟨36, .data⟩ (by simp) rfl _ rfl
    refine qe_run rfl (wanted_none rfl) (ex_move rfl h36) QE.refl ?_
    rfl
  · refine stepq_env rfl rfl rfl fun Z tr act w' hZ hm hm0 hout hsz hd hub hpre => ?_
    have h37 := hd ⟨37, .guard⟩ (by simp) rfl _ rfl
    refine qe_run rfl ((wanted_of rfl rfl (hsz 101 (by decide)) h37).trans rfl) (ex_move rfl ((hout 15 (by decide)).trans oe15)) QE.refl ?_
    rfl
  · refine stepq_env rfl rfl rfl fun Z tr act w' hZ hm hm0 hout hsz hd hub hpre => ?_
    have h37 := hd ⟨37, .guard⟩ (by simp) rfl _ rfl
    refine qe_run rfl ((wanted_of rfl rfl (hsz 101 (by decide)) h37).trans rfl) (ex_move rfl ((hout 17 (by decide)).trans oe17)) QE.refl ?_
    rfl
  · exact stepq_chain rfl
  · refine stepq_env rfl rfl rfl fun Z tr act w' hZ hm hm0 hout hsz hd hub hpre => ?_
    have h37 := hd ⟨37, .guard⟩ (by simp) rfl _ rfl
    have h40 := hd ⟨40, .data⟩ (by simp) rfl _ rfl
    refine qe_run rfl ((wanted_of rfl rfl (hsz 101 (by decide)) h37).trans rfl) (ex_not rfl h40) QE.refl ?_
    rfl
  · refine stepq_env rfl rfl rfl fun Z tr act w' hZ hm hm0 hout hsz hd hub hpre => ?_
    have h37 := hd ⟨37, .data⟩ (by simp) rfl _ rfl
    have h41 := hd ⟨41, .data⟩ (by simp) rfl _ rfl
    refine qe_run rfl (wanted_none rfl) (ex_pick rfl h37 h41 rfl) QE.refl ?_
    rfl
  · refine stepq_env rfl rfl rfl fun Z tr act w' hZ hm hm0 hout hsz hd hub hpre => ?_
    have h42 := hd ⟨42, .data⟩ (by simp) rfl _ rfl
    refine qe_run rfl (wanted_none rfl) (ex_move rfl h42) QE.refl ?_
    rfl
  · refine stepq_env rfl rfl rfl fun Z tr act w' hZ hm hm0 hout hsz hd hub hpre => ?_
    have h43 := hd ⟨43, .guard⟩ (by simp) rfl _ rfl
    refine qe_run rfl ((wanted_of rfl rfl (hsz 107 (by decide)) h43).trans rfl) (ex_move rfl ((hout 13 (by decide)).trans oe13)) QE.refl ?_
    rfl
  · refine stepq_env rfl rfl rfl fun Z tr act w' hZ hm hm0 hout hsz hd hub hpre => ?_
    have h43 := hd ⟨43, .guard⟩ (by simp) rfl _ rfl
    refine qe_run rfl ((wanted_of rfl rfl (hsz 107 (by decide)) h43).trans rfl) (ex_move rfl ((hout 19 (by decide)).trans oe19)) QE.refl ?_
    rfl
  · exact stepq_chain rfl
  · refine stepq_env rfl rfl rfl fun Z tr act w' hZ hm hm0 hout hsz hd hub hpre => ?_
    have h43 := hd ⟨43, .guard⟩ (by simp) rfl _ rfl
    have h46 := hd ⟨46, .data⟩ (by simp) rfl _ rfl
    refine qe_run rfl ((wanted_of rfl rfl (hsz 107 (by decide)) h43).trans rfl) (ex_not rfl h46) QE.refl ?_
    rfl
  · refine stepq_env rfl rfl rfl fun Z tr act w' hZ hm hm0 hout hsz hd hub hpre => ?_
    have h43 := hd ⟨43, .data⟩ (by simp) rfl _ rfl
    have h47 := hd ⟨47, .data⟩ (by simp) rfl _ rfl
    refine qe_run rfl (wanted_none rfl) (ex_pick rfl h43 h47 rfl) QE.refl ?_
    rfl
  · refine stepq_env rfl rfl rfl fun Z tr act w' hZ hm hm0 hout hsz hd hub hpre => ?_
    have h48 := hd ⟨48, .data⟩ (by simp) rfl _ rfl
    refine qe_run rfl (wanted_none rfl) (ex_move rfl h48) QE.refl ?_
    rfl
  · exact stepq_chain rfl
  · refine stepq_env rfl rfl rfl fun Z tr act w' hZ hm hm0 hout hsz hd hub hpre => ?_
    have h49 := hd ⟨49, .data⟩ (by simp) rfl _ rfl
    have h50 := hd ⟨50, .data⟩ (by simp) rfl _ rfl
    refine qe_run rfl (wanted_none rfl) (ex_pick rfl h49 h50 rfl) QE.refl ?_
    rfl
  · refine stepq_env rfl rfl rfl fun Z tr act w' hZ hm hm0 hout hsz hd hub hpre => ?_
    have h51 := hd ⟨51, .data⟩ (by simp) rfl _ rfl
    refine qe_run rfl (wanted_none rfl) (ex_assign rfl h51) QE.refl ?_
    rfl
  intro u8_0 hr
  have zu8_0 := hr.size
  clear Hx196
  clear Hx197
  clear Hx198
  clear Hx199
  clear Hx200
  clear Hx201
  have Hx209 := Lib.hid (Hx202.out.trans hr (by intro k h1 h2; (try dsimp only at h2 ⊢); (try simp only [false_or] at h2 ⊢); omega))
  have Hx210 := Lib.hid (Hx203.out.mod hr (by intro k h1 h2; (try dsimp only at h1 h2); (try simp only [false_or] at h1 h2); omega))
  have Hx211 := Lib.hid (Hx204.out.mod hr (by intro k h1 h2; (try dsimp only at h1 h2); (try simp only [false_or] at h1 h2); omega))
  have Hx212 := Lib.hid (Hx205.out.mod hr (by intro k h1 h2; (try dsimp only at h1 h2); (try simp only [false_or] at h1 h2); omega))
  have Hx213 := Lib.hid (Hx206.out.mod hr (by intro k h1 h2; (try dsimp only at h1 h2); (try simp only [false_or] at h1 h2); omega))
  have Hx214 := Lib.hid (Hx207.out.mod hr (by intro k h1 h2; (try dsimp only at h1 h2); (try simp only [false_or] at h1 h2); omega))
  have Hx215 := Lib.hid (Hx208.out.mod hr (by intro k h1 h2; (try dsimp only at h1 h2); (try simp only [false_or] at h1 h2); omega))
  have Hx216 := Lib.hid (Hx195.out.mod hr (by intro k h1 h2; (try dsimp only at h1 h2); (try simp only [false_or] at h1 h2); omega))
  clear Hx202 Hx203 Hx204 Hx205 Hx206 Hx207 Hx208 Hx195
  clear hr
  refine QChain.cons rfl fun Z act hYZ hZ hout hsz hd hpre => ?_
  have h0 := hd ⟨0, .data⟩ (by simp) rfl _ rfl
  have h1 := hd ⟨1, .data⟩ (by simp) rfl _ rfl
  have ea64 : act.eval (.tmp 64) = .slice ao_a1 ((stampT (smSt xs)).length) cap_a1 := h0
  have ea65 : act.eval (.tmp 65) = .slice ao_a2 ((stampT (smSt xt)).length) cap_a2 := h1
  refine qc_call (args := #[.slice ao_a1 ((stampT (smSt xs)).length) cap_a1, .slice ao_a2 ((stampT (smSt xt)).length) cap_a2]) rfl (wanted_none rfl) (by rw [ex_callF rfl Try.func18 (by kernel_rfl) (by kernel_rfl)]; exact congrArg (fun z => Result.ok (Next.enter _ z) _) (by simp only [List.map_toArray, List.map_cons, List.map_nil, ea64, ea65]; try rfl)) (Same_b Hx210.out.rd Hx211.out.rd HD0.out) ?_
  rintro e u8_1a ⟨rfl, hm⟩
  have zu8_1a := hm.size
  refine ⟨_, rfl, hm.mono (fun _ _ h => h.elim), (fun _ => rfl), ?_⟩
  intro u8_1 hr
  have zu8_1 := hr.size
  have hmr := Mod.after hm hr
  have Hx217 := Lib.hid (Hx209.out.trans hmr (by intro k h1 h2; (try dsimp only at h2 ⊢); (try simp only [false_or] at h2 ⊢); omega))
  have Hx218 := Lib.hid (Hx210.out.mod hmr (by intro k h1 h2; (try dsimp only at h1 h2); (try simp only [false_or] at h1 h2); omega))
  have Hx219 := Lib.hid (Hx211.out.mod hmr (by intro k h1 h2; (try dsimp only at h1 h2); (try simp only [false_or] at h1 h2); omega))
  have Hx220 := Lib.hid (Hx212.out.mod hmr (by intro k h1 h2; (try dsimp only at h1 h2); (try simp only [false_or] at h1 h2); omega))
  have Hx221 := Lib.hid (Hx213.out.mod hmr (by intro k h1 h2; (try dsimp only at h1 h2); (try simp only [false_or] at h1 h2); omega))
  have Hx222 := Lib.hid (Hx214.out.mod hmr (by intro k h1 h2; (try dsimp only at h1 h2); (try simp only [false_or] at h1 h2); omega))
  have Hx223 := Lib.hid (Hx215.out.mod hmr (by intro k h1 h2; (try dsimp only at h1 h2); (try simp only [false_or] at h1 h2); omega))
  have Hx224 := Lib.hid (Hx216.out.mod hmr (by intro k h1 h2; (try dsimp only at h1 h2); (try simp only [false_or] at h1 h2); omega))
  clear Hx209 Hx210 Hx211 Hx212 Hx213 Hx214 Hx215 Hx216
  clear hmr
  clear hm hr hYZ hZ hout hsz hd hpre ea64 ea65 h0 h1
  clear Hx219
  refine QChain.cons rfl fun Z act hYZ hZ hout hsz hd hpre => ?_
  have h7 := hd ⟨7, .chain⟩ (by simp) rfl _ rfl
  have h8 := hd ⟨8, .data⟩ (by simp) rfl _ rfl
  have h9 := hd ⟨9, .data⟩ (by simp) rfl _ rfl
  have ea72 : act.eval (.tmp 72) = .slice ao_a3 ((voteT (smVt xv)).length) cap_a3 := h8
  have ea73 : act.eval (.tmp 73) = .slice ao_a4 ((voteT (smVt xw)).length) cap_a4 := h9
  refine qc_call (args := #[.slice ao_a3 ((voteT (smVt xv)).length) cap_a3, .slice ao_a4 ((voteT (smVt xw)).length) cap_a4]) rfl ((wanted_of rfl rfl (hsz 71 (by decide)) h7).trans rfl) (by rw [ex_callF rfl Try.func18 (by kernel_rfl) (by kernel_rfl)]; exact congrArg (fun z => Result.ok (Next.enter _ z) _) (by simp only [List.map_toArray, List.map_cons, List.map_nil, ea72, ea73]; try rfl)) (Same_b Hx220.out.rd Hx221.out.rd HD1.out) ?_
  rintro e u8_2a ⟨rfl, hm⟩
  have zu8_2a := hm.size
  refine ⟨_, rfl, hm.mono (fun _ _ h => h.elim), (fun _ => rfl), ?_⟩
  intro u8_2 hr
  have zu8_2 := hr.size
  have hmr := Mod.after hm hr
  have Hx225 := Lib.hid (Hx217.out.trans hmr (by intro k h1 h2; (try dsimp only at h2 ⊢); (try simp only [false_or] at h2 ⊢); omega))
  have Hx226 := Lib.hid (Hx218.out.mod hmr (by intro k h1 h2; (try dsimp only at h1 h2); (try simp only [false_or] at h1 h2); omega))
  have Hx227 := Lib.hid (Hx220.out.mod hmr (by intro k h1 h2; (try dsimp only at h1 h2); (try simp only [false_or] at h1 h2); omega))
  have Hx228 := Lib.hid (Hx221.out.mod hmr (by intro k h1 h2; (try dsimp only at h1 h2); (try simp only [false_or] at h1 h2); omega))
  have Hx229 := Lib.hid (Hx222.out.mod hmr (by intro k h1 h2; (try dsimp only at h1 h2); (try simp only [false_or] at h1 h2); omega))
  have Hx230 := Lib.hid (Hx223.out.mod hmr (by intro k h1 h2; (try dsimp only at h1 h2); (try simp only [false_or] at h1 h2); omega))
  have Hx231 := Lib.hid (Hx224.out.mod hmr (by intro k h1 h2; (try dsimp only at h1 h2); (try simp only [false_or] at h1 h2); omega))
  clear Hx217 Hx218 Hx220 Hx221 Hx222 Hx223 Hx224
  clear hmr
  clear hm hr hYZ hZ hout hsz hd hpre ea72 ea73 h7 h8 h9
  clear Hx228
  refine QChain.cons rfl fun Z act hYZ hZ hout hsz hd hpre => ?_
  have h16 := hd ⟨16, .chain⟩ (by simp) rfl _ rfl
  have h17 := hd ⟨17, .data⟩ (by simp) rfl _ rfl
  have h18 := hd ⟨18, .data⟩ (by simp) rfl _ rfl
  have ea81 : act.eval (.tmp 81) = .slice ao_a5 ((denyT (smDn xd)).length) cap_a5 := h17
  have ea82 : act.eval (.tmp 82) = .slice ao_a6 ((denyT (smDn xe)).length) cap_a6 := h18
  refine qc_call (args := #[.slice ao_a5 ((denyT (smDn xd)).length) cap_a5, .slice ao_a6 ((denyT (smDn xe)).length) cap_a6]) rfl ((wanted_of rfl rfl (hsz 80 (by decide)) h16).trans rfl) (by rw [ex_callF rfl Try.func18 (by kernel_rfl) (by kernel_rfl)]; exact congrArg (fun z => Result.ok (Next.enter _ z) _) (by simp only [List.map_toArray, List.map_cons, List.map_nil, ea81, ea82]; try rfl)) (Same_b Hx229.out.rd Hx230.out.rd HD2.out) ?_
  rintro e u8_3a ⟨rfl, hm⟩
  have zu8_3a := hm.size
  refine ⟨_, rfl, hm.mono (fun _ _ h => h.elim), (fun _ => rfl), ?_⟩
  intro u8_3 hr
  have zu8_3 := hr.size
  have hmr := Mod.after hm hr
  have Hx232 := Lib.hid (Hx225.out.trans hmr (by intro k h1 h2; (try dsimp only at h2 ⊢); (try simp only [false_or] at h2 ⊢); omega))
  have Hx233 := Lib.hid (Hx226.out.mod hmr (by intro k h1 h2; (try dsimp only at h1 h2); (try simp only [false_or] at h1 h2); omega))
  have Hx234 := Lib.hid (Hx227.out.mod hmr (by intro k h1 h2; (try dsimp only at h1 h2); (try simp only [false_or] at h1 h2); omega))
  have Hx235 := Lib.hid (Hx229.out.mod hmr (by intro k h1 h2; (try dsimp only at h1 h2); (try simp only [false_or] at h1 h2); omega))
  have Hx236 := Lib.hid (Hx230.out.mod hmr (by intro k h1 h2; (try dsimp only at h1 h2); (try simp only [false_or] at h1 h2); omega))
  have Hx237 := Lib.hid (Hx231.out.mod hmr (by intro k h1 h2; (try dsimp only at h1 h2); (try simp only [false_or] at h1 h2); omega))
  clear Hx225 Hx226 Hx227 Hx229 Hx230 Hx231
  clear hmr
  clear hm hr hYZ hZ hout hsz hd hpre ea81 ea82 h16 h17 h18
  clear Hx236
  refine QChain.cons rfl fun Z act hYZ hZ hout hsz hd hpre => ?_
  have h25 := hd ⟨25, .chain⟩ (by simp) rfl _ rfl
  have h26 := hd ⟨26, .data⟩ (by simp) rfl _ rfl
  have h27 := hd ⟨27, .data⟩ (by simp) rfl _ rfl
  have ea90 : act.eval (.tmp 90) = .slice ao_a1 ((stampT (smSt xs)).length) cap_a1 := h26
  have ea91 : act.eval (.tmp 91) = .slice ao_a3 ((voteT (smVt xv)).length) cap_a3 := h27
  refine qc_call (args := #[.slice ao_a1 ((stampT (smSt xs)).length) cap_a1, .slice ao_a3 ((voteT (smVt xv)).length) cap_a3]) rfl ((wanted_of rfl rfl (hsz 89 (by decide)) h25).trans rfl) (by rw [ex_callF rfl Try.func18 (by kernel_rfl) (by kernel_rfl)]; exact congrArg (fun z => Result.ok (Next.enter _ z) _) (by simp only [List.map_toArray, List.map_cons, List.map_nil, ea90, ea91]; try rfl)) (Same_b Hx233.out.rd Hx234.out.rd (decide_eq_false (sm_ax _ _))) ?_
  rintro e u8_4a ⟨rfl, hm⟩
  have zu8_4a := hm.size
  refine ⟨_, rfl, hm.mono (fun _ _ h => h.elim), (fun _ => rfl), ?_⟩
  intro u8_4 hr
  have zu8_4 := hr.size
  have hmr := Mod.after hm hr
  have Hx238 := Lib.hid (Hx232.out.trans hmr (by intro k h1 h2; (try dsimp only at h2 ⊢); (try simp only [false_or] at h2 ⊢); omega))
  have Hx239 := Lib.hid (Hx233.out.mod hmr (by intro k h1 h2; (try dsimp only at h1 h2); (try simp only [false_or] at h1 h2); omega))
  have Hx240 := Lib.hid (Hx234.out.mod hmr (by intro k h1 h2; (try dsimp only at h1 h2); (try simp only [false_or] at h1 h2); omega))
  have Hx241 := Lib.hid (Hx235.out.mod hmr (by intro k h1 h2; (try dsimp only at h1 h2); (try simp only [false_or] at h1 h2); omega))
  have Hx242 := Lib.hid (Hx237.out.mod hmr (by intro k h1 h2; (try dsimp only at h1 h2); (try simp only [false_or] at h1 h2); omega))
  clear Hx232 Hx233 Hx234 Hx235 Hx237
  clear hmr
  clear hm hr hYZ hZ hout hsz hd hpre ea90 ea91 h25 h26 h27
  refine QChain.cons rfl fun Z act hYZ hZ hout hsz hd hpre => ?_
  have h31 := hd ⟨31, .chain⟩ (by simp) rfl _ rfl
  have h32 := hd ⟨32, .data⟩ (by simp) rfl _ rfl
  have h33 := hd ⟨33, .data⟩ (by simp) rfl _ rfl
  have ea96 : act.eval (.tmp 96) = .slice ao_a1 ((stampT (smSt xs)).length) cap_a1 := h32
  have ea97 : act.eval (.tmp 97) = .slice ao_a5 ((denyT (smDn xd)).length) cap_a5 := h33
  refine qc_call (args := #[.slice ao_a1 ((stampT (smSt xs)).length) cap_a1, .slice ao_a5 ((denyT (smDn xd)).length) cap_a5]) rfl ((wanted_of rfl rfl (hsz 95 (by decide)) h31).trans rfl) (by rw [ex_callF rfl Try.func18 (by kernel_rfl) (by kernel_rfl)]; exact congrArg (fun z => Result.ok (Next.enter _ z) _) (by simp only [List.map_toArray, List.map_cons, List.map_nil, ea96, ea97]; try rfl)) (Same_b Hx239.out.rd Hx241.out.rd (decide_eq_false (sm_ap _ _))) ?_
  rintro e u8_5a ⟨rfl, hm⟩
  have zu8_5a := hm.size
  refine ⟨_, rfl, hm.mono (fun _ _ h => h.elim), (fun _ => rfl), ?_⟩
  intro u8_5 hr
  have zu8_5 := hr.size
  have hmr := Mod.after hm hr
  have Hx243 := Lib.hid (Hx238.out.trans hmr (by intro k h1 h2; (try dsimp only at h2 ⊢); (try simp only [false_or] at h2 ⊢); omega))
  have Hx244 := Lib.hid (Hx239.out.mod hmr (by intro k h1 h2; (try dsimp only at h1 h2); (try simp only [false_or] at h1 h2); omega))
  have Hx245 := Lib.hid (Hx240.out.mod hmr (by intro k h1 h2; (try dsimp only at h1 h2); (try simp only [false_or] at h1 h2); omega))
  have Hx246 := Lib.hid (Hx241.out.mod hmr (by intro k h1 h2; (try dsimp only at h1 h2); (try simp only [false_or] at h1 h2); omega))
  have Hx247 := Lib.hid (Hx242.out.mod hmr (by intro k h1 h2; (try dsimp only at h1 h2); (try simp only [false_or] at h1 h2); omega))
  clear Hx238 Hx239 Hx240 Hx241 Hx242
  clear hmr
  clear hm hr hYZ hZ hout hsz hd hpre ea96 ea97 h31 h32 h33
  refine QChain.cons rfl fun Z act hYZ hZ hout hsz hd hpre => ?_
  have h37 := hd ⟨37, .chain⟩ (by simp) rfl _ rfl
  have h38 := hd ⟨38, .data⟩ (by simp) rfl _ rfl
  have h39 := hd ⟨39, .data⟩ (by simp) rfl _ rfl
  have ea102 : act.eval (.tmp 102) = .slice ao_a3 ((voteT (smVt xv)).length) cap_a3 := h38
  have ea103 : act.eval (.tmp 103) = .slice ao_a5 ((denyT (smDn xd)).length) cap_a5 := h39
  refine qc_call (args := #[.slice ao_a3 ((voteT (smVt xv)).length) cap_a3, .slice ao_a5 ((denyT (smDn xd)).length) cap_a5]) rfl ((wanted_of rfl rfl (hsz 101 (by decide)) h37).trans rfl) (by rw [ex_callF rfl Try.func18 (by kernel_rfl) (by kernel_rfl)]; exact congrArg (fun z => Result.ok (Next.enter _ z) _) (by simp only [List.map_toArray, List.map_cons, List.map_nil, ea102, ea103]; try rfl)) (Same_b Hx245.out.rd Hx246.out.rd (decide_eq_false (sm_xp _ _))) ?_
  rintro e u8_6a ⟨rfl, hm⟩
  have zu8_6a := hm.size
  refine ⟨_, rfl, hm.mono (fun _ _ h => h.elim), (fun _ => rfl), ?_⟩
  intro u8_6 hr
  have zu8_6 := hr.size
  have hmr := Mod.after hm hr
  have Hx248 := Lib.hid (Hx243.out.trans hmr (by intro k h1 h2; (try dsimp only at h2 ⊢); (try simp only [false_or] at h2 ⊢); omega))
  have Hx249 := Lib.hid (Hx244.out.mod hmr (by intro k h1 h2; (try dsimp only at h1 h2); (try simp only [false_or] at h1 h2); omega))
  have Hx250 := Lib.hid (Hx245.out.mod hmr (by intro k h1 h2; (try dsimp only at h1 h2); (try simp only [false_or] at h1 h2); omega))
  have Hx251 := Lib.hid (Hx246.out.mod hmr (by intro k h1 h2; (try dsimp only at h1 h2); (try simp only [false_or] at h1 h2); omega))
  have Hx252 := Lib.hid (Hx247.out.mod hmr (by intro k h1 h2; (try dsimp only at h1 h2); (try simp only [false_or] at h1 h2); omega))
  clear Hx243 Hx244 Hx245 Hx246 Hx247
  clear hmr
  clear hm hr hYZ hZ hout hsz hd hpre ea102 ea103 h37 h38 h39
  clear Hx250
  clear Hx251
  refine QChain.cons rfl fun Z act hYZ hZ hout hsz hd hpre => ?_
  have h43 := hd ⟨43, .chain⟩ (by simp) rfl _ rfl
  have h44 := hd ⟨44, .data⟩ (by simp) rfl _ rfl
  have h45 := hd ⟨45, .data⟩ (by simp) rfl _ rfl
  have ea108 : act.eval (.tmp 108) = .slice ao_a1 ((stampT (smSt xs)).length) cap_a1 := h44
  have ea109 : act.eval (.tmp 109) = .slice ao_a7 ((ackT (smSt xs)).length) cap_a7 := h45
  refine qc_call (args := #[.slice ao_a1 ((stampT (smSt xs)).length) cap_a1, .slice ao_a7 ((ackT (smSt xs)).length) cap_a7]) rfl ((wanted_of rfl rfl (hsz 107 (by decide)) h43).trans rfl) (by rw [ex_callF rfl Try.func18 (by kernel_rfl) (by kernel_rfl)]; exact congrArg (fun z => Result.ok (Next.enter _ z) _) (by simp only [List.map_toArray, List.map_cons, List.map_nil, ea108, ea109]; try rfl)) (Same_b Hx249.out.rd Hx252.out.rd (decide_eq_false (sm_ak _))) ?_
  rintro e u8_7a ⟨rfl, hm⟩
  have zu8_7a := hm.size
  refine ⟨_, rfl, hm.mono (fun _ _ h => h.elim), (fun _ => rfl), ?_⟩
  intro u8_7 hr
  have zu8_7 := hr.size
  have hmr := Mod.after hm hr
  have Hx253 := Lib.hid (Hx248.out.trans hmr (by intro k h1 h2; (try dsimp only at h2 ⊢); (try simp only [false_or] at h2 ⊢); omega))
  have Hx254 := Lib.hid (Hx249.out.mod hmr (by intro k h1 h2; (try dsimp only at h1 h2); (try simp only [false_or] at h1 h2); omega))
  have Hx255 := Lib.hid (Hx252.out.mod hmr (by intro k h1 h2; (try dsimp only at h1 h2); (try simp only [false_or] at h1 h2); omega))
  clear Hx248 Hx249 Hx252
  clear hmr
  clear hm hr hYZ hZ hout hsz hd hpre ea108 ea109 h43 h44 h45
  clear Hx254
  clear Hx255
  refine QChain.cons rfl fun Z act hYZ hZ hout hsz hd hpre => ?_
  have h49 := hd ⟨49, .chain⟩ (by simp) rfl _ rfl
  refine qc_call (args := #[]) rfl ((wanted_of rfl rfl (hsz 113 (by decide)) h49).trans rfl) (by rw [ex_callF rfl Try.func19 (by kernel_rfl) (by kernel_rfl)]; simp) (wakes05 _) ?_
  rintro e u8_8a ⟨rfl, hm⟩
  have zu8_8a := hm.size
  refine ⟨_, rfl, hm.mono (fun _ _ h => h.elim), (fun _ => rfl), ?_⟩
  intro u8_8 hr
  have zu8_8 := hr.size
  have hmr := Mod.after hm hr
  have Hx256 := Lib.hid (Hx253.out.trans hmr (by intro k h1 h2; (try dsimp only at h2 ⊢); (try simp only [false_or] at h2 ⊢); omega))
  clear Hx253
  clear hmr
  clear hm hr hYZ hZ hout hsz hd hpre h49
  refine QChain.nil fun vs hl hzz hrows hne => ?_
  obtain ⟨Z, hYZ, hZb, hV⟩ := hzz
  have f52 : vs.getD 52 undef = .bool true := hV 52 _ (getq hl (by decide))
  have hvs : vs = [vs.getD 0 undef, vs.getD 1 undef, vs.getD 2 undef, vs.getD 3 undef, vs.getD 4 undef, vs.getD 5 undef, vs.getD 6 undef, vs.getD 7 undef, vs.getD 8 undef, vs.getD 9 undef, vs.getD 10 undef, vs.getD 11 undef, vs.getD 12 undef, vs.getD 13 undef, vs.getD 14 undef, vs.getD 15 undef, vs.getD 16 undef, vs.getD 17 undef, vs.getD 18 undef, vs.getD 19 undef, vs.getD 20 undef, vs.getD 21 undef, vs.getD 22 undef, vs.getD 23 undef, vs.getD 24 undef, vs.getD 25 undef, vs.getD 26 undef, vs.getD 27 undef, vs.getD 28 undef, vs.getD 29 undef, vs.getD 30 undef, vs.getD 31 undef, vs.getD 32 undef, vs.getD 33 undef, vs.getD 34 undef, vs.getD 35 undef, vs.getD 36 undef, vs.getD 37 undef, vs.getD 38 undef, vs.getD 39 undef, vs.getD 40 undef, vs.getD 41 undef, vs.getD 42 undef, vs.getD 43 undef, vs.getD 44 undef, vs.getD 45 undef, vs.getD 46 undef, vs.getD 47 undef, vs.getD 48 undef, vs.getD 49 undef, vs.getD 50 undef, vs.getD 51 undef, vs.getD 52 undef] := (list_eta hl).trans rfl
  have ha0 := HA0.out
  subst ha0
  clear HA0 hV hYZ hZb hsz0 hrows hne oe6 oe7 oe8 oe9 oe10 oe11 oe13 oe14 oe15 oe16 oe17 oe18 oe19
  rw [hvs]
  simp only [putAll, Act.put, List.setIfInBounds_toArray, List.set_cons_zero, List.set_cons_succ, f52]
  clear hvs hl f52
  go_wp2
  go_ret
  exact ⟨rfl, Hx256.out⟩
end Go.Proofs.Ytknpapcfhnhheaa

/- Pairs, commitments as arguments. -/
set_option maxRecDepth 100000
set_option linter.unusedVariables false
namespace Go.Proofs.Ytknpapcfhnhheaa
open Go Go.RowKit Go.Gv Go.ChangeShapes Go.WideShapes Go.ChangeAt Go.Deep

section
variable {H : Type} {enc : TypeId × Value → H} {W : World}
theorem trod_pair {t : TypeId} {fs : Array Field} {fuel : Nat} {cs : List Value} {x : DataW H × List MemPlace} (ht : Try.prog.underlying t = some (.struct fs)) (hs : fs.size = 2) (h0 : (fs[0]?).map (fun f => (f.offset, f.type)) = some (0, 3)) (h1 : (fs[1]?).map (fun f => (f.offset, f.type)) = some (1, 3)) (hc : Try.prog.cellsOf t = 2)
    (h : DataW.trod enc Try.prog W 0 (fun _ => true) true fuel t cs = some x) : ∃ a b : Int, cs = [.int .i64 a, .int .i64 b] ∧ I64 a ∧ I64 b := by
  obtain ⟨xs, n, _, -, hl, hn, hf⟩ := DataW.trod_struct ht h
  rw [hc] at hl
  have hxs : xs.length = 2 := hn.trans hs
  obtain ⟨q0, e0, hq0⟩ : ∃ f, fs[0]? = some f ∧ (f.offset, f.type) = (0, 3) := by
    cases hh : fs[0]? with
    | none => rw [hh] at h0; cases h0
    | some f => rw [hh] at h0; exact ⟨f, rfl, Option.some.inj h0⟩
  obtain ⟨q1, e1, hq1⟩ : ∃ f, fs[1]? = some f ∧ (f.offset, f.type) = (1, 3) := by
    cases hh : fs[1]? with
    | none => rw [hh] at h1; cases h1
    | some f => rw [hh] at h1; exact ⟨f, rfl, Option.some.inj h1⟩
  have f0 := hf 0 _ e0
  have f1 := hf 1 _ e1
  rw [show q0.offset = 0 from congrArg Prod.fst hq0, show q0.type = 3 from congrArg Prod.snd hq0] at f0
  rw [show q1.offset = 1 from congrArg Prod.fst hq1, show q1.type = 3 from congrArg Prod.snd hq1] at f1
  rw [List.getElem?_eq_getElem (by omega), show Try.prog.cellsOf 3 = 1 from by kernel_rfl] at f0 f1
  match cs, hl with
  | [c0, c1], _ =>
    simp only [List.drop_zero, List.drop_succ_cons, List.take_succ_cons, List.take_zero] at f0 f1
    obtain ⟨p0, e0, _, w0⟩ := DataW.trod_int Try.underlying3 f0
    obtain ⟨p1, e1, _, w1⟩ := DataW.trod_int Try.underlying3 f1
    simp at e0 e1
    subst e0 e1
    exact ⟨p0, p1, rfl, bounds_i64 w0, bounds_i64 w1⟩
theorem cm_cells {fuel : Nat} {cs : List Value} {x : DataW H × List MemPlace} (h : DataW.trod enc Try.prog W 0 (fun _ => true) true fuel 49 cs = some x) : ∃ c : Cm, cs = c.cells ∧ c.OK := by
  obtain ⟨xs, n, _, -, hl, hn, hf⟩ := DataW.trod_struct Try.underlying49 h
  rw [show Try.prog.cellsOf 49 = 37 from by kernel_rfl] at hl
  have hxs : xs.length = 4 := hn
  have f0 : DataW.trod enc Try.prog W 0 (fun _ => true) true n 23 ((cs.drop 0).take (Try.prog.cellsOf 23)) = xs[0]? := hf 0 _ rfl
  have f1 : DataW.trod enc Try.prog W 0 (fun _ => true) true n 25 ((cs.drop 2).take (Try.prog.cellsOf 25)) = xs[1]? := hf 1 _ rfl
  have f2 : DataW.trod enc Try.prog W 0 (fun _ => true) true n 3 ((cs.drop 34).take (Try.prog.cellsOf 3)) = xs[2]? := hf 2 _ rfl
  have f3 : DataW.trod enc Try.prog W 0 (fun _ => true) true n 28 ((cs.drop 35).take (Try.prog.cellsOf 28)) = xs[3]? := hf 3 _ rfl
  rw [List.getElem?_eq_getElem (by omega)] at f0 f1 f2 f3
  obtain ⟨a, b, e0, h1, h2⟩ := trod_pair Try.underlying23 rfl rfl rfl (by kernel_rfl) f0
  obtain ⟨hs, e1, hb, hl32⟩ := trod_arr Try.underlying25 Try.underlying5 (by kernel_rfl) (by kernel_rfl) f1
  obtain ⟨sa, sb, e3, h3, h4⟩ := trod_pair Try.underlying28 rfl rfl rfl (by kernel_rfl) f3
  rw [show Try.prog.cellsOf 23 = 2 from by kernel_rfl] at e0
  rw [show Try.prog.cellsOf 25 = 32 from by kernel_rfl] at e1
  rw [show Try.prog.cellsOf 3 = 1 from by kernel_rfl] at f2
  rw [show Try.prog.cellsOf 28 = 2 from by kernel_rfl] at e3
  obtain ⟨q, e2, _, w2⟩ := DataW.trod_int Try.underlying3 f2
  refine ⟨⟨a, b, hs, q, sa, sb⟩, ?_, ⟨h1, h2, bounds_i64 w2, h3, h4⟩, hl32, hb⟩
  have d1 : cs = cs.take 2 ++ cs.drop 2 := (List.take_append_drop 2 cs).symm
  have d2 : cs.drop 2 = (cs.drop 2).take 32 ++ cs.drop 34 := by conv => lhs; rw [← List.take_append_drop 32 (cs.drop 2)]; rw [List.drop_drop]
  have d3 : cs.drop 34 = (cs.drop 34).take 1 ++ cs.drop 35 := by conv => lhs; rw [← List.take_append_drop 1 (cs.drop 34)]; rw [List.drop_drop]
  have d4 : cs.drop 35 = (cs.drop 35).take 2 := (List.take_of_length_le (by rw [List.length_drop]; omega)).symm
  rw [List.drop_zero] at e0
  rw [d1, d2, d3, d4, e0, e1, e2, e3]
  rfl
end
end Go.Proofs.Ytknpapcfhnhheaa

/- Things as arguments: whatever a reading gives of them. -/
set_option maxRecDepth 100000
set_option linter.unusedVariables false
namespace Go.Proofs.Ytknpapcfhnhheaa
open Go Go.RowKit Go.Gv Go.ChangeShapes Go.WideShapes Go.ChangeAt Go.Deep

def segs (cs : List Value) : Nat → List Nat → List (List Value)
  | _, [] => []
  | off, n :: ns => (cs.drop off).take n :: segs cs (off + n) ns
theorem segs_all (cs : List Value) : ∀ (ns : List Nat) (off : Nat), cs.length = off + ns.sum → cs.drop off = (segs cs off ns).flatten
  | [], off, h => by simp at h; simp [segs, List.drop_of_length_le (show cs.length ≤ off by omega)]
  | n :: ns, off, h => by
    have ih := segs_all cs ns (off + n) (by simp at h; omega)
    simp only [segs, List.flatten_cons]
    rw [← ih, ← List.drop_drop, List.take_append_drop]
theorem seg_one {cs : List Value} {off : Nat} (h : off < cs.length) : ∃ v, (cs.drop off).take 1 = [v] := ⟨cs[off], by rw [List.drop_eq_getElem_cons h]; rfl⟩
/-- whatever reads as a T reads as one of A -/
def Reads {α : Type} (A : Rep α) (T : TypeId) : Prop := ∀ (H : Type) (enc : TypeId × Value → H) (W : World) (fuel : Nat) (cs : List Value) (x : DataW H × List MemPlace), DataW.trod enc Try.prog W 0 (fun _ => true) true fuel T cs = some x → ∃ a, A.rd (fun k => k < W.heap.size) W cs a
theorem all_list {α : Type} {P : List Value → α → Prop} : ∀ (css : List (List Value)), (∀ cs ∈ css, ∃ a, P cs a) → ∃ l : List α, l.length = css.length ∧ ∀ (i : Nat) cs a, css[i]? = some cs → l[i]? = some a → P cs a
  | [], _ => ⟨[], rfl, fun i cs a h => by simp at h⟩
  | c :: r, h => by
    obtain ⟨a, ha⟩ := h c (by simp)
    obtain ⟨l, h1, h2⟩ := all_list r fun cs hcs => h cs (by simp [hcs])
    refine ⟨a :: l, by simp [h1], fun i cs b hi hb => ?_⟩
    cases i with
    | zero => simp at hi hb; subst hi hb; exact ha
    | succ i => simp at hi hb; exact h2 i cs b hi hb
theorem trod_slice {α : Type} {A : Rep α} {t e : TypeId} {H : Type} {enc : TypeId × Value → H} {W : World} {fuel : Nat} {v : Value} {x : DataW H × List MemPlace} (hr : Reads A e) (ht : Try.prog.underlying t = some (.slice e)) (hce : Try.prog.cellsOf e = A.sz)
    (h : DataW.trod enc Try.prog W 0 (fun _ => true) true fuel t [v] = some x) : ∃ l : List α, RdS A (fun k => k < W.heap.size) W v l := by
  haveI : Inhabited {cs : List Value // cs.length = A.sz} := ⟨⟨List.replicate A.sz undef, by simp⟩⟩
  have hsh : ∃ ao n cap, v = .slice ao n cap ∧ n ≤ cap ∧ cap ≤ maxLen ∧ (ao = none → cap = 0) := by
    rcases open_slice ht h with ⟨hcs, _⟩ | ⟨a, len, cap, m, n, D, Pl, hcs, _, hl, hm, hmm, _, hel⟩
    · simp at hcs; subst hcs; exact ⟨none, 0, 0, rfl, Nat.le_refl _, Nat.zero_le _, fun _ => rfl⟩
    · simp at hcs; subst hcs; simp only [if_true] at hmm; subst hmm; exact ⟨some a, len, _, rfl, hl, hm, fun h => by cases h⟩
  obtain ⟨raws, h1, h2⟩ := trod_list (fun a : {cs : List Value // cs.length = A.sz} => a.1) (fun a => ∃ y, A.rd (fun k => k < W.heap.size) W a.1 y) ht hce A.pos (fun a => a.2)
    (fun fuel cs x hx => by obtain ⟨a, ha⟩ := hr H enc W fuel cs x hx; exact ⟨⟨cs, A.len ha⟩, rfl, a, ha⟩) h
  obtain ⟨l, hl, hP⟩ := all_list (P := fun cs a => A.rd (fun k => k < W.heap.size) W cs a) (raws.map (·.1)) (fun cs hcs => by obtain ⟨a, ha, rfl⟩ := List.mem_map.1 hcs; exact h2 a ha)
  have hl' : l.length = raws.length := by simpa using hl
  refine ⟨l, raws.map (·.1), by simp [hl'], hP, ?_, ?_⟩
  · have hcl : ∀ cs ∈ raws.map (·.1), cs.length = A.sz := fun cs hcs => by obtain ⟨a, _, rfl⟩ := List.mem_map.1 hcs; exact a.2
    have hfl := flat_len hcl
    rcases h1 with ⟨rfl, ao, cap, rfl⟩ | ⟨g, o, cap, hg, rfl, h0, hc, hm, hcell⟩
    · obtain ⟨ao', n', cap', e', g1, g2, g3⟩ := hsh
      cases e'
      obtain rfl : l = [] := List.eq_nil_of_length_eq_zero (by simpa using hl')
      exact Rd.zero _ _ _ _ g2 g3
    · rw [hl']
      refine Rd.mk hc hm (by rw [hfl]; simp) fun j u hu => ?_
      have hj := (List.getElem?_eq_some_iff.1 hu).1
      rw [hfl] at hj
      simp only [List.length_map] at hj
      have hq : j / A.sz < raws.length := Nat.div_lt_of_lt_mul (by rw [Nat.mul_comm]; exact hj)
      have hmod := Nat.mod_lt j A.pos
      have hdm := Nat.div_add_mod j A.sz
      have hgt := flat_get hcl (j / A.sz) raws[j / A.sz].1 (by simp [List.getElem?_eq_getElem hq]) (j % A.sz) (raws[j / A.sz].1[j % A.sz]'(by rw [raws[j / A.sz].2]; exact hmod)) (List.getElem?_eq_getElem _)
      rw [show j / A.sz * A.sz + j % A.sz = j by rw [Nat.mul_comm]; exact hdm] at hgt
      rw [hgt] at hu
      have := hcell (j / A.sz) hq (j % A.sz) u (by rw [List.getElem?_eq_getElem (by rw [raws[j / A.sz].2]; exact hmod)]; exact hu)
      rw [show o + j / A.sz * A.sz + j % A.sz = o + j by rw [Nat.add_assoc, Nat.mul_comm, hdm]] at this
      exact this
  · intro h0 g hg
    rcases h1 with ⟨rfl, ao, cap, rfl⟩ | ⟨g', o, cap, hg', rfl, _⟩
    · simp at hl'; rw [hl'] at h0; simp at h0
    · simp [Value.ownBlock] at hg; subst hg; exact hg'
theorem reads_arg {α : Type} {A : Rep α} {T : TypeId} (hr : Reads A T) {fs : Array Field} (hu : Try.prog.underlying T = some (.struct fs)) {H : Type} {enc : TypeId × Value → H} {W : World} {base : Nat} {v : Value} {d : DataW H} {p : List MemPlace} (hv' : Value.okWide Try.prog W .any base T v)
    (h : DataW.Trod enc Try.prog W 0 (fun _ => true) true T v d p) : ∃ cs a, v = .agg cs.toArray ∧ A.rd (fun k => k < W.heap.size) W cs a := by
  obtain ⟨fuel, hf⟩ := h
  simp only [Value.okWide, hu] at hv'
  obtain ⟨cs, rfl, -, -⟩ := hv'
  obtain ⟨a, ha⟩ := hr _ _ _ _ _ _ hf
  exact ⟨_, a, (by congr 1), ha⟩
theorem reads_cm : Reads CmR 49 := fun H enc W fuel cs x h => by obtain ⟨c, e, hok⟩ := cm_cells h; exact ⟨c, e, hok⟩
theorem reads_st : Reads StR 30 := by
  intro H enc W fuel cs x h
  obtain ⟨xs, n, _, -, hl, hn, hf⟩ := DataW.trod_struct Try.underlying30 h
  rw [show Try.prog.cellsOf 30 = 38 from by kernel_rfl] at hl
  have hxs : xs.length = 5 := hn
  have f0 : DataW.trod enc Try.prog W 0 (fun _ => true) true n 3 ((cs.drop 0).take (Try.prog.cellsOf 3)) = xs[0]? := hf 0 _ rfl
  rw [List.getElem?_eq_getElem (by omega), show Try.prog.cellsOf 3 = 1 from by kernel_rfl] at f0
  have f1 : DataW.trod enc Try.prog W 0 (fun _ => true) true n 23 ((cs.drop 1).take (Try.prog.cellsOf 23)) = xs[1]? := hf 1 _ rfl
  rw [List.getElem?_eq_getElem (by omega), show Try.prog.cellsOf 23 = 2 from by kernel_rfl] at f1
  have f2 : DataW.trod enc Try.prog W 0 (fun _ => true) true n 25 ((cs.drop 3).take (Try.prog.cellsOf 25)) = xs[2]? := hf 2 _ rfl
  rw [List.getElem?_eq_getElem (by omega), show Try.prog.cellsOf 25 = 32 from by kernel_rfl] at f2
  have f3 : DataW.trod enc Try.prog W 0 (fun _ => true) true n 26 ((cs.drop 35).take (Try.prog.cellsOf 26)) = xs[3]? := hf 3 _ rfl
  rw [List.getElem?_eq_getElem (by omega), show Try.prog.cellsOf 26 = 1 from by kernel_rfl] at f3
  have f4 : DataW.trod enc Try.prog W 0 (fun _ => true) true n 28 ((cs.drop 36).take (Try.prog.cellsOf 28)) = xs[4]? := hf 4 _ rfl
  rw [List.getElem?_eq_getElem (by omega), show Try.prog.cellsOf 28 = 2 from by kernel_rfl] at f4
  obtain ⟨rp, e0, _, w0⟩ := DataW.trod_int Try.underlying3 f0
  obtain ⟨cl, sq, e1, w1, w1'⟩ := trod_pair Try.underlying23 rfl rfl rfl (by kernel_rfl) f1
  obtain ⟨hh, e2, w2, w2'⟩ := trod_arr Try.underlying25 Try.underlying5 (by kernel_rfl) (by kernel_rfl) f2
  obtain ⟨tm', e3, _, w3⟩ := DataW.trod_int Try.underlying26 f3
  obtain ⟨tm, rfl, w3'⟩ := u64_nat w3
  obtain ⟨sb, mr, e4, w4, w4'⟩ := trod_pair Try.underlying28 rfl rfl rfl (by kernel_rfl) f4
  have hcs := segs_all cs [1, 2, 32, 1, 2] 0 (by simpa using hl)
  simp only [List.drop_zero, segs, List.flatten_cons, List.flatten_nil, List.append_nil, Nat.zero_add, Nat.reduceAdd, e0, e1, e2, e3, e4] at hcs
  (try rw [List.drop_zero] at e0)
  (try simp only [e0] at hcs)
  exact ⟨⟨rp, cl, sq, hh, tm, sb, mr⟩, by rw [hcs]; rfl, ⟨bounds_i64 w0, w1, w1', ⟨w2', w2⟩, w3', w4, w4'⟩⟩
theorem reads_ak : Reads StR 44 := by
  intro H enc W fuel cs x h
  obtain ⟨xs, n, _, -, hl, hn, hf⟩ := DataW.trod_struct Try.underlying44 h
  rw [show Try.prog.cellsOf 44 = 38 from by kernel_rfl] at hl
  have hxs : xs.length = 5 := hn
  have f0 : DataW.trod enc Try.prog W 0 (fun _ => true) true n 3 ((cs.drop 0).take (Try.prog.cellsOf 3)) = xs[0]? := hf 0 _ rfl
  rw [List.getElem?_eq_getElem (by omega), show Try.prog.cellsOf 3 = 1 from by kernel_rfl] at f0
  have f1 : DataW.trod enc Try.prog W 0 (fun _ => true) true n 23 ((cs.drop 1).take (Try.prog.cellsOf 23)) = xs[1]? := hf 1 _ rfl
  rw [List.getElem?_eq_getElem (by omega), show Try.prog.cellsOf 23 = 2 from by kernel_rfl] at f1
  have f2 : DataW.trod enc Try.prog W 0 (fun _ => true) true n 25 ((cs.drop 3).take (Try.prog.cellsOf 25)) = xs[2]? := hf 2 _ rfl
  rw [List.getElem?_eq_getElem (by omega), show Try.prog.cellsOf 25 = 32 from by kernel_rfl] at f2
  have f3 : DataW.trod enc Try.prog W 0 (fun _ => true) true n 26 ((cs.drop 35).take (Try.prog.cellsOf 26)) = xs[3]? := hf 3 _ rfl
  rw [List.getElem?_eq_getElem (by omega), show Try.prog.cellsOf 26 = 1 from by kernel_rfl] at f3
  have f4 : DataW.trod enc Try.prog W 0 (fun _ => true) true n 28 ((cs.drop 36).take (Try.prog.cellsOf 28)) = xs[4]? := hf 4 _ rfl
  rw [List.getElem?_eq_getElem (by omega), show Try.prog.cellsOf 28 = 2 from by kernel_rfl] at f4
  obtain ⟨rp, e0, _, w0⟩ := DataW.trod_int Try.underlying3 f0
  obtain ⟨cl, sq, e1, w1, w1'⟩ := trod_pair Try.underlying23 rfl rfl rfl (by kernel_rfl) f1
  obtain ⟨hh, e2, w2, w2'⟩ := trod_arr Try.underlying25 Try.underlying5 (by kernel_rfl) (by kernel_rfl) f2
  obtain ⟨tm', e3, _, w3⟩ := DataW.trod_int Try.underlying26 f3
  obtain ⟨tm, rfl, w3'⟩ := u64_nat w3
  obtain ⟨sb, mr, e4, w4, w4'⟩ := trod_pair Try.underlying28 rfl rfl rfl (by kernel_rfl) f4
  have hcs := segs_all cs [1, 2, 32, 1, 2] 0 (by simpa using hl)
  simp only [List.drop_zero, segs, List.flatten_cons, List.flatten_nil, List.append_nil, Nat.zero_add, Nat.reduceAdd, e0, e1, e2, e3, e4] at hcs
  (try rw [List.drop_zero] at e0)
  (try simp only [e0] at hcs)
  exact ⟨⟨rp, cl, sq, hh, tm, sb, mr⟩, by rw [hcs]; rfl, ⟨bounds_i64 w0, w1, w1', ⟨w2', w2⟩, w3', w4, w4'⟩⟩
theorem reads_vt : Reads VtR 32 := by
  intro H enc W fuel cs x h
  obtain ⟨xs, n, _, -, hl, hn, hf⟩ := DataW.trod_struct Try.underlying32 h
  rw [show Try.prog.cellsOf 32 = 38 from by kernel_rfl] at hl
  have hxs : xs.length = 6 := hn
  have f0 : DataW.trod enc Try.prog W 0 (fun _ => true) true n 3 ((cs.drop 0).take (Try.prog.cellsOf 3)) = xs[0]? := hf 0 _ rfl
  rw [List.getElem?_eq_getElem (by omega), show Try.prog.cellsOf 3 = 1 from by kernel_rfl] at f0
  have f1 : DataW.trod enc Try.prog W 0 (fun _ => true) true n 3 ((cs.drop 1).take (Try.prog.cellsOf 3)) = xs[1]? := hf 1 _ rfl
  rw [List.getElem?_eq_getElem (by omega), show Try.prog.cellsOf 3 = 1 from by kernel_rfl] at f1
  have f2 : DataW.trod enc Try.prog W 0 (fun _ => true) true n 3 ((cs.drop 2).take (Try.prog.cellsOf 3)) = xs[2]? := hf 2 _ rfl
  rw [List.getElem?_eq_getElem (by omega), show Try.prog.cellsOf 3 = 1 from by kernel_rfl] at f2
  have f3 : DataW.trod enc Try.prog W 0 (fun _ => true) true n 3 ((cs.drop 3).take (Try.prog.cellsOf 3)) = xs[3]? := hf 3 _ rfl
  rw [List.getElem?_eq_getElem (by omega), show Try.prog.cellsOf 3 = 1 from by kernel_rfl] at f3
  have f4 : DataW.trod enc Try.prog W 0 (fun _ => true) true n 25 ((cs.drop 4).take (Try.prog.cellsOf 25)) = xs[4]? := hf 4 _ rfl
  rw [List.getElem?_eq_getElem (by omega), show Try.prog.cellsOf 25 = 32 from by kernel_rfl] at f4
  have f5 : DataW.trod enc Try.prog W 0 (fun _ => true) true n 28 ((cs.drop 36).take (Try.prog.cellsOf 28)) = xs[5]? := hf 5 _ rfl
  rw [List.getElem?_eq_getElem (by omega), show Try.prog.cellsOf 28 = 2 from by kernel_rfl] at f5
  obtain ⟨kd, e0, _, w0⟩ := DataW.trod_int Try.underlying3 f0
  obtain ⟨ep, e1, _, w1⟩ := DataW.trod_int Try.underlying3 f1
  obtain ⟨rn, e2, _, w2⟩ := DataW.trod_int Try.underlying3 f2
  obtain ⟨rp, e3, _, w3⟩ := DataW.trod_int Try.underlying3 f3
  obtain ⟨hh, e4, w4, w4'⟩ := trod_arr Try.underlying25 Try.underlying5 (by kernel_rfl) (by kernel_rfl) f4
  obtain ⟨sb, mr, e5, w5, w5'⟩ := trod_pair Try.underlying28 rfl rfl rfl (by kernel_rfl) f5
  have hcs := segs_all cs [1, 1, 1, 1, 32, 2] 0 (by simpa using hl)
  simp only [List.drop_zero, segs, List.flatten_cons, List.flatten_nil, List.append_nil, Nat.zero_add, Nat.reduceAdd, e0, e1, e2, e3, e4, e5] at hcs
  (try rw [List.drop_zero] at e0)
  (try simp only [e0] at hcs)
  exact ⟨⟨kd, ep, rn, rp, hh, sb, mr⟩, by rw [hcs]; rfl, ⟨bounds_i64 w0, bounds_i64 w1, bounds_i64 w2, bounds_i64 w3, ⟨w4', w4⟩, w5, w5'⟩⟩
theorem reads_dn : Reads DnR 34 := by
  intro H enc W fuel cs x h
  obtain ⟨xs, n, _, -, hl, hn, hf⟩ := DataW.trod_struct Try.underlying34 h
  rw [show Try.prog.cellsOf 34 = 4 from by kernel_rfl] at hl
  have hxs : xs.length = 3 := hn
  have f0 : DataW.trod enc Try.prog W 0 (fun _ => true) true n 3 ((cs.drop 0).take (Try.prog.cellsOf 3)) = xs[0]? := hf 0 _ rfl
  rw [List.getElem?_eq_getElem (by omega), show Try.prog.cellsOf 3 = 1 from by kernel_rfl] at f0
  have f1 : DataW.trod enc Try.prog W 0 (fun _ => true) true n 3 ((cs.drop 1).take (Try.prog.cellsOf 3)) = xs[1]? := hf 1 _ rfl
  rw [List.getElem?_eq_getElem (by omega), show Try.prog.cellsOf 3 = 1 from by kernel_rfl] at f1
  have f2 : DataW.trod enc Try.prog W 0 (fun _ => true) true n 28 ((cs.drop 2).take (Try.prog.cellsOf 28)) = xs[2]? := hf 2 _ rfl
  rw [List.getElem?_eq_getElem (by omega), show Try.prog.cellsOf 28 = 2 from by kernel_rfl] at f2
  obtain ⟨rp, e0, _, w0⟩ := DataW.trod_int Try.underlying3 f0
  obtain ⟨ix, e1, _, w1⟩ := DataW.trod_int Try.underlying3 f1
  obtain ⟨sb, mr, e2, w2, w2'⟩ := trod_pair Try.underlying28 rfl rfl rfl (by kernel_rfl) f2
  have hcs := segs_all cs [1, 1, 2] 0 (by simpa using hl)
  simp only [List.drop_zero, segs, List.flatten_cons, List.flatten_nil, List.append_nil, Nat.zero_add, Nat.reduceAdd, e0, e1, e2] at hcs
  (try rw [List.drop_zero] at e0)
  (try simp only [e0] at hcs)
  exact ⟨⟨rp, ix, sb, mr⟩, by rw [hcs]; rfl, ⟨bounds_i64 w0, bounds_i64 w1, w2, w2'⟩⟩
theorem reads_ce : Reads CeR 52 := by
  intro H enc W fuel cs x h
  obtain ⟨xs, n, _, -, hl, hn, hf⟩ := DataW.trod_struct Try.underlying52 h
  rw [show Try.prog.cellsOf 52 = 38 from by kernel_rfl] at hl
  have hxs : xs.length = 2 := hn
  have f0 : DataW.trod enc Try.prog W 0 (fun _ => true) true n 49 ((cs.drop 0).take (Try.prog.cellsOf 49)) = xs[0]? := hf 0 _ rfl
  rw [List.getElem?_eq_getElem (by omega), show Try.prog.cellsOf 49 = 37 from by kernel_rfl] at f0
  have f1 : DataW.trod enc Try.prog W 0 (fun _ => true) true n 50 ((cs.drop 37).take (Try.prog.cellsOf 50)) = xs[1]? := hf 1 _ rfl
  rw [List.getElem?_eq_getElem (by omega), show Try.prog.cellsOf 50 = 1 from by kernel_rfl] at f1
  obtain ⟨c, e0, w0⟩ := reads_cm _ _ _ _ _ _ f0
  obtain ⟨v, e1⟩ := seg_one (cs := cs) (off := 37) (by omega)
  rw [e1] at f1
  obtain ⟨l, w1⟩ := trod_slice reads_st Try.underlying50 (by kernel_rfl) f1
  have hcs := segs_all cs [37, 1] 0 (by simpa using hl)
  simp only [List.drop_zero, segs, List.flatten_cons, List.flatten_nil, List.append_nil, Nat.zero_add, Nat.reduceAdd, e0, e1] at hcs
  (try rw [List.drop_zero] at e0)
  (try simp only [e0] at hcs)
  exact ⟨⟨c, l⟩, v, hcs, w0, w1⟩
theorem reads_pm : Reads PmR 55 := by
  intro H enc W fuel cs x h
  obtain ⟨xs, n, _, -, hl, hn, hf⟩ := DataW.trod_struct Try.underlying55 h
  rw [show Try.prog.cellsOf 55 = 6 from by kernel_rfl] at hl
  have hxs : xs.length = 5 := hn
  have f0 : DataW.trod enc Try.prog W 0 (fun _ => true) true n 3 ((cs.drop 0).take (Try.prog.cellsOf 3)) = xs[0]? := hf 0 _ rfl
  rw [List.getElem?_eq_getElem (by omega), show Try.prog.cellsOf 3 = 1 from by kernel_rfl] at f0
  have f1 : DataW.trod enc Try.prog W 0 (fun _ => true) true n 3 ((cs.drop 1).take (Try.prog.cellsOf 3)) = xs[1]? := hf 1 _ rfl
  rw [List.getElem?_eq_getElem (by omega), show Try.prog.cellsOf 3 = 1 from by kernel_rfl] at f1
  have f2 : DataW.trod enc Try.prog W 0 (fun _ => true) true n 26 ((cs.drop 2).take (Try.prog.cellsOf 26)) = xs[2]? := hf 2 _ rfl
  rw [List.getElem?_eq_getElem (by omega), show Try.prog.cellsOf 26 = 1 from by kernel_rfl] at f2
  have f3 : DataW.trod enc Try.prog W 0 (fun _ => true) true n 53 ((cs.drop 3).take (Try.prog.cellsOf 53)) = xs[3]? := hf 3 _ rfl
  rw [List.getElem?_eq_getElem (by omega), show Try.prog.cellsOf 53 = 1 from by kernel_rfl] at f3
  have f4 : DataW.trod enc Try.prog W 0 (fun _ => true) true n 28 ((cs.drop 4).take (Try.prog.cellsOf 28)) = xs[4]? := hf 4 _ rfl
  rw [List.getElem?_eq_getElem (by omega), show Try.prog.cellsOf 28 = 2 from by kernel_rfl] at f4
  obtain ⟨rp, e0, _, w0⟩ := DataW.trod_int Try.underlying3 f0
  obtain ⟨ep, e1, _, w1⟩ := DataW.trod_int Try.underlying3 f1
  obtain ⟨fl', e2, _, w2⟩ := DataW.trod_int Try.underlying26 f2
  obtain ⟨fl, rfl, w2'⟩ := u64_nat w2
  obtain ⟨v, e3⟩ := seg_one (cs := cs) (off := 3) (by omega)
  rw [e3] at f3
  obtain ⟨l, w3⟩ := trod_slice reads_ce Try.underlying53 (by kernel_rfl) f3
  obtain ⟨sb, mr, e4, w4, w4'⟩ := trod_pair Try.underlying28 rfl rfl rfl (by kernel_rfl) f4
  have hcs := segs_all cs [1, 1, 1, 1, 2] 0 (by simpa using hl)
  simp only [List.drop_zero, segs, List.flatten_cons, List.flatten_nil, List.append_nil, Nat.zero_add, Nat.reduceAdd, e0, e1, e2, e3, e4] at hcs
  (try rw [List.drop_zero] at e0)
  (try simp only [e0] at hcs)
  exact ⟨⟨rp, ep, fl, l, sb, mr⟩, v, hcs, ⟨bounds_i64 w0, bounds_i64 w1, w2', w4, w4'⟩, w3⟩
theorem reads_op : Reads OpR 87 := by
  intro H enc W fuel cs x h
  obtain ⟨xs, n, _, -, hl, hn, hf⟩ := DataW.trod_struct Try.underlying87 h
  rw [show Try.prog.cellsOf 87 = 34 from by kernel_rfl] at hl
  have hxs : xs.length = 3 := hn
  have f0 : DataW.trod enc Try.prog W 0 (fun _ => true) true n 3 ((cs.drop 0).take (Try.prog.cellsOf 3)) = xs[0]? := hf 0 _ rfl
  rw [List.getElem?_eq_getElem (by omega), show Try.prog.cellsOf 3 = 1 from by kernel_rfl] at f0
  have f1 : DataW.trod enc Try.prog W 0 (fun _ => true) true n 38 ((cs.drop 1).take (Try.prog.cellsOf 38)) = xs[1]? := hf 1 _ rfl
  rw [List.getElem?_eq_getElem (by omega), show Try.prog.cellsOf 38 = 1 from by kernel_rfl] at f1
  have f2 : DataW.trod enc Try.prog W 0 (fun _ => true) true n 25 ((cs.drop 2).take (Try.prog.cellsOf 25)) = xs[2]? := hf 2 _ rfl
  rw [List.getElem?_eq_getElem (by omega), show Try.prog.cellsOf 25 = 32 from by kernel_rfl] at f2
  obtain ⟨ix, e0, _, w0⟩ := DataW.trod_int Try.underlying3 f0
  obtain ⟨v, e1⟩ := seg_one (cs := cs) (off := 1) (by omega)
  rw [e1] at f1
  obtain ⟨pl, w1⟩ := trod_bytes f1
  obtain ⟨hh, e2, w2, w2'⟩ := trod_arr Try.underlying25 Try.underlying5 (by kernel_rfl) (by kernel_rfl) f2
  have hcs := segs_all cs [1, 1, 32] 0 (by simpa using hl)
  simp only [List.drop_zero, segs, List.flatten_cons, List.flatten_nil, List.append_nil, Nat.zero_add, Nat.reduceAdd, e0, e1, e2] at hcs
  (try rw [List.drop_zero] at e0)
  (try simp only [e0] at hcs)
  exact ⟨⟨ix, pl, hh⟩, v, hcs, ⟨bounds_i64 w0, w2', w2⟩, w1⟩
theorem reads_tb : Reads TbR 90 := by
  intro H enc W fuel cs x h
  obtain ⟨xs, n, _, -, hl, hn, hf⟩ := DataW.trod_struct Try.underlying90 h
  rw [show Try.prog.cellsOf 90 = 2 from by kernel_rfl] at hl
  have hxs : xs.length = 2 := hn
  have f0 : DataW.trod enc Try.prog W 0 (fun _ => true) true n 3 ((cs.drop 0).take (Try.prog.cellsOf 3)) = xs[0]? := hf 0 _ rfl
  rw [List.getElem?_eq_getElem (by omega), show Try.prog.cellsOf 3 = 1 from by kernel_rfl] at f0
  have f1 : DataW.trod enc Try.prog W 0 (fun _ => true) true n 88 ((cs.drop 1).take (Try.prog.cellsOf 88)) = xs[1]? := hf 1 _ rfl
  rw [List.getElem?_eq_getElem (by omega), show Try.prog.cellsOf 88 = 1 from by kernel_rfl] at f1
  obtain ⟨ix, e0, _, w0⟩ := DataW.trod_int Try.underlying3 f0
  obtain ⟨v, e1⟩ := seg_one (cs := cs) (off := 1) (by omega)
  rw [e1] at f1
  obtain ⟨l, w1⟩ := trod_slice reads_dn Try.underlying88 (by kernel_rfl) f1
  have hcs := segs_all cs [1, 1] 0 (by simpa using hl)
  simp only [List.drop_zero, segs, List.flatten_cons, List.flatten_nil, List.append_nil, Nat.zero_add, Nat.reduceAdd, e0, e1] at hcs
  (try rw [List.drop_zero] at e0)
  (try simp only [e0] at hcs)
  exact ⟨⟨ix, l⟩, v, hcs, bounds_i64 w0, w1⟩
theorem reads_ba : Reads BaR 60 := by
  intro H enc W fuel cs x h
  obtain ⟨xs, n, _, -, hl, hn, hf⟩ := DataW.trod_struct Try.underlying60 h
  rw [show Try.prog.cellsOf 60 = 5 from by kernel_rfl] at hl
  have hxs : xs.length = 5 := hn
  have f0 : DataW.trod enc Try.prog W 0 (fun _ => true) true n 3 ((cs.drop 0).take (Try.prog.cellsOf 3)) = xs[0]? := hf 0 _ rfl
  rw [List.getElem?_eq_getElem (by omega), show Try.prog.cellsOf 3 = 1 from by kernel_rfl] at f0
  have f1 : DataW.trod enc Try.prog W 0 (fun _ => true) true n 26 ((cs.drop 1).take (Try.prog.cellsOf 26)) = xs[1]? := hf 1 _ rfl
  rw [List.getElem?_eq_getElem (by omega), show Try.prog.cellsOf 26 = 1 from by kernel_rfl] at f1
  have f2 : DataW.trod enc Try.prog W 0 (fun _ => true) true n 56 ((cs.drop 2).take (Try.prog.cellsOf 56)) = xs[2]? := hf 2 _ rfl
  rw [List.getElem?_eq_getElem (by omega), show Try.prog.cellsOf 56 = 1 from by kernel_rfl] at f2
  have f3 : DataW.trod enc Try.prog W 0 (fun _ => true) true n 57 ((cs.drop 3).take (Try.prog.cellsOf 57)) = xs[3]? := hf 3 _ rfl
  rw [List.getElem?_eq_getElem (by omega), show Try.prog.cellsOf 57 = 1 from by kernel_rfl] at f3
  have f4 : DataW.trod enc Try.prog W 0 (fun _ => true) true n 58 ((cs.drop 4).take (Try.prog.cellsOf 58)) = xs[4]? := hf 4 _ rfl
  rw [List.getElem?_eq_getElem (by omega), show Try.prog.cellsOf 58 = 1 from by kernel_rfl] at f4
  obtain ⟨ep, e0, _, w0⟩ := DataW.trod_int Try.underlying3 f0
  obtain ⟨tm', e1, _, w1⟩ := DataW.trod_int Try.underlying26 f1
  obtain ⟨tm, rfl, w1'⟩ := u64_nat w1
  obtain ⟨vp, e2⟩ := seg_one (cs := cs) (off := 2) (by omega)
  rw [e2] at f2
  obtain ⟨ps, w2⟩ := trod_slice reads_pm Try.underlying56 (by kernel_rfl) f2
  obtain ⟨vo, e3⟩ := seg_one (cs := cs) (off := 3) (by omega)
  rw [e3] at f3
  obtain ⟨os, w3⟩ := trod_slice reads_op Try.underlying57 (by kernel_rfl) f3
  obtain ⟨vt, e4⟩ := seg_one (cs := cs) (off := 4) (by omega)
  rw [e4] at f4
  obtain ⟨ts, w4⟩ := trod_slice reads_tb Try.underlying58 (by kernel_rfl) f4
  have hcs := segs_all cs [1, 1, 1, 1, 1] 0 (by simpa using hl)
  simp only [List.drop_zero, segs, List.flatten_cons, List.flatten_nil, List.append_nil, Nat.zero_add, Nat.reduceAdd, e0, e1, e2, e3, e4] at hcs
  (try rw [List.drop_zero] at e0)
  (try simp only [e0] at hcs)
  exact ⟨⟨ep, tm, ps, os, ts⟩, vp, vo, vt, hcs, ⟨bounds_i64 w0, w1'⟩, w2, w3, w4⟩
end Go.Proofs.Ytknpapcfhnhheaa

set_option maxRecDepth 100000
set_option linter.unusedVariables false
namespace Go.Proofs.Ytknpapcfhnhheaa.wireApart
open Go Go.RowKit Go.Gv Go.ChangeShapes Go.WideShapes Go.ChangeAt
open Go.ChangeMaps (open_string shut_string)

theorem own : ownKnob Try.prog.godebug = none := by kernel_rfl
theorem laidOut : laidOutB Try.prog = true := by kernel_rfl

theorem lifted (os : Os) (started : os.Started) (H : Type) (enc : TypeId × Value → H) :
    ReturnsInHanded {} Try.checked os 3 .any (Rows.wireApartSpec.pre6 enc Try.prog Try.f3 Rows.wireApartRow.domain false) (Rows.wireApartSpec.post enc Try.prog Try.f3 false true false false) := by
  refine returnsInHanded_of_change (C := Try.checked) own started (by kernel_rfl) Try.func3
    (ChangeSpec.witness6 (enc := enc) (C := Try.checked) false ⟨#[], #[.agg #[.int .i64 0, .int .i64 0, .int .i64 0, .int .u8 0, .int .u8 0, .int .u8 0, .int .u8 0, .int .u8 0, .int .u8 0, .int .u8 0, .int .u8 0, .int .u8 0, .int .u8 0, .int .u8 0, .int .u8 0, .int .u8 0, .int .u8 0, .int .u8 0, .int .u8 0, .int .u8 0, .int .u8 0, .int .u8 0, .int .u8 0, .int .u8 0, .int .u8 0, .int .u8 0, .int .u8 0, .int .u8 0, .int .u8 0, .int .u8 0, .int .u8 0, .int .u8 0, .int .u8 0, .int .u8 0, .int .u8 0, .int .u64 0, .int .i64 0, .int .i64 0], .agg #[.int .i64 0, .int .i64 0, .int .i64 0, .int .u8 0, .int .u8 0, .int .u8 0, .int .u8 0, .int .u8 0, .int .u8 0, .int .u8 0, .int .u8 0, .int .u8 0, .int .u8 0, .int .u8 0, .int .u8 0, .int .u8 0, .int .u8 0, .int .u8 0, .int .u8 0, .int .u8 0, .int .u8 0, .int .u8 0, .int .u8 0, .int .u8 0, .int .u8 0, .int .u8 0, .int .u8 0, .int .u8 0, .int .u8 0, .int .u8 0, .int .u8 0, .int .u8 0, .int .u8 0, .int .u8 0, .int .u8 0, .int .u64 0, .int .i64 0, .int .i64 0], .agg #[.int .i64 0, .int .i64 0, .int .i64 0, .int .i64 0, .int .u8 0, .int .u8 0, .int .u8 0, .int .u8 0, .int .u8 0, .int .u8 0, .int .u8 0, .int .u8 0, .int .u8 0, .int .u8 0, .int .u8 0, .int .u8 0, .int .u8 0, .int .u8 0, .int .u8 0, .int .u8 0, .int .u8 0, .int .u8 0, .int .u8 0, .int .u8 0, .int .u8 0, .int .u8 0, .int .u8 0, .int .u8 0, .int .u8 0, .int .u8 0, .int .u8 0, .int .u8 0, .int .u8 0, .int .u8 0, .int .u8 0, .int .u8 0, .int .i64 0, .int .i64 0], .agg #[.int .i64 0, .int .i64 0, .int .i64 0, .int .i64 0, .int .u8 0, .int .u8 0, .int .u8 0, .int .u8 0, .int .u8 0, .int .u8 0, .int .u8 0, .int .u8 0, .int .u8 0, .int .u8 0, .int .u8 0, .int .u8 0, .int .u8 0, .int .u8 0, .int .u8 0, .int .u8 0, .int .u8 0, .int .u8 0, .int .u8 0, .int .u8 0, .int .u8 0, .int .u8 0, .int .u8 0, .int .u8 0, .int .u8 0, .int .u8 0, .int .u8 0, .int .u8 0, .int .u8 0, .int .u8 0, .int .u8 0, .int .u8 0, .int .i64 0, .int .i64 0], .agg #[.int .i64 0, .int .i64 0, .int .i64 0, .int .i64 0], .agg #[.int .i64 0, .int .i64 0, .int .i64 0, .int .i64 0]], []⟩ 8 (by kernel_rfl) (by kernel_rfl) (by kernel_rfl) (by kernel_rfl)) ?_
  intro W base args ds gs before hval0 hW hcnd _
  have hval : ∀ (j : Nat) t v, Try.f3.params[j]? = some t → args[j]? = some v → Value.okWide Try.prog W .any base t v := hval0
  have hW' := hW
  obtain ⟨p, q, hA0, hV, rfl, hfz, hnd⟩ := hW
  have hA : DataW.TrodAll enc Try.prog W 0 (fun _ => true) true Try.f3.params.toList args.toList ds p := hA0
  rw [Try.params3] at hA hval
  obtain ⟨v0, vs0, d0, ds0, p0, q0, hargs, rfl, rfl, h0, r0⟩ := trodAll_cons hA
  obtain ⟨v1, vs1, d1, ds1, p1, q1, rfl, rfl, rfl, h1, r1⟩ := trodAll_cons r0
  obtain ⟨v2, vs2, d2, ds2, p2, q2, rfl, rfl, rfl, h2, r2⟩ := trodAll_cons r1
  obtain ⟨v3, vs3, d3, ds3, p3, q3, rfl, rfl, rfl, h3, r3⟩ := trodAll_cons r2
  obtain ⟨v4, vs4, d4, ds4, p4, q4, rfl, rfl, rfl, h4, r4⟩ := trodAll_cons r3
  obtain ⟨v5, vs5, d5, ds5, p5, q5, rfl, rfl, rfl, h5, r5⟩ := trodAll_cons r4
  obtain ⟨rfl, rfl, rfl⟩ := trodAll_nil r5
  obtain rfl : args = #[v0, v1, v2, v3, v4, v5] := by cases args; simp_all
  obtain ⟨rfl, rfl⟩ := trodVars_none hV
  have k0 := h0
  have lt0 : ∀ x ∈ p0, x.block < W.heap.size := by obtain ⟨m, hm⟩ := k0; exact DataW.trod_lt m _ _ _ hm
  have k1 := h1
  have lt1 : ∀ x ∈ p1, x.block < W.heap.size := by obtain ⟨m, hm⟩ := k1; exact DataW.trod_lt m _ _ _ hm
  have k2 := h2
  have lt2 : ∀ x ∈ p2, x.block < W.heap.size := by obtain ⟨m, hm⟩ := k2; exact DataW.trod_lt m _ _ _ hm
  have k3 := h3
  have lt3 : ∀ x ∈ p3, x.block < W.heap.size := by obtain ⟨m, hm⟩ := k3; exact DataW.trod_lt m _ _ _ hm
  have k4 := h4
  have lt4 : ∀ x ∈ p4, x.block < W.heap.size := by obtain ⟨m, hm⟩ := k4; exact DataW.trod_lt m _ _ _ hm
  have k5 := h5
  have lt5 : ∀ x ∈ p5, x.block < W.heap.size := by obtain ⟨m, hm⟩ := k5; exact DataW.trod_lt m _ _ _ hm
  obtain ⟨cs0, x0, e0, n0⟩ := reads_arg reads_st Try.underlying30 (hval 0 30 v0 rfl rfl) h0
  subst e0
  obtain ⟨rfl, ok0⟩ := n0
  obtain ⟨cs1, x1, e1, n1⟩ := reads_arg reads_st Try.underlying30 (hval 1 30 v1 rfl rfl) h1
  subst e1
  obtain ⟨rfl, ok1⟩ := n1
  obtain ⟨cs2, x2, e2, n2⟩ := reads_arg reads_vt Try.underlying32 (hval 2 32 v2 rfl rfl) h2
  subst e2
  obtain ⟨rfl, ok2⟩ := n2
  obtain ⟨cs3, x3, e3, n3⟩ := reads_arg reads_vt Try.underlying32 (hval 3 32 v3 rfl rfl) h3
  subst e3
  obtain ⟨rfl, ok3⟩ := n3
  obtain ⟨cs4, x4, e4, n4⟩ := reads_arg reads_dn Try.underlying34 (hval 4 34 v4 rfl rfl) h4
  subst e4
  obtain ⟨rfl, ok4⟩ := n4
  obtain ⟨cs5, x5, e5, n5⟩ := reads_arg reads_dn Try.underlying34 (hval 5 34 v5 rfl rfl) h5
  subst e5
  obtain ⟨rfl, ok5⟩ := n5
  clear hA0 hval0
  refine (LApt_any x0 x1 x2 x3 x4 x5 W ok0 ok1 ok2 ok3 ok4 ok5).mono fun e W' ⟨he, hmod⟩ => ?_
  subst he
  have bel : Below W.heap.size W W' := hmod.below (Nat.le_refl _) (fun _ _ => id)
  exact ⟨_, rfl, _, _, _, [], _, [], hW', trodAll_mk1 (shut_bool Try.underlying4 _), (trodAll_cons_mk (Below.trod laidOut (by kernel_rfl) (of_decide_eq_true (by kernel_rfl)) k0 bel lt0) (trodAll_cons_mk (Below.trod laidOut (by kernel_rfl) (of_decide_eq_true (by kernel_rfl)) k1 bel lt1) (trodAll_cons_mk (Below.trod laidOut (by kernel_rfl) (of_decide_eq_true (by kernel_rfl)) k2 bel lt2) (trodAll_cons_mk (Below.trod laidOut (by kernel_rfl) (of_decide_eq_true (by kernel_rfl)) k3 bel lt3) (trodAll_cons_mk (Below.trod laidOut (by kernel_rfl) (of_decide_eq_true (by kernel_rfl)) k4 bel lt4) (trodAll_cons_mk (Below.trod laidOut (by kernel_rfl) (of_decide_eq_true (by kernel_rfl)) k5 bel lt5) trodAll_mk0)))))), rfl, bel.frame _, fun h => by cases h⟩

theorem over : Rows.wireApartRow.holds Try.pinned (OpenSpec.ofChange Rows.wireApartSpec) :=
  OpenClaim.holds_of_wide 3 Try.f3 rfl rfl rfl rfl rfl rfl rfl ⟨rfl, rfl, rfl, rfl, rfl⟩ rfl rfl rfl rfl rfl (by kernel_rfl) Try.func3 (by kernel_rfl)
    (of_decide_eq_true (by kernel_rfl)) (by unfold Func.isWrapper; first | (rw [if_pos (by decide +kernel)]; kernel_rfl) | (rw [if_neg (by decide +kernel)]; exact ⟨rfl, rfl⟩))
    (fun os started H enc _ => lifted os started H enc)

theorem proved : Rows.WireApartSaid := over
end Go.Proofs.Ytknpapcfhnhheaa.wireApart
