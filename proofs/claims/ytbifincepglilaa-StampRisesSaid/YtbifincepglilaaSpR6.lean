/- StampRises: a replica's times rise; each name has one; none is at or below the floor that there was, none is at the end of time: for every list of calls the law returns true. No condition. -/
import Derived.Test.YtbifincepglilaaSpR5
import Derived.ProofKit
import Derived.OpenShut
import Derived.ChangeOld
set_option maxRecDepth 100000
set_option linter.unusedVariables false
/- A call of the stamper's play, as an argument; a map of stamps that is a law's own. -/
namespace Go.Proofs.Ytbifincepglilaa
open Go Go.RowKit Go.Gv Go.ChangeShapes Go.WideShapes Go.ChangeAt Go.Deep

structure Sa where
  d : Int
  x : Int
  t : Nat
  cl : Int
  sq : Int
  b : List Int
def Sa.OK (a : Sa) : Prop := (-9223372036854775808 ≤ a.d ∧ a.d ≤ 9223372036854775807) ∧ (-9223372036854775808 ≤ a.x ∧ a.x ≤ 9223372036854775807) ∧ a.t < U64 ∧ (-9223372036854775808 ≤ a.cl ∧ a.cl ≤ 9223372036854775807) ∧ (-9223372036854775808 ≤ a.sq ∧ a.sq ≤ 9223372036854775807)
def Sa.cells (a : Sa) (v : Value) : List Value := [.int .i64 a.d, .int .i64 a.x, .int .u64 (a.t : Nat), .int .i64 a.cl, .int .i64 a.sq, v]
def SaR : Rep Sa where
  sz := 6
  pos := by decide
  rd R w cs a := ∃ v, cs = a.cells v ∧ a.OK ∧ RdR R a.b.length w v a.b
  len h := by obtain ⟨v, rfl, _⟩ := h; rfl
  one h := by
    obtain ⟨v, rfl, _, h0⟩ := h
    obtain ⟨_, _, e⟩ := h0.shape
    subst e
    intro u hu
    simp only [Sa.cells, List.mem_cons, List.not_mem_nil, or_false] at hu
    rcases hu with rfl | rfl | rfl | rfl | rfl | rfl <;> rfl
  keep h hk := by obtain ⟨v, rfl, ho, h0⟩ := h; exact ⟨v, rfl, ho, RdR_keepY h0 hk⟩
  wid h hs := by obtain ⟨v, rfl, ho, h0⟩ := h; exact ⟨v, rfl, ho, h0.widen hs (Nat.le_refl _)⟩
  tight h := by obtain ⟨v, rfl, ho, h0⟩ := h; exact ⟨v, rfl, ho, RdR_tightY h0⟩
theorem reads_sa : Reads SaR 59 := by
  intro H enc W fuel cs x h
  obtain ⟨xs, n, _, rfl, hl, hn, hf⟩ := DataW.trod_struct Try.underlying59 h
  rw [show Try.prog.cellsOf 59 = 6 from by kernel_rfl] at hl
  have f0 : DataW.trod enc Try.prog W 0 (fun _ => true) true n 3 ((cs.drop 0).take (Try.prog.cellsOf 3)) = xs[0]? := hf 0 _ rfl
  have f1 : DataW.trod enc Try.prog W 0 (fun _ => true) true n 3 ((cs.drop 1).take (Try.prog.cellsOf 3)) = xs[1]? := hf 1 _ rfl
  have f2 : DataW.trod enc Try.prog W 0 (fun _ => true) true n 45 ((cs.drop 2).take (Try.prog.cellsOf 45)) = xs[2]? := hf 2 _ rfl
  have f3 : DataW.trod enc Try.prog W 0 (fun _ => true) true n 30 ((cs.drop 3).take (Try.prog.cellsOf 30)) = xs[3]? := hf 3 _ rfl
  have f4 : DataW.trod enc Try.prog W 0 (fun _ => true) true n 38 ((cs.drop 5).take (Try.prog.cellsOf 38)) = xs[4]? := hf 4 _ rfl
  have hxs : xs.length = 5 := hn
  rw [List.getElem?_eq_getElem (by omega)] at f0 f1 f2 f3 f4
  rw [show Try.prog.cellsOf 3 = 1 from by kernel_rfl] at f0 f1
  rw [show Try.prog.cellsOf 45 = 1 from by kernel_rfl] at f2
  rw [show Try.prog.cellsOf 30 = 2 from by kernel_rfl] at f3
  rw [show Try.prog.cellsOf 38 = 1 from by kernel_rfl] at f4
  match cs, hl with
  | [c0, c1, c2, c3, c4, c5], _ =>
    simp only [List.drop_zero, List.drop_succ_cons, List.take_succ_cons, List.take_zero] at f0 f1 f2 f3 f4
    obtain ⟨q0, e0, _, w0⟩ := DataW.trod_int Try.underlying3 f0
    obtain ⟨q1, e1, _, w1⟩ := DataW.trod_int Try.underlying3 f1
    obtain ⟨q2, e2, _, w2⟩ := DataW.trod_int Try.underlying45 f2
    obtain ⟨ys, m, _, _, hl3, hn3, hf3⟩ := DataW.trod_struct Try.underlying30 f3
    have g0 : DataW.trod enc Try.prog W 0 (fun _ => true) true m 3 (([c3, c4].drop 0).take (Try.prog.cellsOf 3)) = ys[0]? := hf3 0 _ rfl
    have g1 : DataW.trod enc Try.prog W 0 (fun _ => true) true m 3 (([c3, c4].drop 1).take (Try.prog.cellsOf 3)) = ys[1]? := hf3 1 _ rfl
    have hys : ys.length = 2 := hn3
    rw [List.getElem?_eq_getElem (by omega)] at g0 g1
    rw [show Try.prog.cellsOf 3 = 1 from by kernel_rfl] at g0 g1
    simp only [List.drop_zero, List.drop_succ_cons, List.take_succ_cons, List.take_zero] at g0 g1
    obtain ⟨q3, e3, _, w3⟩ := DataW.trod_int Try.underlying3 g0
    obtain ⟨q4, e4, _, w4⟩ := DataW.trod_int Try.underlying3 g1
    obtain ⟨b5, r5⟩ := trod_bytes f4
    obtain ⟨k2, hk2, hu2⟩ := u64_nat w2
    simp at e0 e1 e2 e3 e4
    subst e0 e1 e2 e3 e4 hk2
    exact ⟨⟨q0, q1, k2, q3, q4, b5⟩, c5, rfl, ⟨i64_bd w0, i64_bd w1, hu2, i64_bd w3, i64_bd w4⟩, r5⟩

theorem SpR.bd {R : Nat → Prop} {w : World} {p : Nat} {f k rep : Int} {s : SS} (h : SpR R w p f k rep s) : s.now < U64 ∧ s.floor + 1 < U64 ∧ s.last + 1 < U64 := by
  obtain ⟨b, -, -, -, -, -, h1, h2, h3, -⟩ := h
  exact ⟨h1, h2, h3⟩
theorem SpR.oks {R : Nat → Prop} {w : World} {p : Nat} {f k rep : Int} {s : SS} (h : SpR R w p f k rep s) : ∀ q ∈ s.m, q.2.OK := by
  obtain ⟨b, -, -, -, -, -, -, -, -, h4⟩ := h
  exact h4
abbrev GmI (w : World) (b : Nat) (l : NMap) : Prop := MapIs w b nmV St.val NmK l
theorem ex_lookI {w : World} {a : Act} {o : Oper} {x y : Operand} {b : Nat} {l : NMap} {k : Int × Int} {v : Value} (ho : o.op = .lookup 57 x y true) (hx : a.eval x = .map (some b)) (hy : a.eval y = nmV k) (hk : NmK k) (h : GmI w b l) (hv : lookV l k = v) : (execOp a.eval o).run Try.prog w = .ok (.value v) w := by
  have hl := h.lookup nm_enc Try.underlying57 (zero_run zero_st w) k hk true
  have e : ((mlook l k).map St.val).getD zSt.val = ((mlook l k).getD zSt).val := by cases mlook l k <;> rfl
  rw [if_pos rfl, e, show Value.tuple #[((mlook l k).getD zSt).val, .bool (mhas l k)] = v from hv] at hl
  unfold execOp
  simp [ho, hx, hy, hl, Result.andThen]
theorem ex_lenM {w : World} {a : Act} {o : Oper} {x : Operand} {b : Nat} {l : NMap} (ho : o.op = .call { callee := .builtin .len, args := #[x], argTypes := #[57] }) (hx : a.eval x = .map (some b)) (h : GmI w b l) : (execOp a.eval o).run Try.prog w = .ok (.value (.int .i64 ((l.length : Nat) : Int))) w := by
  have hl := h.len Try.underlying57 o.type
  unfold execOp
  simp [ho, resolve, invoke, builtin, hx, hl, Result.andThen]
theorem qc_update {ops : Array Oper} {Q : Exit → Act → World → Prop} {i : Nat} {o : Oper} {a : Act} {w : World} {b : Nat} {l : NMap} {k : Int × Int} {KQ : Value → World → Prop} {x z u : Operand} {y : St} (ho : ops[i]? = some o) (hw : Region.wanted o (yielded ops a.tmps) = true) (hop : o.op = .mapUpdate 57 x z u) (hx : a.eval x = .map (some b)) (hz : a.eval z = nmV k) (hu : a.eval u = y.val) (hk : NmK k) (hm : GmI w b l) (hn : mlook l k = none)
    (h : ∀ w', GmI w' b (l ++ [(k, y)]) → Mod (fun j => j = b) w w' → KQ undef w') : wpOp Try.prog ops Q i (fun a' w' => ∃ v, a' = a.put o.dst v ∧ KQ v w') a w := by
  have hne : ∀ p ∈ l, p.1 ≠ k := by
    intro p hp e
    obtain ⟨j, hj⟩ := List.getElem?_of_mem hp
    rw [mlook_at hm.2.2 hj e] at hn
    cases hn
  obtain ⟨w1, hr, h1, h2⟩ := hm.update nm_enc Try.underlying57 k hk y
  rw [mput_none hne] at h1
  refine qc_turn ho hw ?_ (h w1 h1 h2)
  unfold execOp
  simp [hop, hx, hz, hu, hr, Result.andThen]
theorem run_eql_hv {a b : List Int} (ha : a.length = 32) (hb : b.length = 32) {c : Bool} (hc : c = true ↔ a = b) (w : World) : (binOp .eql 32 (hv a) (hv b)).run Try.prog w = .ok (.bool c) w :=
  EqW.run (EqW.ints (d := 9998) Try.underlying32 Try.underlying5 (by kernel_rfl)) (ki_hash ha) (ki_hash hb) (hc.trans ⟨fun h => by rw [h], hash_inj⟩) w
end Go.Proofs.Ytbifincepglilaa

/- gavellaw09.StampRises. -/
namespace Go.Proofs.Ytbifincepglilaa
open Go Go.RowKit Go.Gv

set_option maxHeartbeats 3000000 in
theorem StampRises_walk (l : List Sa) (vi : Value) (w : World) (hl : RdS SaR (fun k => k < w.heap.size) w vi l) : Calls Try.prog 5 #[vi] w fun e w' => e = .returned (.bool true) ∧ Mod (fun _ => False) w w' := by
 have hU : U64 = 18446744073709551616 := rfl
 obtain ⟨ai, cap, rfl⟩ := hl.shape
 have HL := Lib.hid hl
 clear hl
 go_enter Try.func5, Try.ntmps5
 go_upto_region 1 with (fail)
 have HM0 := hid (Mod.refl (fun _ => False) w)
 go_upto_region 1 with (fail)
 refine wp_region_U 199 [19, 3, 201] [0, 1, 2] (fun a0 HA0 => ?_)
 refine QSeq.pure rfl (.agg #[.int .i64 1, .int .i64 3]) (fun E => ex_build rfl (z := [.int .i64 0, .int .i64 0]) (places := [(0, 1), (1, 1)]) (by kernel_rfl) (parts := [(0, .int .i64 1), (1, .int .i64 3)]) (by simp only [List.map_toArray, List.map_cons, List.map_nil]; try rfl) (r := [.int .i64 1, .int .i64 3]) (by rfl)) ?_
 refine QSeq.go fun act E => ?_
 refine qc_alloc rfl (wanted_none rfl) rfl (z := [.int .i64 0, .int .i64 0]) (by kernel_rfl) ?_
 intro u1_1 qb3 hm
 have zl1_1 := qb3.lt
 have Hx1 := hid qb3
 have zu1_1 := hm.size
 have Cx2 := hid (show Mod (fun _ => False) w u1_1 from hm)
 clear hm
 clear act E qb3
 refine QSeq.go fun act E => ?_
 have hlz : (([.int .i64 1, .int .i64 3] : List Value)).length = List.length ([.int .i64 0, .int .i64 0] : List Value) := rfl
 refine qc_store rfl (wanted_none rfl) rfl Hx1.out (off := 0) (vs := ([.int .i64 1, .int .i64 3] : List Value)) (by rw [hlz]; kernel_rfl) (by intro u hu; simp only [List.mem_cons, List.not_mem_nil, or_false] at hu; rcases hu with rfl | rfl <;> rfl) (by rw [hlz]; exact Nat.le_of_eq (Nat.zero_add _)) (E.d 1 0) (ec (E.d 0 1)) ?_
 intro u1_2 qc0 hm
 have qb3 := qc0.eqv (b := (([.int .i64 1, .int .i64 3] : List Value) : List Value).toArray) (lay_whole (#[.int .i64 0, .int .i64 0]) _ (by rw [hlz]; rfl))
 clear qc0 hlz
 have Hx3 := hid qb3
 have zu1_2 := hm.size
 have HMu1_2 := hid hm
 have Cx4 := hid (Mod.goS (S' := (fun _ => False)) Cx2.out hm (fun _ h => h) (by intro k h0 h2; omega))
 clear hm Cx2
 clear act E qb3 Hx1
 clear HMu1_2
 refine QSeq.nil (t' := [_, _, _]) rfl ?_
 obtain rfl := HA0.out
 clear HA0
 simp only [pz, Act.put, List.setIfInBounds_toArray, List.set_cons_zero, List.set_cons_succ, List.set_nil]
 go_upto_region 2 with (fail)
 refine wp_region_U 199 [20, 4] [0, 1] (fun a0 HA0 => ?_)
 refine QSeq.call rfl rfl Try.func9 (Book_new_Q _) (fun E => args0) ?_
 rintro e u2_0 ⟨g, rfl, qbk, hm⟩
 refine ⟨_, rfl, ?_⟩
 have Hx5 := hid qbk
 have zu2_0 := hm.size
 have Cx6 := hid (show Mod (fun _ => False) u1_2 u2_0 from hm)
 clear hm
 clear qbk
 refine QSeq.pure rfl _ (fun E => ex_assign rfl (E.d 0 0)) ?_
 refine QSeq.nil (t' := [_, _]) rfl ?_
 obtain rfl := HA0.out
 clear HA0
 simp only [pz, Act.put, List.setIfInBounds_toArray, List.set_cons_zero, List.set_cons_succ]
 go_upto_region 3 with (fail)
 refine wp_region_U 199 [22, 23, 21, 24, 25, 5, 6] [0, 1, 2, 3, 4, 5, 6] (fun a0 HA0 => ?_)
 have oe3 := ev HA0 3 rfl
 refine QSeq.pure rfl _ (fun E => ex_loadA rfl Try.underlying26 rfl (off := 0) (cs := [.int .i64 1, .int .i64 3]) (by kernel_rfl) (E.v oe3) (Cs.litA (Hx3.out.mod Cx6.out (fun h => h)) rfl)) ?_
 refine QSeq.call rfl rfl Try.func11 (New_Q (F := 1) (C := 3) (r := 2) (by decide) (by decide) (by decide) _) (fun E => args2 (E.d 0 0) rfl) ?_
 rintro e u3_1 ⟨p, rfl, qsp, hm⟩
 refine ⟨_, rfl, ?_⟩
 have Hx7 := hid qsp
 have zu3_1 := hm.size
 have Cx8 := hid (show Mod (fun _ => False) u2_0 u3_1 from hm)
 clear hm
 clear qsp
 refine QSeq.pure rfl _ (fun E => ex_move rfl (E.d 1 0)) ?_
 refine QSeq.pure rfl (.pointer (some ⟨p, 0, none⟩)) (fun E => ex_extract rfl (E.d 2 0) rfl) ?_
 refine QSeq.pure rfl (.int .i64 0) (fun E => ex_extract rfl (E.d 2 1) rfl) ?_
 refine QSeq.pure rfl _ (fun E => ex_assign rfl (E.d 3 1)) ?_
 refine QSeq.pure rfl _ (fun E => ex_assign rfl (E.d 4 1)) ?_
 refine QSeq.nil (t' := [_, _, _, _, _, _, _]) rfl ?_
 obtain rfl := HA0.out
 clear HA0 oe3
 simp only [pz, Act.put, List.setIfInBounds_toArray, List.set_cons_zero, List.set_cons_succ]
 go_upto_region 4 with (fail)
 refine wp_region_U 199 [26, 27, 28, 29, 30, 31, 32, 33, 34, 35] [0, 1, 2, 3, 4, 5, 6, 7, 8, 9] (fun a0 HA0 => ?_)
 have oe4 := ev HA0 4 rfl
 have oe5 := ev HA0 5 rfl
 have oe6 := ev HA0 6 rfl
 refine QSeq.pure rfl _ (fun E => ex_move rfl (E.v oe4)) ?_
 refine QSeq.pure rfl (.bool false) (fun E => ex_bin rfl (E.d 0 0) rfl (guard_ptr _ _ _ _ _ _ _) (run_eql_nil _ Try.underlying27 (by kernel_rfl) _)) ?_
 refine QSeq.pure rfl _ (fun E => ex_move rfl (E.d 1 0)) ?_
 refine QSeq.pureG rfl (.int .i64 0) (fun E => ((wanted_of rfl rfl (E.sz 28 (by decide)) (E.d 2 0)).trans rfl)) (fun E => ex_move rfl (E.v oe6)) ?_
 refine QSeq.pureG rfl (.bool false) (fun E => ((wanted_of rfl rfl (E.sz 28 (by decide)) (E.d 2 1)).trans rfl)) (fun E => ex_binE rfl (E.d 3 0) rfl (guard_ints _ _ _ _ _ _) (run_neq_i _ _ _ Try.underlying40) (congrArg Value.bool (show _ = false from rfl))) ?_
 refine QSeq.pure rfl (.bool false) (fun E => ex_pick rfl (E.d 2 2) rfl (E.d 4 0)) ?_
 refine QSeq.pure rfl _ (fun E => ex_move rfl (E.d 5 0)) ?_
 refine QSeq.pureG rfl (.pointer (some ⟨p, 0, none⟩)) (fun E => ((wanted_of rfl rfl (E.sz 32 (by decide)) (E.d 6 0)).trans rfl)) (fun E => ex_move rfl (E.v oe5)) ?_
 refine QSeq.pureG rfl (.bool false) (fun E => ((wanted_of rfl rfl (E.sz 32 (by decide)) (E.d 6 1)).trans rfl)) (fun E => ex_bin rfl (E.d 7 0) rfl (guard_ptr _ _ _ _ _ _ _) (run_eql_nil _ Try.underlying39 (by kernel_rfl) _)) ?_
 refine QSeq.pure rfl (.bool false) (fun E => ex_pick rfl (E.d 6 2) rfl (E.d 8 0)) ?_
 refine QSeq.nil (t' := [_, _, _, _, _, _, _, _, _, _]) rfl ?_
 obtain rfl := HA0.out
 clear HA0 oe4 oe5 oe6
 simp only [pz, Act.put, List.setIfInBounds_toArray, List.set_cons_zero, List.set_cons_succ]
 clear Hx3
 go_upto_region 6 with (fail)
 refine wp_region_U 199 [7] [0] (fun a0 HA0 => ?_)
 refine QSeq.pure rfl (.int .u64 0) (fun E => ex_assign rfl rfl) ?_
 refine QSeq.nil (t' := [_]) rfl ?_
 obtain rfl := HA0.out
 clear HA0
 simp only [pz, Act.put, List.setIfInBounds_toArray, List.set_cons_zero, List.set_cons_succ]
 go_upto_region 7 with (fail)
 refine wp_region_U 199 [36, 8] [0, 1] (fun a0 HA0 => ?_)
 refine QSeq.go fun act E => ?_
 refine qc_map rfl (wanted_none rfl) rfl ?_
 intro u7_0 qgm0 hm
 have qgm := qgm0.1
 clear qgm0
 have zl7_0 := qgm.lt
 have Hx9 := hid qgm
 have zu7_0 := hm.size
 have Cx10 := hid (show Mod (fun _ => False) u3_1 u7_0 from hm)
 clear hm
 clear act E qgm
 refine QSeq.pure rfl _ (fun E => ex_assign rfl (E.d 0 0)) ?_
 refine QSeq.nil (t' := [_, _]) rfl ?_
 obtain rfl := HA0.out
 clear HA0
 simp only [pz, Act.put, List.setIfInBounds_toArray, List.set_cons_zero, List.set_cons_succ]
 go_upto_region 8 with (fail)
 refine wp_region_U 199 [9] [0] (fun a0 HA0 => ?_)
 refine QSeq.pure rfl (.int .i64 0) (fun E => ex_assign rfl rfl) ?_
 refine QSeq.nil (t' := [_]) rfl ?_
 obtain rfl := HA0.out
 clear HA0
 simp only [pz, Act.put, List.setIfInBounds_toArray, List.set_cons_zero, List.set_cons_succ]
 go_wp2
 go_loopw [7, 9] (fun tl ti wr => ∃ (i : Nat) (s : SS) (L : List (Int × List Int)), tl = .int .u64 (s.last : Nat) ∧ ti = .int .i64 (i : Nat) ∧ i ≤ 25 ∧ L.length ≤ 2 * i ∧ u7_0.heap.size ≤ wr.heap.size ∧ SpR (fun k => (New u2_0 u3_1 k)) wr p 1 3 2 s ∧ BkR (fun k => (New u1_2 u2_0 k)) wr g L ∧ GmI wr (u3_1.heap.size) s.m ∧ RdS SaR (fun k => k < w.heap.size) wr (.slice ai l.length cap) l ∧ Mod (fun _ => False) w wr) (fun _ ti _ => 26 - (intOf ti).toNat)
 case atStart => exact ⟨0, ss0, [], rfl, rfl, by omega, by simp, Nat.le_refl _, (Hx7.out.mod Cx10.out (fun _ _ h => h)), ((Hx5.out.mod Cx8.out (fun _ _ h => h)).mod Cx10.out (fun _ _ h => h)), Hx9.out, ((((HL.out.mod Cx4.out (fun _ _ h => h)).mod Cx6.out (fun _ _ h => h)).mod Cx8.out (fun _ _ h => h)).mod Cx10.out (fun _ _ h => h)), ((((HM0.out.trans Cx4.out (fun _ _ h => h.elim)).trans Cx6.out (fun _ _ h => h.elim)).trans Cx8.out (fun _ _ h => h.elim)).trans Cx10.out (fun _ _ h => h.elim))⟩
 case round =>
  obtain ⟨i, s, L, rfl, rfl, hi25, hLl, hz, k1, k2, k3, k4, k5⟩ := hrel
  obtain ⟨wl, rfl⟩ : ∃ x, x = wr := ⟨_, rfl⟩
  have hbd := k1.bd
  have HOKS := hid k1.oks
  have K1 := Lib.hid k1
  have K2 := Lib.hid k2
  have K3 := Lib.hid k3
  have K4 := Lib.hid k4
  have K5 := Lib.hid k5
  clear k1 k2 k3 k4 k5 HL HM0 Hx5 Hx7 Hx9
  go_upto_region 9 with (fail)
  refine wp_region_U 199 [37, 38, 39, 40, 41, 42, 43, 44] [0, 1, 2, 3, 4, 5, 6, 7] (fun a0 HA0 => ?_)
  have oe0 := ev HA0 0 rfl
  have oe9 := ev HA0 9 rfl
  refine QSeq.pure rfl _ (fun E => ex_move rfl (E.v oe9)) ?_
  refine QSeq.pure rfl _ (fun E => ex_move rfl (E.v oe0)) ?_
  refine QSeq.pure rfl (.int .i64 l.length) (fun E => ex_lenS rfl (E.d 1 0) Try.underlying56) ?_
  refine QSeq.pure rfl (.bool (decide (((i : Nat) : Int) < ((l.length : Nat) : Int)))) (fun E => ex_bin rfl (E.d 0 2) (E.d 2 0) (guard_ints _ _ _ _ _ _) (run_lss_i _ _ _ Try.underlying3)) ?_
  refine QSeq.pure rfl _ (fun E => ex_move rfl (E.d 3 0)) ?_
  refine QSeq.may (b := (decide (((i : Nat) : Int) < ((l.length : Nat) : Int)))) rfl (.int .i64 ((i : Nat) : Int)) (fun E => ((wanted_of rfl rfl (E.sz 41 (by decide)) (E.d 4 0)).trans (beq_t _))) (fun E hb => ex_move rfl (E.v oe9)) ?_
  intro v9_5 hw
  have hv9_5 := hid hw
  clear hw
  refine QSeq.may (b := (decide (((i : Nat) : Int) < ((l.length : Nat) : Int)))) rfl (.bool (decide (((i : Nat) : Int) < 25))) (fun E => ((wanted_of rfl rfl (E.sz 41 (by decide)) (E.d 4 1)).trans (beq_t _))) (fun E hb => ex_bin rfl ((E.q 5 0 hv9_5.out).1 hb) rfl (guard_ints _ _ _ _ _ _) (run_lss_i _ _ _ Try.underlying3)) ?_
  intro v9_6 hw
  have hv9_6 := hid hw
  clear hw
  obtain ⟨pb7, hb7⟩ : ∃ b : Bool, b = ((decide (((i : Nat) : Int) < ((l.length : Nat) : Int))) && (decide (((i : Nat) : Int) < 25))) := ⟨_, rfl⟩
  have HB7 := hid hb7
  clear hb7
  refine QSeq.pure rfl (.bool pb7) (fun E => ex_pickE rfl (E.d 4 2) rfl rfl ((and_val fun hb => (E.q 6 0 hv9_6.out).1 hb).trans (congrArg Value.bool HB7.out.symm))) ?_
  clear hv9_5 hv9_6
  refine QSeq.nil (t' := [_, _, _, _, _, _, _, _]) rfl ?_
  obtain rfl := HA0.out
  clear HA0 oe0 oe9
  simp only [pz, Act.put, List.setIfInBounds_toArray, List.set_cons_zero, List.set_cons_succ]
  by_cases hc : i < l.length ∧ i < 25
  ·obtain ⟨hc1, hc2⟩ := hc
   obtain rfl : pb7 = true := HB7.out.trans (by simp only [Bool.and_eq_true, decide_eq_true_eq]; omega)
   obtain ⟨g0, o0, cs, eao, hrg, hrd, hcs⟩ := K4.out.at hc1
   obtain ⟨va, rfl, hoka, hva⟩ := hrd
   generalize l[i] = a at hva hoka hcs
   obtain ⟨aa, cpa, rfl⟩ := hva.shape
   subst eao
   have HAT := hid (show CellsAt (fun k => k < w.heap.size) wl g0 (o0 + i * 6) (a.cells (.slice aa a.b.length cpa)) from ⟨hrg, hcs⟩)
   have HEL := Lib.hid hva
   have HOK := Lib.hid hoka
   clear hrg hcs hva hoka
   go_upto_region 11 with (fail)
   refine wp_region_U 199 [47, 48, 49, 50, 10, 204] [0, 1, 2, 3, 4, 5] (fun a0 HA0 => ?_)
   have oe0 := ev HA0 0 rfl
   have oe9 := ev HA0 9 rfl
   refine QSeq.pure rfl _ (fun E => ex_move rfl (E.v oe0)) ?_
   refine QSeq.pure rfl _ (fun E => ex_move rfl (E.v oe9)) ?_
   refine QSeq.pure rfl (.pointer (some ⟨g0, o0 + i * 6, none⟩)) (fun E => ex_idxS (i := i) (s := 6) rfl Try.underlying56 (by kernel_rfl) (E.d 0 1) (E.d 1 0) (by omega)) ?_
   refine QSeq.pure rfl _ (fun E => ex_loadA rfl Try.underlying59 rfl (off := o0 + i * 6) (cs := [.int .i64 a.d, .int .i64 a.x, .int .u64 (a.t : Nat), .int .i64 a.cl, .int .i64 a.sq, .slice aa a.b.length cpa]) (by kernel_rfl) (E.d 2 0) (fun j u hu => (HAT.out).2 j u hu)) ?_
   refine QSeq.go fun act E => ?_
   refine qc_alloc rfl (wanted_none rfl) rfl (z := [.int .i64 0, .int .i64 0, .int .u64 0, .int .i64 0, .int .i64 0, .slice none 0 0]) (by kernel_rfl) ?_
   intro u11_4 qac hm
   have zl11_4 := qac.lt
   have Hx11 := hid qac
   have zu11_4 := hm.size
   have Cx12 := hid (show Mod (fun _ => False) wl u11_4 from hm)
   clear hm
   clear act E qac
   refine QSeq.go fun act E => ?_
   have hlz : (([.int .i64 a.d, .int .i64 a.x, .int .u64 (a.t : Nat), .int .i64 a.cl, .int .i64 a.sq, .slice aa a.b.length cpa] : List Value)).length = List.length ([.int .i64 0, .int .i64 0, .int .u64 0, .int .i64 0, .int .i64 0, .slice none 0 0] : List Value) := rfl
   refine qc_store rfl (wanted_none rfl) rfl Hx11.out (off := 0) (vs := ([.int .i64 a.d, .int .i64 a.x, .int .u64 (a.t : Nat), .int .i64 a.cl, .int .i64 a.sq, .slice aa a.b.length cpa] : List Value)) (by rw [hlz]; kernel_rfl) (by intro u hu; simp only [List.mem_cons, List.not_mem_nil, or_false] at hu; rcases hu with rfl | rfl | rfl | rfl | rfl | rfl <;> rfl) (by rw [hlz]; exact Nat.le_of_eq (Nat.zero_add _)) (E.d 4 0) (ec (E.d 3 1)) ?_
   intro u11_5 qc0 hm
   have qac := qc0.eqv (b := (([.int .i64 a.d, .int .i64 a.x, .int .u64 (a.t : Nat), .int .i64 a.cl, .int .i64 a.sq, .slice aa a.b.length cpa] : List Value) : List Value).toArray) (lay_whole (#[.int .i64 0, .int .i64 0, .int .u64 0, .int .i64 0, .int .i64 0, .slice none 0 0]) _ (by rw [hlz]; rfl))
   clear qc0 hlz
   have Hx13 := hid qac
   have zu11_5 := hm.size
   have HMu11_5 := hid hm
   have Cx14 := hid (Mod.goS (S' := (fun _ => False)) Cx12.out hm (fun _ h => h) (by intro k h0 h2; omega))
   clear hm Cx12
   clear act E qac Hx11
   clear HMu11_5
   refine QSeq.nil (t' := [_, _, _, _, _, _]) rfl ?_
   obtain rfl := HA0.out
   clear HA0 oe0 oe9
   simp only [pz, Act.put, List.setIfInBounds_toArray, List.set_cons_zero, List.set_cons_succ, List.set_nil]
   clear HAT
   have hat : a.t < U64 := HOK.out.2.2.1
   obtain ⟨m, hm⟩ : ∃ m : Nat, within a.d 6 = m := ⟨(within a.d 6).toNat, by have := within_range a.d 6 (by decide); omega⟩
   have HW := hid (Within_any a.d 6 (by decide) (by decide) HOK.out.1)
   rw [hm] at HW
   clear hm
   go_upto_region 12 with (fail)
   refine wp_region_U 199 [51, 52, 53] [0, 1, 2] (fun a0 HA0 => ?_)
   have oe10 := ev HA0 10 rfl
   refine QSeq.pure rfl (.pointer (some ⟨wl.heap.size, 0, none⟩)) (fun E => ex_field rfl Try.underlying59 rfl (by kernel_rfl) (E.v oe10)) ?_
   refine QSeq.pure rfl _ (fun E => ex_load1 rfl Try.underlying3 rfl (E.d 0 0) (Cs.lit1 Hx13.out rfl)) ?_
   refine QSeq.go fun act E => ?_
   refine qc_callF (args := #[.int .i64 a.d, .int .i64 6]) rfl (wanted_none rfl) rfl Try.func8 (args2 (E.d 1 0) rfl) (HW.out _) ?_
   rintro e w2 ⟨rfl, hw2⟩
   obtain rfl : u11_5 = w2 := by first | exact hw2 | exact hw2.symm
   refine ⟨_, rfl, ?_⟩
   clear act E
   refine QSeq.nil (t' := [_, _, _]) rfl ?_
   obtain rfl := HA0.out
   clear HA0 oe10
   simp only [pz, Act.put, List.setIfInBounds_toArray, List.set_cons_zero, List.set_cons_succ]
   by_cases h3 : m = 3
   ·skip
    go_upto_region 30 with (fail)
    refine wp_region_U 199 [165, 164] [0, 1] (fun a0 HA0 => ?_)
    have oe53 := ev HA0 53 rfl
    refine QSeq.pure rfl (.bool true) (fun E => ex_binE rfl (E.v oe53) rfl (guard_ints _ _ _ _ _ _) (run_eql_i _ _ _ Try.underlying3) (congrArg Value.bool (eq_tt (by omega)))) ?_
    refine QSeq.pure rfl _ (fun E => ex_assign rfl (E.d 0 0)) ?_
    refine QSeq.nil (t' := [_, _]) rfl ?_
    obtain rfl := HA0.out
    clear HA0 oe53
    simp only [pz, Act.put, List.setIfInBounds_toArray, List.set_cons_zero, List.set_cons_succ]
    clear HEL
    go_upto_region 32 with (fail)
    refine wp_region_U 199 [167, 168, 169, 170] [0, 1, 2, 3] (fun a0 HA0 => ?_)
    have oe5 := ev HA0 5 rfl
    have oe10 := ev HA0 10 rfl
    refine QSeq.pure rfl _ (fun E => ex_move rfl (E.v oe5)) ?_
    refine QSeq.pure rfl (.pointer (some ⟨wl.heap.size, 2, none⟩)) (fun E => ex_field rfl Try.underlying59 rfl (by kernel_rfl) (E.v oe10)) ?_
    refine QSeq.pure rfl _ (fun E => ex_load1 rfl Try.underlying45 rfl (E.d 1 0) (Cs.lit1 Hx13.out rfl)) ?_
    refine QSeq.call rfl rfl Try.func13 (Tick_Q (n := a.t) (K1.out.mod Cx14.out (fun _ _ h => h)) (by intro k h1; omega) hat) (fun E => args2 (E.d 0 2) (E.d 2 0)) ?_
    rintro e u32_3 ⟨rfl, qsp, hm⟩
    refine ⟨_, rfl, ?_⟩
    have Hx15 := hid qsp
    have zu32_3 := hm.size
    have Cx16 := hid (show Mod (fun k => (New u2_0 u3_1 k)) u11_5 u32_3 from hm)
    clear hm
    clear qsp K1
    refine QSeq.nil (t' := [_, _, _, _]) rfl ?_
    obtain rfl := HA0.out
    clear HA0 oe5 oe10
    simp only [pz, Act.put, List.setIfInBounds_toArray, List.set_cons_zero, List.set_cons_succ]
    clear Hx13
    go_upto_region 10 with (fail)
    refine wp_region_U 199 [45, 46, 9] [0, 1, 2] (fun a0 HA0 => ?_)
    have oe9 := ev HA0 9 rfl
    refine QSeq.pure rfl _ (fun E => ex_move rfl (E.y 2 oe9)) ?_
    refine QSeq.pure rfl (.int .i64 (((i + 1) : Nat) : Int)) (fun E => ex_binE rfl (E.d 0 0) rfl (guard_ints _ _ _ _ _ _) (run_add_i _ _ Try.underlying3) (congrArg (Value.int .i64) (i64_eq (b := (((i + 1) : Nat) : Int)) (by omega) (by omega) (by omega)))) ?_
    refine QSeq.pure rfl _ (fun E => ex_assign rfl (E.d 1 0)) ?_
    refine QSeq.nil (t' := [_, _, _]) rfl ?_
    obtain rfl := HA0.out
    clear HA0 oe9
    simp only [pz, Act.put, List.setIfInBounds_toArray, List.set_cons_zero, List.set_cons_succ]
    go_wp2
    go_roundw
    case rel => exact ⟨i + 1, tickS s a.t, L, rfl, rfl, by omega, by omega, by omega, Hx15.out, ((K2.out.mod Cx14.out (fun _ _ h => h)).mod Cx16.out (by intro k h1 h2; omega)), ((K3.out.mod Cx14.out (fun h => h)).mod Cx16.out (by intro h2; omega)), ((K4.out.mod Cx14.out (fun _ _ h => h)).mod Cx16.out (by intro k h1 h2; omega)), ((K5.out.trans Cx14.out (fun _ _ h => h.elim)).trans Cx16.out (by intro k h1 h2; omega))⟩
    case measure => simp [intOf]; omega
   ·skip
    go_upto_region 30 with (fail)
    refine wp_region_U 199 [165, 164] [0, 1] (fun a0 HA0 => ?_)
    have oe53 := ev HA0 53 rfl
    refine QSeq.pure rfl (.bool false) (fun E => ex_binE rfl (E.v oe53) rfl (guard_ints _ _ _ _ _ _) (run_eql_i _ _ _ Try.underlying3) (congrArg Value.bool (eq_ff (by omega)))) ?_
    refine QSeq.pure rfl _ (fun E => ex_assign rfl (E.d 0 0)) ?_
    refine QSeq.nil (t' := [_, _]) rfl ?_
    obtain rfl := HA0.out
    clear HA0 oe53
    simp only [pz, Act.put, List.setIfInBounds_toArray, List.set_cons_zero, List.set_cons_succ]
    by_cases h4 : m = 4
    ·skip
     go_upto_region 31 with (fail)
     refine wp_region_U 199 [166, 164] [0, 1] (fun a0 HA0 => ?_)
     have oe53 := ev HA0 53 rfl
     refine QSeq.pure rfl (.bool true) (fun E => ex_binE rfl (E.v oe53) rfl (guard_ints _ _ _ _ _ _) (run_eql_i _ _ _ Try.underlying3) (congrArg Value.bool (eq_tt (by omega)))) ?_
     refine QSeq.pure rfl _ (fun E => ex_assign rfl (E.d 0 0)) ?_
     refine QSeq.nil (t' := [_, _]) rfl ?_
     obtain rfl := HA0.out
     clear HA0 oe53
     simp only [pz, Act.put, List.setIfInBounds_toArray, List.set_cons_zero, List.set_cons_succ]
     go_upto_region 32 with (fail)
     refine wp_region_U 199 [167, 168, 169, 170] [0, 1, 2, 3] (fun a0 HA0 => ?_)
     have oe5 := ev HA0 5 rfl
     have oe10 := ev HA0 10 rfl
     refine QSeq.pure rfl _ (fun E => ex_move rfl (E.v oe5)) ?_
     refine QSeq.pure rfl (.pointer (some ⟨wl.heap.size, 2, none⟩)) (fun E => ex_field rfl Try.underlying59 rfl (by kernel_rfl) (E.v oe10)) ?_
     refine QSeq.pure rfl _ (fun E => ex_load1 rfl Try.underlying45 rfl (E.d 1 0) (Cs.lit1 Hx13.out rfl)) ?_
     refine QSeq.call rfl rfl Try.func13 (Tick_Q (n := a.t) (K1.out.mod Cx14.out (fun _ _ h => h)) (by intro k h1; omega) hat) (fun E => args2 (E.d 0 2) (E.d 2 0)) ?_
     rintro e u32_3 ⟨rfl, qsp, hm⟩
     refine ⟨_, rfl, ?_⟩
     have Hx17 := hid qsp
     have zu32_3 := hm.size
     have Cx18 := hid (show Mod (fun k => (New u2_0 u3_1 k)) u11_5 u32_3 from hm)
     clear hm
     clear qsp K1
     refine QSeq.nil (t' := [_, _, _, _]) rfl ?_
     obtain rfl := HA0.out
     clear HA0 oe5 oe10
     simp only [pz, Act.put, List.setIfInBounds_toArray, List.set_cons_zero, List.set_cons_succ]
     clear Hx13
     clear HEL
     go_upto_region 10 with (fail)
     refine wp_region_U 199 [45, 46, 9] [0, 1, 2] (fun a0 HA0 => ?_)
     have oe9 := ev HA0 9 rfl
     refine QSeq.pure rfl _ (fun E => ex_move rfl (E.y 2 oe9)) ?_
     refine QSeq.pure rfl (.int .i64 (((i + 1) : Nat) : Int)) (fun E => ex_binE rfl (E.d 0 0) rfl (guard_ints _ _ _ _ _ _) (run_add_i _ _ Try.underlying3) (congrArg (Value.int .i64) (i64_eq (b := (((i + 1) : Nat) : Int)) (by omega) (by omega) (by omega)))) ?_
     refine QSeq.pure rfl _ (fun E => ex_assign rfl (E.d 1 0)) ?_
     refine QSeq.nil (t' := [_, _, _]) rfl ?_
     obtain rfl := HA0.out
     clear HA0 oe9
     simp only [pz, Act.put, List.setIfInBounds_toArray, List.set_cons_zero, List.set_cons_succ]
     go_wp2
     go_roundw
     case rel => exact ⟨i + 1, tickS s a.t, L, rfl, rfl, by omega, by omega, by omega, Hx17.out, ((K2.out.mod Cx14.out (fun _ _ h => h)).mod Cx18.out (by intro k h1 h2; omega)), ((K3.out.mod Cx14.out (fun h => h)).mod Cx18.out (by intro h2; omega)), ((K4.out.mod Cx14.out (fun _ _ h => h)).mod Cx18.out (by intro k h1 h2; omega)), ((K5.out.trans Cx14.out (fun _ _ h => h.elim)).trans Cx18.out (by intro k h1 h2; omega))⟩
     case measure => simp [intOf]; omega
    ·skip
     go_upto_region 31 with (fail)
     refine wp_region_U 199 [166, 164] [0, 1] (fun a0 HA0 => ?_)
     have oe53 := ev HA0 53 rfl
     refine QSeq.pure rfl (.bool false) (fun E => ex_binE rfl (E.v oe53) rfl (guard_ints _ _ _ _ _ _) (run_eql_i _ _ _ Try.underlying3) (congrArg Value.bool (eq_ff (by omega)))) ?_
     refine QSeq.pure rfl _ (fun E => ex_assign rfl (E.d 0 0)) ?_
     refine QSeq.nil (t' := [_, _]) rfl ?_
     obtain rfl := HA0.out
     clear HA0 oe53
     simp only [pz, Act.put, List.setIfInBounds_toArray, List.set_cons_zero, List.set_cons_succ]
     by_cases h5 : m = 5
     ·skip
      go_upto_region 33 with (fail)
      refine wp_region_U 199 [172, 171] [0, 1] (fun a0 HA0 => ?_)
      have oe53 := ev HA0 53 rfl
      refine QSeq.pure rfl (.bool true) (fun E => ex_binE rfl (E.v oe53) rfl (guard_ints _ _ _ _ _ _) (run_eql_i _ _ _ Try.underlying3) (congrArg Value.bool (eq_tt (by omega)))) ?_
      refine QSeq.pure rfl _ (fun E => ex_assign rfl (E.d 0 0)) ?_
      refine QSeq.nil (t' := [_, _]) rfl ?_
      obtain rfl := HA0.out
      clear HA0 oe53
      simp only [pz, Act.put, List.setIfInBounds_toArray, List.set_cons_zero, List.set_cons_succ]
      clear HEL
      go_upto_region 34 with (fail)
      refine wp_region_U 199 [173, 174, 11] [0, 1, 2] (fun a0 HA0 => ?_)
      have oe5 := ev HA0 5 rfl
      refine QSeq.pure rfl _ (fun E => ex_move rfl (E.v oe5)) ?_
      refine QSeq.go fun act E => ?_
      refine qc_callF (args := #[.pointer (some ⟨p, 0, none⟩)]) rfl (wanted_none rfl) rfl Try.func16 (args1 (E.d 0 0)) (Floor_Q (K1.out.mod Cx14.out (fun _ _ h => h))) ?_
      rintro e w2 ⟨rfl, hw2⟩
      obtain rfl : u11_5 = w2 := by first | exact hw2 | exact hw2.symm
      refine ⟨_, rfl, ?_⟩
      clear act E
      refine QSeq.pure rfl _ (fun E => ex_assign rfl (E.d 1 0)) ?_
      refine QSeq.nil (t' := [_, _, _]) rfl ?_
      obtain rfl := HA0.out
      clear HA0 oe5
      simp only [pz, Act.put, List.setIfInBounds_toArray, List.set_cons_zero, List.set_cons_succ]
      by_cases h6 : a.t + 1 = U64
      ·skip
       go_upto_region 35 with (fail)
       refine wp_region_U 199 [175, 176, 177, 178, 12] [0, 1, 2, 3, 4] (fun a0 HA0 => ?_)
       have oe5 := ev HA0 5 rfl
       have oe10 := ev HA0 10 rfl
       refine QSeq.pure rfl _ (fun E => ex_move rfl (E.v oe5)) ?_
       refine QSeq.pure rfl (.pointer (some ⟨wl.heap.size, 2, none⟩)) (fun E => ex_field rfl Try.underlying59 rfl (by kernel_rfl) (E.v oe10)) ?_
       refine QSeq.pure rfl _ (fun E => ex_load1 rfl Try.underlying45 rfl (E.d 1 0) (Cs.lit1 Hx13.out rfl)) ?_
       refine QSeq.call rfl rfl Try.func15 (Raise_N (n := a.t) (K1.out.mod Cx14.out (fun _ _ h => h)) (by intro k h1; omega) h6) (fun E => args2 (E.d 0 2) (E.d 2 0)) ?_
       rintro e u35_3 ⟨rfl, qsp, hm⟩
       refine ⟨_, rfl, ?_⟩
       have Hx19 := hid qsp
       have zu35_3 := hm.size
       have Cx20 := hid (show Mod (fun k => (New u2_0 u3_1 k)) u11_5 u35_3 from hm)
       clear hm
       clear qsp K1
       refine QSeq.pure rfl _ (fun E => ex_assign rfl (E.d 3 0)) ?_
       refine QSeq.nil (t' := [_, _, _, _, _]) rfl ?_
       obtain rfl := HA0.out
       clear HA0 oe5 oe10
       simp only [pz, Act.put, List.setIfInBounds_toArray, List.set_cons_zero, List.set_cons_succ]
       go_upto_region 36 with (fail)
       refine wp_region_U 199 [179, 180, 181, 182, 183, 184, 185, 186, 187, 188, 189, 190] [0, 1, 2, 3, 4, 5, 6, 7, 8, 9, 10, 11] (fun a0 HA0 => ?_)
       have oe5 := ev HA0 5 rfl
       have oe10 := ev HA0 10 rfl
       have oe11 := ev HA0 11 rfl
       have oe12 := ev HA0 12 rfl
       refine QSeq.pure rfl _ (fun E => ex_move rfl (E.v oe12)) ?_
       refine QSeq.pure rfl (.bool false) (fun E => ex_binE rfl (E.d 0 0) rfl (guard_ints _ _ _ _ _ _) (run_eql_i _ _ _ Try.underlying40) (congrArg Value.bool (show _ = false from rfl))) ?_
       refine QSeq.pure rfl (.pointer (some ⟨wl.heap.size, 2, none⟩)) (fun E => ex_field rfl Try.underlying59 rfl (by kernel_rfl) (E.v oe10)) ?_
       refine QSeq.pure rfl _ (fun E => ex_load1 rfl Try.underlying45 rfl (E.d 2 0) (Cs.lit1 (Hx13.out.mod Cx20.out (by intro h2; omega)) rfl)) ?_
       refine QSeq.pure rfl (.bool false) (fun E => ex_binE rfl (E.d 3 0) rfl (guard_ints _ _ _ _ _ _) (run_neq_i _ _ _ Try.underlying45) (congrArg Value.bool (ne_ff (by omega)))) ?_
       refine QSeq.pure rfl (.bool false) (fun E => ex_bin rfl (E.d 1 3) (E.d 4 0) (guard_bools _ _ _ _ _ _) (run_neq_bools _ _ _ Try.underlying4)) ?_
       refine QSeq.pure rfl _ (fun E => ex_move rfl (E.d 5 0)) ?_
       refine QSeq.pureG rfl (.pointer (some ⟨p, 0, none⟩)) (fun E => ((wanted_of rfl rfl (E.sz 185 (by decide)) (E.d 6 0)).trans rfl)) (fun E => ex_move rfl (E.v oe5)) ?_
       refine QSeq.go fun act E => ?_
       refine qc_callF (args := #[.pointer (some ⟨p, 0, none⟩)]) rfl ((wanted_of rfl rfl (E.sz 185 (by decide)) (E.d 6 1)).trans rfl) rfl Try.func16 (args1 (E.d 7 0)) (Floor_Q Hx19.out) ?_
       rintro e w2 ⟨rfl, hw2⟩
       obtain rfl : u35_3 = w2 := by first | exact hw2 | exact hw2.symm
       refine ⟨_, rfl, ?_⟩
       clear act E
       refine QSeq.pureG rfl (.int .u64 ((s.floor : Nat) : Int)) (fun E => ((wanted_of rfl rfl (E.sz 185 (by decide)) (E.d 6 2)).trans rfl)) (fun E => ex_move rfl (E.v oe11)) ?_
       refine QSeq.pureG rfl (.bool false) (fun E => ((wanted_of rfl rfl (E.sz 185 (by decide)) (E.d 6 3)).trans rfl)) (fun E => ex_binE rfl (E.d 8 1) (E.d 9 0) (guard_ints _ _ _ _ _ _) (run_lss_i _ _ _ Try.underlying45) (congrArg Value.bool (decide_eq_false (by omega)))) ?_
       refine QSeq.pure rfl (.bool false) (fun E => ex_pick rfl (E.d 6 4) rfl (E.d 10 0)) ?_
       refine QSeq.nil (t' := [_, _, _, _, _, _, _, _, _, _, _, _]) rfl ?_
       obtain rfl := HA0.out
       clear HA0 oe5 oe10 oe11 oe12
       simp only [pz, Act.put, List.setIfInBounds_toArray, List.set_cons_zero, List.set_cons_succ]
       clear Hx13
       go_upto_region 10 with (fail)
       refine wp_region_U 199 [45, 46, 9] [0, 1, 2] (fun a0 HA0 => ?_)
       have oe9 := ev HA0 9 rfl
       refine QSeq.pure rfl _ (fun E => ex_move rfl (E.y 2 oe9)) ?_
       refine QSeq.pure rfl (.int .i64 (((i + 1) : Nat) : Int)) (fun E => ex_binE rfl (E.d 0 0) rfl (guard_ints _ _ _ _ _ _) (run_add_i _ _ Try.underlying3) (congrArg (Value.int .i64) (i64_eq (b := (((i + 1) : Nat) : Int)) (by omega) (by omega) (by omega)))) ?_
       refine QSeq.pure rfl _ (fun E => ex_assign rfl (E.d 1 0)) ?_
       refine QSeq.nil (t' := [_, _, _]) rfl ?_
       obtain rfl := HA0.out
       clear HA0 oe9
       simp only [pz, Act.put, List.setIfInBounds_toArray, List.set_cons_zero, List.set_cons_succ]
       go_wp2
       go_roundw
       case rel => exact ⟨i + 1, s, L, rfl, rfl, by omega, by omega, by omega, Hx19.out, ((K2.out.mod Cx14.out (fun _ _ h => h)).mod Cx20.out (by intro k h1 h2; omega)), ((K3.out.mod Cx14.out (fun h => h)).mod Cx20.out (by intro h2; omega)), ((K4.out.mod Cx14.out (fun _ _ h => h)).mod Cx20.out (by intro k h1 h2; omega)), ((K5.out.trans Cx14.out (fun _ _ h => h.elim)).trans Cx20.out (by intro k h1 h2; omega))⟩
       case measure => simp [intOf]; omega
      ·skip
       go_upto_region 35 with (fail)
       refine wp_region_U 199 [175, 176, 177, 178, 12] [0, 1, 2, 3, 4] (fun a0 HA0 => ?_)
       have oe5 := ev HA0 5 rfl
       have oe10 := ev HA0 10 rfl
       refine QSeq.pure rfl _ (fun E => ex_move rfl (E.v oe5)) ?_
       refine QSeq.pure rfl (.pointer (some ⟨wl.heap.size, 2, none⟩)) (fun E => ex_field rfl Try.underlying59 rfl (by kernel_rfl) (E.v oe10)) ?_
       refine QSeq.pure rfl _ (fun E => ex_load1 rfl Try.underlying45 rfl (E.d 1 0) (Cs.lit1 Hx13.out rfl)) ?_
       refine QSeq.call rfl rfl Try.func15 (Raise_Q (n := a.t) (K1.out.mod Cx14.out (fun _ _ h => h)) (by intro k h1; omega) (by omega)) (fun E => args2 (E.d 0 2) (E.d 2 0)) ?_
       rintro e u35_3 ⟨rfl, qsp, hm⟩
       refine ⟨_, rfl, ?_⟩
       have Hx21 := hid qsp
       have zu35_3 := hm.size
       have Cx22 := hid (show Mod (fun k => (New u2_0 u3_1 k)) u11_5 u35_3 from hm)
       clear hm
       clear qsp K1
       refine QSeq.pure rfl _ (fun E => ex_assign rfl (E.d 3 0)) ?_
       refine QSeq.nil (t' := [_, _, _, _, _]) rfl ?_
       obtain rfl := HA0.out
       clear HA0 oe5 oe10
       simp only [pz, Act.put, List.setIfInBounds_toArray, List.set_cons_zero, List.set_cons_succ]
       obtain ⟨fl, hfl⟩ : ∃ x, x = max s.floor a.t := ⟨_, rfl⟩
       go_upto_region 36 with (fail)
       refine wp_region_U 199 [179, 180, 181, 182, 183, 184, 185, 186, 187, 188, 189, 190] [0, 1, 2, 3, 4, 5, 6, 7, 8, 9, 10, 11] (fun a0 HA0 => ?_)
       have oe5 := ev HA0 5 rfl
       have oe10 := ev HA0 10 rfl
       have oe11 := ev HA0 11 rfl
       have oe12 := ev HA0 12 rfl
       refine QSeq.pure rfl _ (fun E => ex_move rfl (E.v oe12)) ?_
       refine QSeq.pure rfl (.bool true) (fun E => ex_binE rfl (E.d 0 0) rfl (guard_ints _ _ _ _ _ _) (run_eql_i _ _ _ Try.underlying40) (congrArg Value.bool (show _ = true from rfl))) ?_
       refine QSeq.pure rfl (.pointer (some ⟨wl.heap.size, 2, none⟩)) (fun E => ex_field rfl Try.underlying59 rfl (by kernel_rfl) (E.v oe10)) ?_
       refine QSeq.pure rfl _ (fun E => ex_load1 rfl Try.underlying45 rfl (E.d 2 0) (Cs.lit1 (Hx13.out.mod Cx22.out (by intro h2; omega)) rfl)) ?_
       refine QSeq.pure rfl (.bool true) (fun E => ex_binE rfl (E.d 3 0) rfl (guard_ints _ _ _ _ _ _) (run_neq_i _ _ _ Try.underlying45) (congrArg Value.bool (ne_tt (by omega)))) ?_
       refine QSeq.pure rfl (.bool false) (fun E => ex_bin rfl (E.d 1 3) (E.d 4 0) (guard_bools _ _ _ _ _ _) (run_neq_bools _ _ _ Try.underlying4)) ?_
       refine QSeq.pure rfl _ (fun E => ex_move rfl (E.d 5 0)) ?_
       refine QSeq.pureG rfl (.pointer (some ⟨p, 0, none⟩)) (fun E => ((wanted_of rfl rfl (E.sz 185 (by decide)) (E.d 6 0)).trans rfl)) (fun E => ex_move rfl (E.v oe5)) ?_
       refine QSeq.go fun act E => ?_
       refine qc_callF (args := #[.pointer (some ⟨p, 0, none⟩)]) rfl ((wanted_of rfl rfl (E.sz 185 (by decide)) (E.d 6 1)).trans rfl) rfl Try.func16 (args1 (E.d 7 0)) (Floor_Q Hx21.out) ?_
       rintro e w2 ⟨rfl, hw2⟩
       obtain rfl : u35_3 = w2 := by first | exact hw2 | exact hw2.symm
       refine ⟨_, rfl, ?_⟩
       clear act E
       refine QSeq.pureG rfl (.int .u64 ((s.floor : Nat) : Int)) (fun E => ((wanted_of rfl rfl (E.sz 185 (by decide)) (E.d 6 2)).trans rfl)) (fun E => ex_move rfl (E.v oe11)) ?_
       refine QSeq.pureG rfl (.bool false) (fun E => ((wanted_of rfl rfl (E.sz 185 (by decide)) (E.d 6 3)).trans rfl)) (fun E => ex_binE rfl (E.d 8 1) (E.d 9 0) (guard_ints _ _ _ _ _ _) (run_lss_i _ _ _ Try.underlying45) (congrArg Value.bool (decide_eq_false (show ¬ ((max s.floor a.t : Nat) : Int) < ((s.floor : Nat) : Int) by omega)))) ?_
       refine QSeq.pure rfl (.bool false) (fun E => ex_pick rfl (E.d 6 4) rfl (E.d 10 0)) ?_
       refine QSeq.nil (t' := [_, _, _, _, _, _, _, _, _, _, _, _]) rfl ?_
       obtain rfl := HA0.out
       clear HA0 oe5 oe10 oe11 oe12
       simp only [pz, Act.put, List.setIfInBounds_toArray, List.set_cons_zero, List.set_cons_succ]
       clear Hx13
       go_upto_region 10 with (fail)
       refine wp_region_U 199 [45, 46, 9] [0, 1, 2] (fun a0 HA0 => ?_)
       have oe9 := ev HA0 9 rfl
       refine QSeq.pure rfl _ (fun E => ex_move rfl (E.y 2 oe9)) ?_
       refine QSeq.pure rfl (.int .i64 (((i + 1) : Nat) : Int)) (fun E => ex_binE rfl (E.d 0 0) rfl (guard_ints _ _ _ _ _ _) (run_add_i _ _ Try.underlying3) (congrArg (Value.int .i64) (i64_eq (b := (((i + 1) : Nat) : Int)) (by omega) (by omega) (by omega)))) ?_
       refine QSeq.pure rfl _ (fun E => ex_assign rfl (E.d 1 0)) ?_
       refine QSeq.nil (t' := [_, _, _]) rfl ?_
       obtain rfl := HA0.out
       clear HA0 oe9
       simp only [pz, Act.put, List.setIfInBounds_toArray, List.set_cons_zero, List.set_cons_succ]
       go_wp2
       go_roundw
       case rel => exact ⟨i + 1, raiseS s a.t, L, rfl, rfl, by omega, by omega, by omega, Hx21.out, ((K2.out.mod Cx14.out (fun _ _ h => h)).mod Cx22.out (by intro k h1 h2; omega)), ((K3.out.mod Cx14.out (fun h => h)).mod Cx22.out (by intro h2; omega)), ((K4.out.mod Cx14.out (fun _ _ h => h)).mod Cx22.out (by intro k h1 h2; omega)), ((K5.out.trans Cx14.out (fun _ _ h => h.elim)).trans Cx22.out (by intro k h1 h2; omega))⟩
       case measure => simp [intOf]; omega
     ·skip
      go_upto_region 33 with (fail)
      refine wp_region_U 199 [172, 171] [0, 1] (fun a0 HA0 => ?_)
      have oe53 := ev HA0 53 rfl
      refine QSeq.pure rfl (.bool false) (fun E => ex_binE rfl (E.v oe53) rfl (guard_ints _ _ _ _ _ _) (run_eql_i _ _ _ Try.underlying3) (congrArg Value.bool (eq_ff (by omega)))) ?_
      refine QSeq.pure rfl _ (fun E => ex_assign rfl (E.d 0 0)) ?_
      refine QSeq.nil (t' := [_, _]) rfl ?_
      obtain rfl := HA0.out
      clear HA0 oe53
      simp only [pz, Act.put, List.setIfInBounds_toArray, List.set_cons_zero, List.set_cons_succ]
      obtain ⟨kc, hkc⟩ : ∃ m : Nat, within a.cl 3 = m := ⟨(within a.cl 3).toNat, by have := within_range a.cl 3 (by decide); omega⟩
      have rkc := within_range a.cl 3 (by decide)
      have HWkc := hid (Within_any a.cl 3 (by decide) (by decide) HOK.out.2.2.2.1)
      rw [hkc] at HWkc rkc
      clear hkc
      obtain ⟨ks, hks⟩ : ∃ m : Nat, within a.sq 4 = m := ⟨(within a.sq 4).toNat, by have := within_range a.sq 4 (by decide); omega⟩
      have rks := within_range a.sq 4 (by decide)
      have HWks := hid (Within_any a.sq 4 (by decide) (by decide) HOK.out.2.2.2.2)
      rw [hks] at HWks rks
      clear hks
      obtain ⟨k1, hk1⟩ : ∃ x, x = 1 + ks := ⟨_, rfl⟩
      have HNK := hid (show NmK (((kc : Nat) : Int), ((k1 : Nat) : Int)) from ⟨by unfold I64; (try dsimp only); omega, by unfold I64; (try dsimp only); omega⟩)
      go_upto_region 13 with (fail)
      generalize ha0 : Act.mk _ _ = a0
      have oe10 : a0.eval (.tmp 10) = .pointer (some ⟨wl.heap.size, 0, none⟩) := by rw [← ha0]; rfl
      have hsz0 : a0.tmps.size = 199 := by rw [← ha0]; rfl
      have HA0 := hid ha0
      clear ha0
      refine wp_region_Q 199 hsz0 (by kernel_rfl) (by kernel_rfl) [54, 55, 56, 57, 58, 59, 60, 61, 62, 63, 13, 210] (by kernel_rfl) (by decide) (fun _ => False) (fun _ _ => False) (fun _ _ h => h) [qi (.pointer (some ⟨wl.heap.size, 3, none⟩)), qi (.pointer (some ⟨wl.heap.size, 3, none⟩)), qi (.int .i64 a.cl), qi (.int .i64 ((kc : Nat) : Int)), qi (.pointer (some ⟨wl.heap.size, 3, none⟩)), qi (.pointer (some ⟨wl.heap.size, 4, none⟩)), qi (.int .i64 a.sq), qi (.int .i64 ((ks : Nat) : Int)), qi (.int .i64 ((k1 : Nat) : Int)), qi (.agg #[.int .i64 ((kc : Nat) : Int), .int .i64 ((k1 : Nat) : Int)]), qa, qa] ⟨qi_stable, qi_stable, qi_stable, qi_stable, qi_stable, qi_stable, qi_stable, qi_stable, qi_stable, qi_stable, qa_stable, qa_stable, trivial⟩ [] (by kernel_rfl) (by decide) (by kernel_rfl) [⟨10, 11, 30, [.int .i64 0, .int .i64 0], 0, (fun t => [.int .i64 ((kc : Nat) : Int), .int .i64 ((k1 : Nat) : Int)])⟩] (by kernel_rfl) (by intro r hr; simp only [List.mem_cons, List.not_mem_nil, or_false] at hr; rcases hr with rfl <;> exact ⟨by kernel_rfl, by kernel_rfl⟩) (by intro r hr; simp only [List.mem_cons, List.not_mem_nil, or_false] at hr; rcases hr with rfl <;> exact ⟨of_decide_eq_true (by kernel_rfl), of_decide_eq_true (by kernel_rfl)⟩) (by intro r hr; simp only [List.mem_cons, List.not_mem_nil, or_false] at hr; rcases hr with rfl <;> exact fun _ _ _ _ => ⟨trivial, trivial⟩) ⟨?_, ?_, ?_, ?_, ?_, ?_, ?_, ?_, ?_, ?_, ?_, ?_, trivial⟩ ?_
      ·exact stq (fun E => ex_field rfl Try.underlying59 rfl (by kernel_rfl) (E.v oe10))
      ·exact stq (fun E => ex_field rfl Try.underlying30 rfl (by kernel_rfl) (E.d 0))
      ·exact stq (fun E => ex_load1 rfl Try.underlying3 rfl (E.d 1) (Cs.lit1 (Hx13.out.mod E.m.old (by intro h2; omega)) rfl))
      ·refine stepq_env rfl rfl rfl fun _ _ _ _ _ _ _ _ _ hd _ _ => ?_
       have h2 := hd ⟨2, .data⟩ (by simp) rfl _ rfl
       refine qe_callF (args := #[.int .i64 a.cl, .int .i64 3]) rfl (wanted_none rfl) rfl Try.func8 (args2 h2 rfl) (HWkc.out _) ?_
       rintro e w2 ⟨rfl, rfl⟩
       exact ⟨_, rfl, QE.refl, rfl⟩
      ·exact stq (fun E => ex_field rfl Try.underlying59 rfl (by kernel_rfl) (E.v oe10))
      ·exact stq (fun E => ex_field rfl Try.underlying30 rfl (by kernel_rfl) (E.d 4))
      ·exact stq (fun E => ex_load1 rfl Try.underlying3 rfl (E.d 5) (Cs.lit1 (Hx13.out.mod E.m.old (by intro h2; omega)) rfl))
      ·refine stepq_env rfl rfl rfl fun _ _ _ _ _ _ _ _ _ hd _ _ => ?_
       have h6 := hd ⟨6, .data⟩ (by simp) rfl _ rfl
       refine qe_callF (args := #[.int .i64 a.sq, .int .i64 4]) rfl (wanted_none rfl) rfl Try.func8 (args2 h6 rfl) (HWks.out _) ?_
       rintro e w2 ⟨rfl, rfl⟩
       exact ⟨_, rfl, QE.refl, rfl⟩
      ·exact stq (fun E => ex_binE rfl rfl (E.d 7) (guard_ints _ _ _ _ _ _) (run_add_i _ _ Try.underlying3) (congrArg (Value.int .i64) (i64_eq (b := ((k1 : Nat) : Int)) (by omega) (by omega) (by omega))))
      ·refine stepq_env rfl rfl rfl fun _ _ act _ _ _ _ _ _ hd _ _ => ?_
       have h3 := hd ⟨3, .data⟩ (by simp) rfl _ rfl
       have h8 := hd ⟨8, .data⟩ (by simp) rfl _ rfl
       refine qe_run rfl (wanted_none rfl) (ex_build rfl (z := [.int .i64 0, .int .i64 0]) (places := [(0, 1), (1, 1)]) (by kernel_rfl) (parts := [(0, .int .i64 ((kc : Nat) : Int)), (1, .int .i64 ((k1 : Nat) : Int))]) (by simp only [List.map_toArray, List.map_cons, List.map_nil, show act.eval (.tmp 57) = _ from h3, show act.eval (.tmp 62) = _ from h8]; try rfl) (r := [.int .i64 ((kc : Nat) : Int), .int .i64 ((k1 : Nat) : Int)]) (by rfl)) QE.refl ?_
       rfl
      ·exact stepq_make rfl rfl ⟨rfl, rfl, by kernel_rfl, by kernel_rfl⟩
      ·refine stepq_write rfl rfl rfl ⟨rfl, 13, (.tmp 63), rfl, by decide, rfl, by kernel_rfl, fun Z tr act w' hm hout hsz hd hpre => ?_⟩
       have h9 := hd ⟨9, .data⟩ (by simp) rfl _ rfl
       exact ⟨Nat.zero_le _, (by rw [show act.eval ((.tmp 63)) = _ from h9]; rfl), rfl, (by intro u hu; simp only [List.mem_cons, List.not_mem_nil, or_false] at hu; rcases hu with rfl | rfl <;> rfl)⟩
      intro u13_0 hr
      have zu13_0 := hr.size
      have Cx23 := hid (hr.new (S := (fun _ => False)))
      clear hr
      refine QChain.nil fun vs hl hzz hrows hne => ?_
      obtain ⟨Z, hYZ, hZb, hV⟩ := hzz
      obtain ⟨b13, g10, hBb13, hYb13, hCb13⟩ := hrows _ (by simp only [List.mem_cons, List.not_mem_nil, or_false]; trivial)
      have f10 : gw vs 10 = _ := getv g10
      (try dsimp only at hBb13 hYb13); (try simp only [false_or] at hBb13 hYb13)
      have zqb13 := hCb13.lt
      have Hx24 := hid (show Cs u13_0 b13 #[.int .i64 ((kc : Nat) : Int), .int .i64 ((k1 : Nat) : Int)] 30 from hCb13)
      have f3 := fvi hV hl 3
      have f7 := fvi hV hl 7
      rw [show vs = [gw vs 0, gw vs 1, gw vs 2, gw vs 3, gw vs 4, gw vs 5, gw vs 6, gw vs 7, gw vs 8, gw vs 9, gw vs 10, gw vs 11] from (gw_eta hl).trans rfl]
      have ha0 := HA0.out
      subst ha0
      clear HA0 hV hYZ hZb hsz0 hrows hne oe10 hCb13 g10
      simp only [putAll, Act.put, List.setIfInBounds_toArray, List.set_cons_zero, List.set_cons_succ, List.set_nil, f10, f3, f7]
      clear hl f10 f3 f7
      go_upto_region 14 with (fail)
      generalize ha0 : Act.mk _ _ = a0
      have oe4 : a0.eval (.tmp 4) = .pointer (some ⟨g, 0, none⟩) := by rw [← ha0]; rfl
      have oe10 : a0.eval (.tmp 10) = .pointer (some ⟨wl.heap.size, 0, none⟩) := by rw [← ha0]; rfl
      have oe13 : a0.eval (.tmp 13) = .pointer (some ⟨b13, 0, none⟩) := by rw [← ha0]; rfl
      have hsz0 : a0.tmps.size = 199 := by rw [← ha0]; rfl
      have HA0 := hid ha0
      clear ha0
      refine wp_region_Q 199 hsz0 (by kernel_rfl) (by kernel_rfl) [64, 65, 66, 67, 68, 69, 70, 14, 207] (by kernel_rfl) (by decide) (fun k => (New u1_2 u2_0 k)) (fun k j => (k = 1 ∧ ((New u1_2 u2_0 j)))) (fun _ _ h => h.2) [qi (.pointer (some ⟨g, 0, none⟩)), qi (.agg #[.int .i64 ((kc : Nat) : Int), .int .i64 ((k1 : Nat) : Int)]), qi (hv z32), qi (.pointer (some ⟨wl.heap.size, 5, none⟩)), qi (.slice aa a.b.length cpa), qv 0, qw 1 (agN 37), qa, qa] ⟨qi_stable, qi_stable, qi_stable, qi_stable, qi_stable, qv_stable, qw_stable, qa_stable, qa_stable, trivial⟩ [5, 6] (by kernel_rfl) (by decide) (by kernel_rfl) [⟨7, 8, 36, [.int .i64 0, .int .i64 0, .int .u8 0, .int .u8 0, .int .u8 0, .int .u8 0, .int .u8 0, .int .u8 0, .int .u8 0, .int .u8 0, .int .u8 0, .int .u8 0, .int .u8 0, .int .u8 0, .int .u8 0, .int .u8 0, .int .u8 0, .int .u8 0, .int .u8 0, .int .u8 0, .int .u8 0, .int .u8 0, .int .u8 0, .int .u8 0, .int .u8 0, .int .u8 0, .int .u8 0, .int .u8 0, .int .u8 0, .int .u8 0, .int .u8 0, .int .u8 0, .int .u8 0, .int .u8 0, .int .i64 0, .int .i64 0, .int .i64 0], 2, (fun t => (t.getD 1 undef).cells.toList)⟩] (by kernel_rfl) (by intro r hr; simp only [List.mem_cons, List.not_mem_nil, or_false] at hr; rcases hr with rfl <;> exact ⟨by kernel_rfl, by kernel_rfl⟩) (by intro r hr; simp only [List.mem_cons, List.not_mem_nil, or_false] at hr; rcases hr with rfl <;> exact ⟨of_decide_eq_true (by kernel_rfl), of_decide_eq_true (by kernel_rfl)⟩) (by intro r hr; simp only [List.mem_cons, List.not_mem_nil, or_false] at hr; rcases hr with rfl <;> exact fun _ _ _ _ => ⟨trivial, trivial⟩) ⟨?_, ?_, ?_, ?_, ?_, ?_, ?_, ?_, ?_, trivial⟩ ?_
      ·exact stq (fun E => ex_move rfl (E.v oe4))
      ·exact stq (fun E => ex_loadA rfl Try.underlying30 rfl (off := 0) (cs := [.int .i64 ((kc : Nat) : Int), .int .i64 ((k1 : Nat) : Int)]) (by kernel_rfl) (E.v oe13) (Cs.litA (Hx24.out.mod E.m (by intro h2; omega)) rfl))
      ·exact stq (fun E => ex_build0 rfl (r := ((z32.map bv) : List Value).toArray) (by kernel_rfl))
      ·exact stq (fun E => ex_field rfl Try.underlying59 rfl (by kernel_rfl) (E.v oe10))
      ·exact stq (fun E => ex_load1 rfl Try.underlying38 rfl (E.d 3) (Cs.lit1 ((Hx13.out.mod Cx23.out (fun h => h)).mod E.m (by intro h2; omega)) rfl))
      ·exact stepq_chain rfl
      ·exact stepq_chain rfl
      ·exact stepq_make rfl rfl ⟨rfl, rfl, by kernel_rfl, by kernel_rfl⟩
      ·refine stepq_write rfl rfl rfl ⟨rfl, 14, (.tmp 70), rfl, by decide, rfl, by kernel_rfl, fun Z tr act w' hm hout hsz hd hpre => ?_⟩
       have h6 := hd ⟨6, .data⟩ (by simp) rfl _ rfl
       exact row_of h6
      intro u14_0 hr
      have zu14_0 := hr.size
      have Cx25 := hid (hr.new (S := (fun k => (New u1_2 u2_0 k))))
      have Hx26 := hid (((K2.out.mod Cx14.out (fun _ _ h => h)).mod Cx23.out (fun _ _ h => h)).mod hr (by intro k h1 h2; omega))
      clear K2
      clear hr
      refine QChain.go fun Z act E => ?_
      refine qc_callF (args := #[.slice aa a.b.length cpa, .int .i64 1]) rfl (wanted_none rfl) rfl Try.func20 (args2 (E.d 4) rfl) (Cut_R 1 (((HEL.out.mod Cx14.out (fun _ _ h => h)).mod Cx23.out (fun _ _ h => h)).mod Cx25.out (by intro k h1 h2; omega)) (by decide)) ?_
      rintro e u14_1a ⟨v_cut, rfl, qcut, hm⟩
      have zu14_1a := hm.size
      refine ⟨_, rfl, hm.mono (fun _ _ h => h.elim), (fun _ => rfl), ?_⟩
      intro u14_1 hr
      have zu14_1 := hr.size
      have Hx27 := hid ((qcut.widen (R' := (fun k => (New u14_0 u14_1a k))) (fun _ h => h) (Nat.le_refl _)).mod hr (by intro k h1 h2; omega))
      have hmr := Mod.after hm hr
      have Hx28 := hid (Hx26.out.mod hmr (by intro k h1 h2; omega))
      clear Hx26
      clear hmr
      have Cx29 := hid (Cx25.out.go hm hr)
      clear Cx25 hm hr Z act E qcut
      refine QChain.go fun Z act E => ?_
      refine qc_callF (args := #[.pointer (some ⟨g, 0, none⟩), .agg #[.int .i64 ((kc : Nat) : Int), .int .i64 ((k1 : Nat) : Int)], hv z32, v_cut]) rfl (wanted_none rfl) rfl Try.func10 (args4 (E.d 0) (E.d 1) (E.d 2) (chv (v := v_cut) (E.d 5))) (Make_B Hx28.out (by omega) 3 ((kc : Nat) : Int) ((k1 : Nat) : Int) (a.b.take 1) (by omega) (by decide) (by omega) Hx27.out.rd (by rw [List.length_take]; omega)) ?_
      rintro e u14_2a ⟨ca, La, rfl, qbk, hmd, hm⟩
      have HMDa := Lib.hid hmd
      clear hmd
      have zu14_2a := hm.size
      refine ⟨_, rfl, hm.mono (by intro k hk h; omega), (fun _ => ⟨rfl, ⟨ca.cells, rfl, Cm.len HMDa.out.ok.2.1, Cm.one ca⟩⟩), ?_⟩
      intro u14_2 hr
      have zu14_2 := hr.size
      have Hx30 := hid (qbk.mod hr (by intro k h1 h2; omega))
      have hmr := hm.two hr
      have Hx31 := hid (Hx27.out.mod hmr (by intro k h1 h2; omega))
      clear Hx27
      clear hmr
      have Cx32 := hid (Cx29.out.goM hm hr (fun _ _ h => h))
      clear Cx29 hm hr Z act E qbk Hx28
      refine QChain.nil fun vs hl hzz hrows hne => ?_
      obtain ⟨Z, hYZ, hZb, hV⟩ := hzz
      obtain ⟨b14, g7, hBb14, hYb14, hCb14⟩ := hrows _ (by simp only [List.mem_cons, List.not_mem_nil, or_false]; trivial)
      have f7 : gw vs 7 = _ := getv g7
      (try dsimp only at hBb14 hYb14); (try simp only [false_or] at hBb14 hYb14)
      have zqb14 := hCb14.lt
      have Hx33 := hid (show Cs u14_2 b14 (ca.cells : List Value).toArray 36 from hCb14)
      have f0 := fvi hV hl 0
      have f5 := fvc hV hl 5
      have f6 := fvw hV hl 6
      rw [show vs = [gw vs 0, gw vs 1, gw vs 2, gw vs 3, gw vs 4, gw vs 5, gw vs 6, gw vs 7, gw vs 8] from (gw_eta hl).trans rfl]
      have ha0 := HA0.out
      subst ha0
      clear HA0 hV hYZ hZb hsz0 hrows hne oe4 oe10 oe13 hCb14 g7
      simp only [putAll, Act.put, List.setIfInBounds_toArray, List.set_cons_zero, List.set_cons_succ, List.set_nil, f7, f0, f5, f6]
      clear hl f7 f0 f5 f6
      clear Hx31
      clear HEL
      clear Hx13
      have hLa := HMDa.out.ln
      cases hml : mlook s.m (((kc : Nat) : Int), ((k1 : Nat) : Int)) with
      | none =>
       have HML := Lib.hid hml
       clear hml
       obtain ⟨t, ht⟩ : ∃ t, t = max (max s.now (s.floor + 1)) (s.last + 1) := ⟨_, rfl⟩
       by_cases htl : t + 1 < U64
       ·skip
        go_upto_region 15 with (fail)
        refine wp_region_U 199 [72, 73, 74, 75, 71, 76, 77, 15, 207, 16] [0, 1, 2, 3, 4, 5, 6, 7, 8, 9] (fun a0 HA0 => ?_)
        have oe4 := ev HA0 4 rfl
        have oe5 := ev HA0 5 rfl
        have oe14 := ev HA0 14 rfl
        refine QSeq.pure rfl _ (fun E => ex_move rfl (E.v oe5)) ?_
        refine QSeq.pure rfl _ (fun E => ex_move rfl (E.v oe4)) ?_
        refine QSeq.pure rfl _ (fun E => ex_loadA rfl Try.underlying36 rfl (off := 0) (cs := ca.cells) (by rw [Cm.len HMDa.out.ok.2.1]; exact size_commit) (E.v oe14) (Cs.whole Hx33.out)) ?_
        refine QSeq.call rfl rfl Try.func14 (Stamp_B (t := t) (((K1.out.mod Cx14.out (fun _ _ h => h)).mod Cx23.out (fun _ _ h => h)).mod Cx32.out (by intro k h1 h2; omega)) Hx30.out (by intro k h1; omega) (by intro k h1; omega) (by intro k h1 h2; omega) HMDa.out.ok HMDa.out.si HMDa.out.rt (by rw [HMDa.out.cl, HMDa.out.sq]; exact HML.out) ht htl (by unfold I64; decide) (by omega)) (fun E => args3 (E.d 0 2) (E.d 1 1) (E.d 2 0)) ?_
        rintro e u15_3 ⟨ya, Ma, rfl, qsp, qbk, hst, hm⟩
        have HYFa := Lib.hid hst
        clear hst
        refine ⟨_, rfl, ?_⟩
        have Hx34 := hid qsp
        have Hx35 := hid qbk
        have zu15_3 := hm.size
        have Cx36 := hid (show Mod (fun k => (New u2_0 u3_1 k) ∨ (New u1_2 u2_0 k)) u14_2 u15_3 from hm)
        clear hm
        clear qsp qbk K1 Hx30
        refine QSeq.pure rfl _ (fun E => ex_move rfl (E.d 3 0)) ?_
        refine QSeq.pure rfl (.agg ya.cells.toArray) (fun E => ex_extract rfl (E.d 4 0) rfl) ?_
        refine QSeq.pure rfl (.int .i64 0) (fun E => ex_extract rfl (E.d 4 1) rfl) ?_
        refine QSeq.go fun act E => ?_
        refine qc_alloc rfl (wanted_none rfl) rfl (z := [.int .i64 0, .int .i64 0, .int .i64 0, .int .u8 0, .int .u8 0, .int .u8 0, .int .u8 0, .int .u8 0, .int .u8 0, .int .u8 0, .int .u8 0, .int .u8 0, .int .u8 0, .int .u8 0, .int .u8 0, .int .u8 0, .int .u8 0, .int .u8 0, .int .u8 0, .int .u8 0, .int .u8 0, .int .u8 0, .int .u8 0, .int .u8 0, .int .u8 0, .int .u8 0, .int .u8 0, .int .u8 0, .int .u8 0, .int .u8 0, .int .u8 0, .int .u8 0, .int .u8 0, .int .u8 0, .int .u8 0, .int .u64 0, .int .i64 0, .int .i64 0]) (by kernel_rfl) ?_
        intro u15_7 qb15 hm
        have zl15_7 := qb15.lt
        have Hx37 := hid qb15
        have zu15_7 := hm.size
        have HMu15_7 := hid hm
        have Cx38 := hid (Cx36.out.goE hm)
        clear hm Cx36
        clear act E qb15
        refine QSeq.go fun act E => ?_
        have hlz : (ya.cells).length = List.length ([.int .i64 0, .int .i64 0, .int .i64 0, .int .u8 0, .int .u8 0, .int .u8 0, .int .u8 0, .int .u8 0, .int .u8 0, .int .u8 0, .int .u8 0, .int .u8 0, .int .u8 0, .int .u8 0, .int .u8 0, .int .u8 0, .int .u8 0, .int .u8 0, .int .u8 0, .int .u8 0, .int .u8 0, .int .u8 0, .int .u8 0, .int .u8 0, .int .u8 0, .int .u8 0, .int .u8 0, .int .u8 0, .int .u8 0, .int .u8 0, .int .u8 0, .int .u8 0, .int .u8 0, .int .u8 0, .int .u8 0, .int .u64 0, .int .i64 0, .int .i64 0] : List Value) := (by rw [St.len HYFa.out.ok]; rfl)
        refine qc_store rfl (wanted_none rfl) rfl Hx37.out (off := 0) (vs := ya.cells) (by rw [hlz]; kernel_rfl) (St.one ya) (by rw [hlz]; exact Nat.le_of_eq (Nat.zero_add _)) (E.d 7 0) (ec (E.d 5 2)) ?_
        intro u15_8 qc0 hm
        have qb15 := qc0.eqv (b := (ya.cells : List Value).toArray) (lay_whole (#[.int .i64 0, .int .i64 0, .int .i64 0, .int .u8 0, .int .u8 0, .int .u8 0, .int .u8 0, .int .u8 0, .int .u8 0, .int .u8 0, .int .u8 0, .int .u8 0, .int .u8 0, .int .u8 0, .int .u8 0, .int .u8 0, .int .u8 0, .int .u8 0, .int .u8 0, .int .u8 0, .int .u8 0, .int .u8 0, .int .u8 0, .int .u8 0, .int .u8 0, .int .u8 0, .int .u8 0, .int .u8 0, .int .u8 0, .int .u8 0, .int .u8 0, .int .u8 0, .int .u8 0, .int .u8 0, .int .u8 0, .int .u64 0, .int .i64 0, .int .i64 0]) _ (by rw [hlz]; rfl))
        clear qc0 hlz
        have Hx39 := hid qb15
        have zu15_8 := hm.size
        have HMu15_8 := hid hm
        have Cx40 := hid (Mod.goS (S' := (fun k => (New u2_0 u3_1 k) ∨ (New u1_2 u2_0 k))) Cx38.out hm (fun _ h => h) (by intro k h0 h2; omega))
        clear hm Cx38
        clear act E qb15 Hx37
        refine QSeq.pure rfl _ (fun E => ex_assign rfl (E.d 6 2)) ?_
        have Hx41 := hid ((Hx35.out.mod HMu15_7.out (fun _ _ h => h)).mod HMu15_8.out (by intro k h1 h2; omega))
        have Hx42 := hid ((Hx34.out.mod HMu15_7.out (fun _ _ h => h)).mod HMu15_8.out (by intro k h1 h2; omega))
        clear Hx35 Hx34 HMu15_7 HMu15_8
        refine QSeq.nil (t' := [_, _, _, _, _, _, _, _, _, _]) rfl ?_
        obtain rfl := HA0.out
        clear HA0 oe4 oe5 oe14
        simp only [pz, Act.put, List.setIfInBounds_toArray, List.set_cons_zero, List.set_cons_succ, List.set_nil]
        have htm := HYFa.out.tm
        have hLb := HYFa.out.ln
        have HYH := hid HYFa.out.hh
        go_upto_region 16 with (fail)
        refine wp_region_U 199 [79, 80, 81, 78, 82, 83, 17, 206, 18] [0, 1, 2, 3, 4, 5, 6, 7, 8] (fun a0 HA0 => ?_)
        have oe8 := ev HA0 8 rfl
        have oe13 := ev HA0 13 rfl
        refine QSeq.pure rfl _ (fun E => ex_move rfl (E.v oe8)) ?_
        refine QSeq.pure rfl _ (fun E => ex_loadA rfl Try.underlying30 rfl (off := 0) (cs := [.int .i64 ((kc : Nat) : Int), .int .i64 ((k1 : Nat) : Int)]) (by kernel_rfl) (E.v oe13) (Cs.litA ((Hx24.out.mod Cx32.out (by intro h2; omega)).mod Cx40.out (by intro h2; omega)) rfl)) ?_
        refine QSeq.pure rfl (.tuple #[zSt.val, .bool false]) (fun E => ex_lookI (k := (((kc : Nat) : Int), ((k1 : Nat) : Int))) rfl (E.d 0 1) (E.d 1 0) HNK.out ((((K3.out.mod Cx14.out (fun h => h)).mod Cx23.out (fun h => h)).mod Cx32.out (by intro h2; omega)).mod Cx40.out (by intro h2; omega)) (lookV_none HML.out)) ?_
        refine QSeq.pure rfl _ (fun E => ex_move rfl (E.d 2 0)) ?_
        refine QSeq.pure rfl (zSt.val) (fun E => ex_extract rfl (E.d 3 0) rfl) ?_
        refine QSeq.pure rfl (.bool false) (fun E => ex_extract rfl (E.d 3 1) rfl) ?_
        refine QSeq.go fun act E => ?_
        refine qc_alloc rfl (wanted_none rfl) rfl (z := [.int .i64 0, .int .i64 0, .int .i64 0, .int .u8 0, .int .u8 0, .int .u8 0, .int .u8 0, .int .u8 0, .int .u8 0, .int .u8 0, .int .u8 0, .int .u8 0, .int .u8 0, .int .u8 0, .int .u8 0, .int .u8 0, .int .u8 0, .int .u8 0, .int .u8 0, .int .u8 0, .int .u8 0, .int .u8 0, .int .u8 0, .int .u8 0, .int .u8 0, .int .u8 0, .int .u8 0, .int .u8 0, .int .u8 0, .int .u8 0, .int .u8 0, .int .u8 0, .int .u8 0, .int .u8 0, .int .u8 0, .int .u64 0, .int .i64 0, .int .i64 0]) (by kernel_rfl) ?_
        intro u16_6 qb17 hm
        have zl16_6 := qb17.lt
        have Hx43 := hid qb17
        have zu16_6 := hm.size
        have Cx44 := hid (show Mod (fun _ => False) u15_8 u16_6 from hm)
        clear hm
        clear act E qb17
        refine QSeq.go fun act E => ?_
        have hlz : (zSt.cells).length = List.length ([.int .i64 0, .int .i64 0, .int .i64 0, .int .u8 0, .int .u8 0, .int .u8 0, .int .u8 0, .int .u8 0, .int .u8 0, .int .u8 0, .int .u8 0, .int .u8 0, .int .u8 0, .int .u8 0, .int .u8 0, .int .u8 0, .int .u8 0, .int .u8 0, .int .u8 0, .int .u8 0, .int .u8 0, .int .u8 0, .int .u8 0, .int .u8 0, .int .u8 0, .int .u8 0, .int .u8 0, .int .u8 0, .int .u8 0, .int .u8 0, .int .u8 0, .int .u8 0, .int .u8 0, .int .u8 0, .int .u8 0, .int .u64 0, .int .i64 0, .int .i64 0] : List Value) := (by rw [St.len zSt_ok]; rfl)
        refine qc_store rfl (wanted_none rfl) rfl Hx43.out (off := 0) (vs := zSt.cells) (by rw [hlz]; kernel_rfl) (St.one zSt) (by rw [hlz]; exact Nat.le_of_eq (Nat.zero_add _)) (E.d 6 0) (ec (E.d 4 2)) ?_
        intro u16_7 qc0 hm
        have qb17 := qc0.eqv (b := (zSt.cells : List Value).toArray) (lay_whole (#[.int .i64 0, .int .i64 0, .int .i64 0, .int .u8 0, .int .u8 0, .int .u8 0, .int .u8 0, .int .u8 0, .int .u8 0, .int .u8 0, .int .u8 0, .int .u8 0, .int .u8 0, .int .u8 0, .int .u8 0, .int .u8 0, .int .u8 0, .int .u8 0, .int .u8 0, .int .u8 0, .int .u8 0, .int .u8 0, .int .u8 0, .int .u8 0, .int .u8 0, .int .u8 0, .int .u8 0, .int .u8 0, .int .u8 0, .int .u8 0, .int .u8 0, .int .u8 0, .int .u8 0, .int .u8 0, .int .u8 0, .int .u64 0, .int .i64 0, .int .i64 0]) _ (by rw [hlz]; rfl))
        clear qc0 hlz
        have Hx45 := hid qb17
        have zu16_7 := hm.size
        have HMu16_7 := hid hm
        have Cx46 := hid (Mod.goS (S' := (fun _ => False)) Cx44.out hm (fun _ h => h) (by intro k h0 h2; omega))
        clear hm Cx44
        clear act E qb17 Hx43
        refine QSeq.pure rfl _ (fun E => ex_assign rfl (E.d 5 2)) ?_
        clear HMu16_7
        refine QSeq.nil (t' := [_, _, _, _, _, _, _, _, _]) rfl ?_
        obtain rfl := HA0.out
        clear HA0 oe8 oe13
        simp only [pz, Act.put, List.setIfInBounds_toArray, List.set_cons_zero, List.set_cons_succ, List.set_nil]
        go_upto_region 17 with (fail)
        refine wp_region_U 199 [85, 86, 87, 88, 89, 90, 91, 92, 84] [0, 1, 2, 3, 4, 5, 6, 7, 8] (fun a0 HA0 => ?_)
        have oe18 := ev HA0 18 rfl
        refine QSeq.pure rfl _ (fun E => ex_move rfl (E.v oe18)) ?_
        refine QSeq.pure rfl _ (fun E => ex_move rfl (E.d 0 0)) ?_
        refine QSeq.skip rfl (fun E => ((wanted_of rfl rfl (E.sz 86 (by decide)) (E.d 1 0)).trans rfl)) ?_
        refine QSeq.skip rfl (fun E => ((wanted_of rfl rfl (E.sz 86 (by decide)) (E.d 1 1)).trans rfl)) ?_
        refine QSeq.skip rfl (fun E => ((wanted_of rfl rfl (E.sz 86 (by decide)) (E.d 1 2)).trans rfl)) ?_
        refine QSeq.skip rfl (fun E => ((wanted_of rfl rfl (E.sz 86 (by decide)) (E.d 1 3)).trans rfl)) ?_
        refine QSeq.skip rfl (fun E => ((wanted_of rfl rfl (E.sz 86 (by decide)) (E.d 1 4)).trans rfl)) ?_
        refine QSeq.pure rfl (.bool false) (fun E => ex_pick rfl (E.d 1 5) (E.d 6 0) rfl) ?_
        refine QSeq.pure rfl _ (fun E => ex_assign rfl (E.d 7 0)) ?_
        refine QSeq.nil (t' := [_, _, _, _, _, _, _, _, _]) rfl ?_
        obtain rfl := HA0.out
        clear HA0 oe18
        simp only [pz, Act.put, List.setIfInBounds_toArray, List.set_cons_zero, List.set_cons_succ]
        go_upto_region 20 with (fail)
        refine wp_region_U 199 [101, 100] [0, 1] (fun a0 HA0 => ?_)
        have oe18 := ev HA0 18 rfl
        refine QSeq.pure rfl _ (fun E => ex_move rfl (E.v oe18)) ?_
        refine QSeq.pure rfl _ (fun E => ex_assign rfl (E.d 0 0)) ?_
        refine QSeq.nil (t' := [_, _]) rfl ?_
        obtain rfl := HA0.out
        clear HA0 oe18
        simp only [pz, Act.put, List.setIfInBounds_toArray, List.set_cons_zero, List.set_cons_succ]
        go_upto_region 23 with (fail)
        refine wp_region_U 199 [105, 106, 104] [0, 1, 2] (fun a0 HA0 => ?_)
        have oe16 := ev HA0 16 rfl
        refine QSeq.pure rfl _ (fun E => ex_move rfl (E.v oe16)) ?_
        refine QSeq.pure rfl (.bool true) (fun E => ex_binE rfl (E.d 0 0) rfl (guard_ints _ _ _ _ _ _) (run_eql_i _ _ _ Try.underlying40) (congrArg Value.bool (show _ = true from rfl))) ?_
        refine QSeq.pure rfl _ (fun E => ex_assign rfl (E.d 1 0)) ?_
        refine QSeq.nil (t' := [_, _, _]) rfl ?_
        obtain rfl := HA0.out
        clear HA0 oe16
        simp only [pz, Act.put, List.setIfInBounds_toArray, List.set_cons_zero, List.set_cons_succ]
        have hq := (Hx42.out.mod Cx46.out (fun _ _ h => h))
        rw [show (⟨s.now, s.floor, t, s.m ++ [((ca.cl, ca.sq), ya)]⟩ : SS) = ⟨s.now, s.floor, t, s.m ++ [((((kc : Nat) : Int), ((k1 : Nat) : Int)), ya)]⟩ from by rw [HMDa.out.cl, HMDa.out.sq]] at hq
        have HSPn := Lib.hid hq
        clear hq
        clear Hx42
        go_upto_region 24 with (fail)
        generalize ha0 : Act.mk _ _ = a0
        have oe5 : a0.eval (.tmp 5) = .pointer (some ⟨p, 0, none⟩) := by rw [← ha0]; rfl
        have oe7 : a0.eval (.tmp 7) = .int .u64 ((s.last : Nat) : Int) := by rw [← ha0]; rfl
        have oe14 : a0.eval (.tmp 14) = .pointer (some ⟨b14, 0, none⟩) := by rw [← ha0]; rfl
        have oe15 : a0.eval (.tmp 15) = .pointer (some ⟨u15_3.heap.size, 0, none⟩) := by rw [← ha0]; rfl
        have hsz0 : a0.tmps.size = 199 := by rw [← ha0]; rfl
        have HA0 := hid ha0
        clear ha0
        refine wp_region_Q0 199 hsz0 [107, 108, 109, 110, 111, 112, 113, 114, 115, 116, 117, 118, 119, 120, 121, 122, 123, 124, 125, 126, 127, 128, 129, 130, 131, 132, 133, 134, 135, 136, 137, 138, 139, 140, 141] [qi (.pointer (some ⟨u15_3.heap.size, 35, none⟩)), qi (.int .u64 (ya.tm : Nat)), qi (.int .u64 ((s.last : Nat) : Int)), qi (.bool false), qi (.bool false), qi (.pointer (some ⟨u15_3.heap.size, 35, none⟩)), qi (.int .u64 (ya.tm : Nat)), qi (.pointer (some ⟨p, 0, none⟩)), qi (.int .u64 ((s.floor : Nat) : Int)), qi (.bool false), qi (.bool false), qi (.bool false), qi (.pointer (some ⟨u15_3.heap.size, 35, none⟩)), qi (.int .u64 (ya.tm : Nat)), qi (.pointer (some ⟨p, 0, none⟩)), qi (.int .u64 ((s.now : Nat) : Int)), qi (.bool false), qi (.bool false), qi (.bool false), qi (.pointer (some ⟨u15_3.heap.size, 35, none⟩)), qi (.int .u64 (ya.tm : Nat)), qi (.bool false), qi (.bool false), qi (.bool false), qi (.pointer (some ⟨u15_3.heap.size, 3, none⟩)), qi (hv ya.h), qi (.pointer (some ⟨b14, 2, none⟩)), qi (hv ca.h), qi (.bool false), qi (.bool false), qi (.bool false), qi (.pointer (some ⟨u15_3.heap.size, 0, none⟩)), qi (.int .i64 ya.rp), qi (.bool false), qi (.bool false)] ⟨qi_stable, qi_stable, qi_stable, qi_stable, qi_stable, qi_stable, qi_stable, qi_stable, qi_stable, qi_stable, qi_stable, qi_stable, qi_stable, qi_stable, qi_stable, qi_stable, qi_stable, qi_stable, qi_stable, qi_stable, qi_stable, qi_stable, qi_stable, qi_stable, qi_stable, qi_stable, qi_stable, qi_stable, qi_stable, qi_stable, qi_stable, qi_stable, qi_stable, qi_stable, qi_stable, trivial⟩ [] ⟨?_, ?_, ?_, ?_, ?_, ?_, ?_, ?_, ?_, ?_, ?_, ?_, ?_, ?_, ?_, ?_, ?_, ?_, ?_, ?_, ?_, ?_, ?_, ?_, ?_, ?_, ?_, ?_, ?_, ?_, ?_, ?_, ?_, ?_, ?_, trivial⟩ ?_
        ·exact stq (fun E => ex_field rfl Try.underlying47 rfl (by kernel_rfl) (E.v oe15))
        ·exact stq (fun E => ex_load1 rfl Try.underlying45 rfl (E.d 0) (Cs.post1 (m := 32) (k := 0) ((Hx39.out.mod Cx46.out (fun h => h)).mod E.m.old (by intro h2; omega)) (by rw [List.length_map]; exact HYFa.out.ok.h.1) rfl rfl))
        ·exact stq (fun E => ex_move rfl (E.v oe7))
        ·exact stq (fun E => ex_binE rfl (E.d 1) (E.d 2) (guard_ints _ _ _ _ _ _) (run_leq_i _ _ _ Try.underlying45) (congrArg Value.bool (decide_eq_false (by omega))))
        ·exact stq (fun E => ex_move rfl (E.d 3))
        ·refine stepq_env rfl rfl rfl fun _ _ _ _ _ _ _ hout hsz hd _ _ => ?_
         have h4 := hd ⟨4, .guard⟩ (by simp) rfl _ rfl
         refine qe_run rfl ((wanted_of rfl rfl (hsz 111 (by decide)) h4).trans rfl) (ex_field rfl Try.underlying47 rfl (by kernel_rfl) ((hout 15 (by decide)).trans oe15)) QE.refl ?_
         rfl
        ·refine stepq_env rfl rfl rfl fun _ _ _ _ _ hm _ _ hsz hd _ _ => ?_
         have h4 := hd ⟨4, .guard⟩ (by simp) rfl _ rfl
         have h5 := hd ⟨5, .data⟩ (by simp) rfl _ rfl
         refine qe_run rfl ((wanted_of rfl rfl (hsz 111 (by decide)) h4).trans rfl) (ex_load1 rfl Try.underlying45 rfl h5 (Cs.post1 (m := 32) (k := 0) ((Hx39.out.mod Cx46.out (fun h => h)).mod hm.old (by intro h2; omega)) (by rw [List.length_map]; exact HYFa.out.ok.h.1) rfl rfl)) QE.refl ?_
         rfl
        ·refine stepq_env rfl rfl rfl fun _ _ _ _ _ _ _ hout hsz hd _ _ => ?_
         have h4 := hd ⟨4, .guard⟩ (by simp) rfl _ rfl
         refine qe_run rfl ((wanted_of rfl rfl (hsz 111 (by decide)) h4).trans rfl) (ex_move rfl ((hout 5 (by decide)).trans oe5)) QE.refl ?_
         rfl
        ·refine stepq_env rfl rfl rfl fun _ _ _ _ _ hm _ _ hsz hd _ _ => ?_
         have h4 := hd ⟨4, .chain⟩ (by simp) rfl _ rfl
         have h7 := hd ⟨7, .data⟩ (by simp) rfl _ rfl
         refine qe_callF (args := #[.pointer (some ⟨p, 0, none⟩)]) rfl ((wanted_of rfl rfl (hsz 111 (by decide)) h4).trans rfl) rfl Try.func16 (args1 h7) (Floor_Q (HSPn.out.mod hm.old (by intro k h1 h2; omega))) ?_
         rintro e w2 ⟨rfl, rfl⟩
         exact ⟨_, rfl, QE.refl, rfl⟩
        ·refine stepq_env rfl rfl rfl fun _ _ _ _ _ _ _ _ hsz hd _ _ => ?_
         have h4 := hd ⟨4, .guard⟩ (by simp) rfl _ rfl
         have h6 := hd ⟨6, .data⟩ (by simp) rfl _ rfl
         have h8 := hd ⟨8, .data⟩ (by simp) rfl _ rfl
         refine qe_run rfl ((wanted_of rfl rfl (hsz 111 (by decide)) h4).trans rfl) (ex_binE rfl h6 h8 (guard_ints _ _ _ _ _ _) (run_leq_i _ _ _ Try.underlying45) (congrArg Value.bool (decide_eq_false (by omega)))) QE.refl ?_
         rfl
        ·exact stq (fun E => ex_pick rfl (E.d 4) rfl (E.d 9))
        ·exact stq (fun E => ex_move rfl (E.d 10))
        ·refine stepq_env rfl rfl rfl fun _ _ _ _ _ _ _ hout hsz hd _ _ => ?_
         have h11 := hd ⟨11, .guard⟩ (by simp) rfl _ rfl
         refine qe_run rfl ((wanted_of rfl rfl (hsz 118 (by decide)) h11).trans rfl) (ex_field rfl Try.underlying47 rfl (by kernel_rfl) ((hout 15 (by decide)).trans oe15)) QE.refl ?_
         rfl
        ·refine stepq_env rfl rfl rfl fun _ _ _ _ _ hm _ _ hsz hd _ _ => ?_
         have h11 := hd ⟨11, .guard⟩ (by simp) rfl _ rfl
         have h12 := hd ⟨12, .data⟩ (by simp) rfl _ rfl
         refine qe_run rfl ((wanted_of rfl rfl (hsz 118 (by decide)) h11).trans rfl) (ex_load1 rfl Try.underlying45 rfl h12 (Cs.post1 (m := 32) (k := 0) ((Hx39.out.mod Cx46.out (fun h => h)).mod hm.old (by intro h2; omega)) (by rw [List.length_map]; exact HYFa.out.ok.h.1) rfl rfl)) QE.refl ?_
         rfl
        ·refine stepq_env rfl rfl rfl fun _ _ _ _ _ _ _ hout hsz hd _ _ => ?_
         have h11 := hd ⟨11, .guard⟩ (by simp) rfl _ rfl
         refine qe_run rfl ((wanted_of rfl rfl (hsz 118 (by decide)) h11).trans rfl) (ex_move rfl ((hout 5 (by decide)).trans oe5)) QE.refl ?_
         rfl
        ·refine stepq_env rfl rfl rfl fun _ _ _ _ _ hm _ _ hsz hd _ _ => ?_
         have h11 := hd ⟨11, .chain⟩ (by simp) rfl _ rfl
         have h14 := hd ⟨14, .data⟩ (by simp) rfl _ rfl
         refine qe_callF (args := #[.pointer (some ⟨p, 0, none⟩)]) rfl ((wanted_of rfl rfl (hsz 118 (by decide)) h11).trans rfl) rfl Try.func19 (args1 h14) (Now_Q (HSPn.out.mod hm.old (by intro k h1 h2; omega))) ?_
         rintro e w2 ⟨rfl, rfl⟩
         exact ⟨_, rfl, QE.refl, rfl⟩
        ·refine stepq_env rfl rfl rfl fun _ _ _ _ _ _ _ _ hsz hd _ _ => ?_
         have h11 := hd ⟨11, .guard⟩ (by simp) rfl _ rfl
         have h13 := hd ⟨13, .data⟩ (by simp) rfl _ rfl
         have h15 := hd ⟨15, .data⟩ (by simp) rfl _ rfl
         refine qe_run rfl ((wanted_of rfl rfl (hsz 118 (by decide)) h11).trans rfl) (ex_binE rfl h13 h15 (guard_ints _ _ _ _ _ _) (run_lss_i _ _ _ Try.underlying45) (congrArg Value.bool (decide_eq_false (by omega)))) QE.refl ?_
         rfl
        ·exact stq (fun E => ex_pick rfl (E.d 11) rfl (E.d 16))
        ·exact stq (fun E => ex_move rfl (E.d 17))
        ·refine stepq_env rfl rfl rfl fun _ _ _ _ _ _ _ hout hsz hd _ _ => ?_
         have h18 := hd ⟨18, .guard⟩ (by simp) rfl _ rfl
         refine qe_run rfl ((wanted_of rfl rfl (hsz 125 (by decide)) h18).trans rfl) (ex_field rfl Try.underlying47 rfl (by kernel_rfl) ((hout 15 (by decide)).trans oe15)) QE.refl ?_
         rfl
        ·refine stepq_env rfl rfl rfl fun _ _ _ _ _ hm _ _ hsz hd _ _ => ?_
         have h18 := hd ⟨18, .guard⟩ (by simp) rfl _ rfl
         have h19 := hd ⟨19, .data⟩ (by simp) rfl _ rfl
         refine qe_run rfl ((wanted_of rfl rfl (hsz 125 (by decide)) h18).trans rfl) (ex_load1 rfl Try.underlying45 rfl h19 (Cs.post1 (m := 32) (k := 0) ((Hx39.out.mod Cx46.out (fun h => h)).mod hm.old (by intro h2; omega)) (by rw [List.length_map]; exact HYFa.out.ok.h.1) rfl rfl)) QE.refl ?_
         rfl
        ·refine stepq_env rfl rfl rfl fun _ _ _ _ _ _ _ _ hsz hd _ _ => ?_
         have h18 := hd ⟨18, .guard⟩ (by simp) rfl _ rfl
         have h20 := hd ⟨20, .data⟩ (by simp) rfl _ rfl
         refine qe_run rfl ((wanted_of rfl rfl (hsz 125 (by decide)) h18).trans rfl) (ex_binE rfl h20 rfl (guard_ints _ _ _ _ _ _) (run_eql_i _ _ _ Try.underlying45) (congrArg Value.bool (eq_ff (by omega)))) QE.refl ?_
         rfl
        ·exact stq (fun E => ex_pick rfl (E.d 18) rfl (E.d 21))
        ·exact stq (fun E => ex_move rfl (E.d 22))
        ·refine stepq_env rfl rfl rfl fun _ _ _ _ _ _ _ hout hsz hd _ _ => ?_
         have h23 := hd ⟨23, .guard⟩ (by simp) rfl _ rfl
         refine qe_run rfl ((wanted_of rfl rfl (hsz 130 (by decide)) h23).trans rfl) (ex_field rfl Try.underlying47 rfl (by kernel_rfl) ((hout 15 (by decide)).trans oe15)) QE.refl ?_
         rfl
        ·refine stepq_env rfl rfl rfl fun _ _ _ _ _ hm _ _ hsz hd _ _ => ?_
         have h23 := hd ⟨23, .guard⟩ (by simp) rfl _ rfl
         have h24 := hd ⟨24, .data⟩ (by simp) rfl _ rfl
         refine qe_run rfl ((wanted_of rfl rfl (hsz 130 (by decide)) h23).trans rfl) (ex_loadA rfl Try.underlying32 rfl (off := 3) (cs := ya.h.map bv) (by rw [List.length_map, HYFa.out.ok.h.1]; exact size_hash) h24 (Cs.midA ((Hx39.out.mod Cx46.out (fun h => h)).mod hm.old (by intro h2; omega)) rfl)) QE.refl ?_
         rfl
        ·refine stepq_env rfl rfl rfl fun _ _ _ _ _ _ _ hout hsz hd _ _ => ?_
         have h23 := hd ⟨23, .guard⟩ (by simp) rfl _ rfl
         refine qe_run rfl ((wanted_of rfl rfl (hsz 130 (by decide)) h23).trans rfl) (ex_field rfl Try.underlying36 rfl (by kernel_rfl) ((hout 14 (by decide)).trans oe14)) QE.refl ?_
         rfl
        ·refine stepq_env rfl rfl rfl fun _ _ _ _ _ hm _ _ hsz hd _ _ => ?_
         have h23 := hd ⟨23, .guard⟩ (by simp) rfl _ rfl
         have h26 := hd ⟨26, .data⟩ (by simp) rfl _ rfl
         refine qe_run rfl ((wanted_of rfl rfl (hsz 130 (by decide)) h23).trans rfl) (ex_loadA rfl Try.underlying32 rfl (off := 2) (cs := ca.h.map bv) (by rw [List.length_map, HMDa.out.ok.2.1]; exact size_hash) h26 ((((Hx33.out.mod Cx40.out (by intro h2; omega)).mod Cx46.out (fun h => h)).mod hm.old (by intro h2; omega)).hash)) QE.refl ?_
         rfl
        ·refine stepq_env rfl rfl rfl fun _ _ _ _ _ _ _ _ hsz hd _ _ => ?_
         have h23 := hd ⟨23, .guard⟩ (by simp) rfl _ rfl
         have h25 := hd ⟨25, .data⟩ (by simp) rfl _ rfl
         have h27 := hd ⟨27, .data⟩ (by simp) rfl _ rfl
         refine qe_run rfl ((wanted_of rfl rfl (hsz 130 (by decide)) h23).trans rfl) (ex_binE rfl h25 h27 (agg_guardE _ _ _ _ _ _ (by kernel_rfl) _) (run_neq_hv HYFa.out.ok.h.1 HMDa.out.ok.2.1 (c := true) (by simp only [true_iff]; exact HYH.out) _) rfl) QE.refl ?_
         rfl
        ·exact stq (fun E => ex_pick rfl (E.d 23) rfl (E.d 28))
        ·exact stq (fun E => ex_move rfl (E.d 29))
        ·refine stepq_env rfl rfl rfl fun _ _ _ _ _ _ _ hout hsz hd _ _ => ?_
         have h30 := hd ⟨30, .guard⟩ (by simp) rfl _ rfl
         refine qe_run rfl ((wanted_of rfl rfl (hsz 137 (by decide)) h30).trans rfl) (ex_field rfl Try.underlying47 rfl (by kernel_rfl) ((hout 15 (by decide)).trans oe15)) QE.refl ?_
         rfl
        ·refine stepq_env rfl rfl rfl fun _ _ _ _ _ hm _ _ hsz hd _ _ => ?_
         have h30 := hd ⟨30, .guard⟩ (by simp) rfl _ rfl
         have h31 := hd ⟨31, .data⟩ (by simp) rfl _ rfl
         refine qe_run rfl ((wanted_of rfl rfl (hsz 137 (by decide)) h30).trans rfl) (ex_load1 rfl Try.underlying3 rfl h31 (Cs.pre1 ((Hx39.out.mod Cx46.out (fun h => h)).mod hm.old (by intro h2; omega)) rfl)) QE.refl ?_
         rfl
        ·refine stepq_env rfl rfl rfl fun _ _ _ _ _ _ _ _ hsz hd _ _ => ?_
         have h30 := hd ⟨30, .guard⟩ (by simp) rfl _ rfl
         have h32 := hd ⟨32, .data⟩ (by simp) rfl _ rfl
         refine qe_run rfl ((wanted_of rfl rfl (hsz 137 (by decide)) h30).trans rfl) (ex_binE rfl h32 rfl (guard_ints _ _ _ _ _ _) (run_neq_i _ _ _ Try.underlying3) (congrArg Value.bool (ne_ff HYFa.out.rp))) QE.refl ?_
         rfl
        ·exact stq (fun E => ex_pick rfl (E.d 30) rfl (E.d 33))
        intro u24_0 hr
        have zu24_0 := hr.size
        have Cx47 := hid (hr.new (S := (fun _ => False)))
        clear hr
        refine QChain.nil fun vs hl hzz hrows hne => ?_
        obtain ⟨Z, hYZ, hZb, hV⟩ := hzz
        have f2 := fvi hV hl 2
        have f4 := fvi hV hl 4
        have f7 := fvi hV hl 7
        have f8 := fvi hV hl 8
        have f11 := fvi hV hl 11
        have f14 := fvi hV hl 14
        have f15 := fvi hV hl 15
        have f18 := fvi hV hl 18
        have f23 := fvi hV hl 23
        have f30 := fvi hV hl 30
        have f34 := fvi hV hl 34
        rw [show vs = [gw vs 0, gw vs 1, gw vs 2, gw vs 3, gw vs 4, gw vs 5, gw vs 6, gw vs 7, gw vs 8, gw vs 9, gw vs 10, gw vs 11, gw vs 12, gw vs 13, gw vs 14, gw vs 15, gw vs 16, gw vs 17, gw vs 18, gw vs 19, gw vs 20, gw vs 21, gw vs 22, gw vs 23, gw vs 24, gw vs 25, gw vs 26, gw vs 27, gw vs 28, gw vs 29, gw vs 30, gw vs 31, gw vs 32, gw vs 33, gw vs 34] from (gw_eta hl).trans rfl]
        have ha0 := HA0.out
        subst ha0
        clear HA0 hV hYZ hZb hsz0 hrows hne oe5 oe7 oe14 oe15
        simp only [putAll, Act.put, List.setIfInBounds_toArray, List.set_cons_zero, List.set_cons_succ, f2, f4, f7, f8, f11, f14, f15, f18, f23, f30, f34]
        clear hl f2 f4 f7 f8 f11 f14 f15 f18 f23 f30 f34
        go_upto_region 26 with (fail)
        refine wp_region_U 199 [142, 143, 7] [0, 1, 2] (fun a0 HA0 => ?_)
        have oe15 := ev HA0 15 rfl
        refine QSeq.pure rfl (.pointer (some ⟨u15_3.heap.size, 35, none⟩)) (fun E => ex_field rfl Try.underlying47 rfl (by kernel_rfl) (E.v oe15)) ?_
        refine QSeq.pure rfl _ (fun E => ex_load1 rfl Try.underlying45 rfl (E.d 0 0) (Cs.post1 (m := 32) (k := 0) ((Hx39.out.mod Cx46.out (fun h => h)).mod Cx47.out (fun h => h)) (by rw [List.length_map]; exact HYFa.out.ok.h.1) rfl rfl)) ?_
        refine QSeq.pure rfl _ (fun E => ex_assign rfl (E.d 1 0)) ?_
        refine QSeq.nil (t' := [_, _, _]) rfl ?_
        obtain rfl := HA0.out
        clear HA0 oe15
        simp only [pz, Act.put, List.setIfInBounds_toArray, List.set_cons_zero, List.set_cons_succ]
        go_upto_region 27 with (fail)
        refine wp_region_U 199 [144, 145, 146, 202] [0, 1, 2, 3] (fun a0 HA0 => ?_)
        have oe8 := ev HA0 8 rfl
        have oe13 := ev HA0 13 rfl
        have oe15 := ev HA0 15 rfl
        refine QSeq.pure rfl _ (fun E => ex_move rfl (E.v oe8)) ?_
        refine QSeq.pure rfl _ (fun E => ex_loadA rfl Try.underlying30 rfl (off := 0) (cs := [.int .i64 ((kc : Nat) : Int), .int .i64 ((k1 : Nat) : Int)]) (by kernel_rfl) (E.v oe13) (Cs.litA ((((Hx24.out.mod Cx32.out (by intro h2; omega)).mod Cx40.out (by intro h2; omega)).mod Cx46.out (fun h => h)).mod Cx47.out (fun h => h)) rfl)) ?_
        refine QSeq.pure rfl _ (fun E => ex_loadA rfl Try.underlying47 rfl (off := 0) (cs := ya.cells) (by rw [St.len HYFa.out.ok]; exact size_stamp) (E.v oe15) (Cs.whole ((Hx39.out.mod Cx46.out (fun h => h)).mod Cx47.out (fun h => h)))) ?_
        refine QSeq.go fun act E => ?_
        refine qc_update (k := (((kc : Nat) : Int), ((k1 : Nat) : Int))) (y := ya) rfl (wanted_none rfl) rfl (E.d 0 2) (E.d 1 1) (E.d 2 0) HNK.out ((((((K3.out.mod Cx14.out (fun h => h)).mod Cx23.out (fun h => h)).mod Cx32.out (by intro h2; omega)).mod Cx40.out (by intro h2; omega)).mod Cx46.out (fun h => h)).mod Cx47.out (fun h => h)) HML.out ?_
        intro u27_3 qgm hm
        have Hx48 := hid qgm
        have zu27_3 := hm.size
        have Cx49 := hid (show Mod (fun k => (k = u3_1.heap.size)) u24_0 u27_3 from hm)
        clear hm
        clear act E qgm K3
        refine QSeq.nil (t' := [_, _, _, _]) rfl ?_
        obtain rfl := HA0.out
        clear HA0 oe8 oe13 oe15
        simp only [pz, Act.put, List.setIfInBounds_toArray, List.set_cons_zero, List.set_cons_succ, List.set_nil]
        clear Hx24
        clear Hx33
        clear Hx39
        clear Hx45
        go_upto_region 10 with (fail)
        refine wp_region_U 199 [45, 46, 9] [0, 1, 2] (fun a0 HA0 => ?_)
        have oe9 := ev HA0 9 rfl
        refine QSeq.pure rfl _ (fun E => ex_move rfl (E.y 2 oe9)) ?_
        refine QSeq.pure rfl (.int .i64 (((i + 1) : Nat) : Int)) (fun E => ex_binE rfl (E.d 0 0) rfl (guard_ints _ _ _ _ _ _) (run_add_i _ _ Try.underlying3) (congrArg (Value.int .i64) (i64_eq (b := (((i + 1) : Nat) : Int)) (by omega) (by omega) (by omega)))) ?_
        refine QSeq.pure rfl _ (fun E => ex_assign rfl (E.d 1 0)) ?_
        refine QSeq.nil (t' := [_, _, _]) rfl ?_
        obtain rfl := HA0.out
        clear HA0 oe9
        simp only [pz, Act.put, List.setIfInBounds_toArray, List.set_cons_zero, List.set_cons_succ]
        go_wp2
        go_roundw
        case rel => exact ⟨i + 1, ⟨s.now, s.floor, t, s.m ++ [((((kc : Nat) : Int), ((k1 : Nat) : Int)), ya)]⟩, Ma, (congrArg (fun z : Nat => Value.int .u64 (z : Int)) htm), rfl, by omega, by omega, by omega, ((HSPn.out.mod Cx47.out (fun _ _ h => h)).mod Cx49.out (by intro k h1 h2; omega)), (((Hx41.out.mod Cx46.out (fun _ _ h => h)).mod Cx47.out (fun _ _ h => h)).mod Cx49.out (by intro k h1 h2; omega)), Hx48.out, (((((((K4.out.mod Cx14.out (fun _ _ h => h)).mod Cx23.out (fun _ _ h => h)).mod Cx32.out (by intro k h1 h2; omega)).mod Cx40.out (by intro k h1 h2; omega)).mod Cx46.out (fun _ _ h => h)).mod Cx47.out (fun _ _ h => h)).mod Cx49.out (by intro k h1 h2; omega)), (((((((K5.out.trans Cx14.out (fun _ _ h => h.elim)).trans Cx23.out (fun _ _ h => h.elim)).trans Cx32.out (by intro k h1 h2; omega)).trans Cx40.out (by intro k h1 h2; omega)).trans Cx46.out (fun _ _ h => h.elim)).trans Cx47.out (fun _ _ h => h.elim)).trans Cx49.out (by intro k h1 h2; omega))⟩
        case measure => simp [intOf]; omega
       ·skip
        go_upto_region 15 with (fail)
        refine wp_region_U 199 [72, 73, 74, 75, 71, 76, 77, 15, 207, 16] [0, 1, 2, 3, 4, 5, 6, 7, 8, 9] (fun a0 HA0 => ?_)
        have oe4 := ev HA0 4 rfl
        have oe5 := ev HA0 5 rfl
        have oe14 := ev HA0 14 rfl
        refine QSeq.pure rfl _ (fun E => ex_move rfl (E.v oe5)) ?_
        refine QSeq.pure rfl _ (fun E => ex_move rfl (E.v oe4)) ?_
        refine QSeq.pure rfl _ (fun E => ex_loadA rfl Try.underlying36 rfl (off := 0) (cs := ca.cells) (by rw [Cm.len HMDa.out.ok.2.1]; exact size_commit) (E.v oe14) (Cs.whole Hx33.out)) ?_
        refine QSeq.call rfl rfl Try.func14 (Stamp_end (t := t) (((K1.out.mod Cx14.out (fun _ _ h => h)).mod Cx23.out (fun _ _ h => h)).mod Cx32.out (by intro k h1 h2; omega)) Hx30.out (by intro k h1; omega) (by intro k h1; omega) (by intro k h1 h2; omega) HMDa.out.ok HMDa.out.si HMDa.out.rt (by rw [HMDa.out.cl, HMDa.out.sq]; exact HML.out) ht htl) (fun E => args3 (E.d 0 2) (E.d 1 1) (E.d 2 0)) ?_
        rintro e u15_3 ⟨rfl, qsp, qbk, hm⟩
        refine ⟨_, rfl, ?_⟩
        have Hx50 := hid qsp
        have Hx51 := hid qbk
        have zu15_3 := hm.size
        have Cx52 := hid (show Mod (fun _ => False) u14_2 u15_3 from hm)
        clear hm
        clear qsp qbk K1 Hx30
        refine QSeq.pure rfl _ (fun E => ex_move rfl (E.d 3 0)) ?_
        refine QSeq.pure rfl (.agg zSt.cells.toArray) (fun E => ex_extract rfl (E.d 4 0) rfl) ?_
        refine QSeq.pure rfl (.int .i64 4) (fun E => ex_extract rfl (E.d 4 1) rfl) ?_
        refine QSeq.go fun act E => ?_
        refine qc_alloc rfl (wanted_none rfl) rfl (z := [.int .i64 0, .int .i64 0, .int .i64 0, .int .u8 0, .int .u8 0, .int .u8 0, .int .u8 0, .int .u8 0, .int .u8 0, .int .u8 0, .int .u8 0, .int .u8 0, .int .u8 0, .int .u8 0, .int .u8 0, .int .u8 0, .int .u8 0, .int .u8 0, .int .u8 0, .int .u8 0, .int .u8 0, .int .u8 0, .int .u8 0, .int .u8 0, .int .u8 0, .int .u8 0, .int .u8 0, .int .u8 0, .int .u8 0, .int .u8 0, .int .u8 0, .int .u8 0, .int .u8 0, .int .u8 0, .int .u8 0, .int .u64 0, .int .i64 0, .int .i64 0]) (by kernel_rfl) ?_
        intro u15_7 qb15 hm
        have zl15_7 := qb15.lt
        have Hx53 := hid qb15
        have zu15_7 := hm.size
        have HMu15_7 := hid hm
        have Cx54 := hid (Cx52.out.goE hm)
        clear hm Cx52
        clear act E qb15
        refine QSeq.go fun act E => ?_
        have hlz : (zSt.cells).length = List.length ([.int .i64 0, .int .i64 0, .int .i64 0, .int .u8 0, .int .u8 0, .int .u8 0, .int .u8 0, .int .u8 0, .int .u8 0, .int .u8 0, .int .u8 0, .int .u8 0, .int .u8 0, .int .u8 0, .int .u8 0, .int .u8 0, .int .u8 0, .int .u8 0, .int .u8 0, .int .u8 0, .int .u8 0, .int .u8 0, .int .u8 0, .int .u8 0, .int .u8 0, .int .u8 0, .int .u8 0, .int .u8 0, .int .u8 0, .int .u8 0, .int .u8 0, .int .u8 0, .int .u8 0, .int .u8 0, .int .u8 0, .int .u64 0, .int .i64 0, .int .i64 0] : List Value) := (by rw [St.len zSt_ok]; rfl)
        refine qc_store rfl (wanted_none rfl) rfl Hx53.out (off := 0) (vs := zSt.cells) (by rw [hlz]; kernel_rfl) (St.one zSt) (by rw [hlz]; exact Nat.le_of_eq (Nat.zero_add _)) (E.d 7 0) (ec (E.d 5 2)) ?_
        intro u15_8 qc0 hm
        have qb15 := qc0.eqv (b := (zSt.cells : List Value).toArray) (lay_whole (#[.int .i64 0, .int .i64 0, .int .i64 0, .int .u8 0, .int .u8 0, .int .u8 0, .int .u8 0, .int .u8 0, .int .u8 0, .int .u8 0, .int .u8 0, .int .u8 0, .int .u8 0, .int .u8 0, .int .u8 0, .int .u8 0, .int .u8 0, .int .u8 0, .int .u8 0, .int .u8 0, .int .u8 0, .int .u8 0, .int .u8 0, .int .u8 0, .int .u8 0, .int .u8 0, .int .u8 0, .int .u8 0, .int .u8 0, .int .u8 0, .int .u8 0, .int .u8 0, .int .u8 0, .int .u8 0, .int .u8 0, .int .u64 0, .int .i64 0, .int .i64 0]) _ (by rw [hlz]; rfl))
        clear qc0 hlz
        have Hx55 := hid qb15
        have zu15_8 := hm.size
        have HMu15_8 := hid hm
        have Cx56 := hid (Mod.goS (S' := (fun _ => False)) Cx54.out hm (fun _ h => h) (by intro k h0 h2; omega))
        clear hm Cx54
        clear act E qb15 Hx53
        refine QSeq.pure rfl _ (fun E => ex_assign rfl (E.d 6 2)) ?_
        have Hx57 := hid ((Hx51.out.mod HMu15_7.out (fun _ _ h => h)).mod HMu15_8.out (by intro k h1 h2; omega))
        have Hx58 := hid ((Hx50.out.mod HMu15_7.out (fun _ _ h => h)).mod HMu15_8.out (by intro k h1 h2; omega))
        clear Hx51 Hx50 HMu15_7 HMu15_8
        refine QSeq.nil (t' := [_, _, _, _, _, _, _, _, _, _]) rfl ?_
        obtain rfl := HA0.out
        clear HA0 oe4 oe5 oe14
        simp only [pz, Act.put, List.setIfInBounds_toArray, List.set_cons_zero, List.set_cons_succ, List.set_nil]
        go_upto_region 16 with (fail)
        refine wp_region_U 199 [79, 80, 81, 78, 82, 83, 17, 206, 18] [0, 1, 2, 3, 4, 5, 6, 7, 8] (fun a0 HA0 => ?_)
        have oe8 := ev HA0 8 rfl
        have oe13 := ev HA0 13 rfl
        refine QSeq.pure rfl _ (fun E => ex_move rfl (E.v oe8)) ?_
        refine QSeq.pure rfl _ (fun E => ex_loadA rfl Try.underlying30 rfl (off := 0) (cs := [.int .i64 ((kc : Nat) : Int), .int .i64 ((k1 : Nat) : Int)]) (by kernel_rfl) (E.v oe13) (Cs.litA ((Hx24.out.mod Cx32.out (by intro h2; omega)).mod Cx56.out (fun h => h)) rfl)) ?_
        refine QSeq.pure rfl (.tuple #[zSt.val, .bool false]) (fun E => ex_lookI (k := (((kc : Nat) : Int), ((k1 : Nat) : Int))) rfl (E.d 0 1) (E.d 1 0) HNK.out ((((K3.out.mod Cx14.out (fun h => h)).mod Cx23.out (fun h => h)).mod Cx32.out (by intro h2; omega)).mod Cx56.out (fun h => h)) (lookV_none HML.out)) ?_
        refine QSeq.pure rfl _ (fun E => ex_move rfl (E.d 2 0)) ?_
        refine QSeq.pure rfl (zSt.val) (fun E => ex_extract rfl (E.d 3 0) rfl) ?_
        refine QSeq.pure rfl (.bool false) (fun E => ex_extract rfl (E.d 3 1) rfl) ?_
        refine QSeq.go fun act E => ?_
        refine qc_alloc rfl (wanted_none rfl) rfl (z := [.int .i64 0, .int .i64 0, .int .i64 0, .int .u8 0, .int .u8 0, .int .u8 0, .int .u8 0, .int .u8 0, .int .u8 0, .int .u8 0, .int .u8 0, .int .u8 0, .int .u8 0, .int .u8 0, .int .u8 0, .int .u8 0, .int .u8 0, .int .u8 0, .int .u8 0, .int .u8 0, .int .u8 0, .int .u8 0, .int .u8 0, .int .u8 0, .int .u8 0, .int .u8 0, .int .u8 0, .int .u8 0, .int .u8 0, .int .u8 0, .int .u8 0, .int .u8 0, .int .u8 0, .int .u8 0, .int .u8 0, .int .u64 0, .int .i64 0, .int .i64 0]) (by kernel_rfl) ?_
        intro u16_6 qb17 hm
        have zl16_6 := qb17.lt
        have Hx59 := hid qb17
        have zu16_6 := hm.size
        have Cx60 := hid (show Mod (fun _ => False) u15_8 u16_6 from hm)
        clear hm
        clear act E qb17
        refine QSeq.go fun act E => ?_
        have hlz : (zSt.cells).length = List.length ([.int .i64 0, .int .i64 0, .int .i64 0, .int .u8 0, .int .u8 0, .int .u8 0, .int .u8 0, .int .u8 0, .int .u8 0, .int .u8 0, .int .u8 0, .int .u8 0, .int .u8 0, .int .u8 0, .int .u8 0, .int .u8 0, .int .u8 0, .int .u8 0, .int .u8 0, .int .u8 0, .int .u8 0, .int .u8 0, .int .u8 0, .int .u8 0, .int .u8 0, .int .u8 0, .int .u8 0, .int .u8 0, .int .u8 0, .int .u8 0, .int .u8 0, .int .u8 0, .int .u8 0, .int .u8 0, .int .u8 0, .int .u64 0, .int .i64 0, .int .i64 0] : List Value) := (by rw [St.len zSt_ok]; rfl)
        refine qc_store rfl (wanted_none rfl) rfl Hx59.out (off := 0) (vs := zSt.cells) (by rw [hlz]; kernel_rfl) (St.one zSt) (by rw [hlz]; exact Nat.le_of_eq (Nat.zero_add _)) (E.d 6 0) (ec (E.d 4 2)) ?_
        intro u16_7 qc0 hm
        have qb17 := qc0.eqv (b := (zSt.cells : List Value).toArray) (lay_whole (#[.int .i64 0, .int .i64 0, .int .i64 0, .int .u8 0, .int .u8 0, .int .u8 0, .int .u8 0, .int .u8 0, .int .u8 0, .int .u8 0, .int .u8 0, .int .u8 0, .int .u8 0, .int .u8 0, .int .u8 0, .int .u8 0, .int .u8 0, .int .u8 0, .int .u8 0, .int .u8 0, .int .u8 0, .int .u8 0, .int .u8 0, .int .u8 0, .int .u8 0, .int .u8 0, .int .u8 0, .int .u8 0, .int .u8 0, .int .u8 0, .int .u8 0, .int .u8 0, .int .u8 0, .int .u8 0, .int .u8 0, .int .u64 0, .int .i64 0, .int .i64 0]) _ (by rw [hlz]; rfl))
        clear qc0 hlz
        have Hx61 := hid qb17
        have zu16_7 := hm.size
        have HMu16_7 := hid hm
        have Cx62 := hid (Mod.goS (S' := (fun _ => False)) Cx60.out hm (fun _ h => h) (by intro k h0 h2; omega))
        clear hm Cx60
        clear act E qb17 Hx59
        refine QSeq.pure rfl _ (fun E => ex_assign rfl (E.d 5 2)) ?_
        clear HMu16_7
        refine QSeq.nil (t' := [_, _, _, _, _, _, _, _, _]) rfl ?_
        obtain rfl := HA0.out
        clear HA0 oe8 oe13
        simp only [pz, Act.put, List.setIfInBounds_toArray, List.set_cons_zero, List.set_cons_succ, List.set_nil]
        go_upto_region 17 with (fail)
        refine wp_region_U 199 [85, 86, 87, 88, 89, 90, 91, 92, 84] [0, 1, 2, 3, 4, 5, 6, 7, 8] (fun a0 HA0 => ?_)
        have oe18 := ev HA0 18 rfl
        refine QSeq.pure rfl _ (fun E => ex_move rfl (E.v oe18)) ?_
        refine QSeq.pure rfl _ (fun E => ex_move rfl (E.d 0 0)) ?_
        refine QSeq.skip rfl (fun E => ((wanted_of rfl rfl (E.sz 86 (by decide)) (E.d 1 0)).trans rfl)) ?_
        refine QSeq.skip rfl (fun E => ((wanted_of rfl rfl (E.sz 86 (by decide)) (E.d 1 1)).trans rfl)) ?_
        refine QSeq.skip rfl (fun E => ((wanted_of rfl rfl (E.sz 86 (by decide)) (E.d 1 2)).trans rfl)) ?_
        refine QSeq.skip rfl (fun E => ((wanted_of rfl rfl (E.sz 86 (by decide)) (E.d 1 3)).trans rfl)) ?_
        refine QSeq.skip rfl (fun E => ((wanted_of rfl rfl (E.sz 86 (by decide)) (E.d 1 4)).trans rfl)) ?_
        refine QSeq.pure rfl (.bool false) (fun E => ex_pick rfl (E.d 1 5) (E.d 6 0) rfl) ?_
        refine QSeq.pure rfl _ (fun E => ex_assign rfl (E.d 7 0)) ?_
        refine QSeq.nil (t' := [_, _, _, _, _, _, _, _, _]) rfl ?_
        obtain rfl := HA0.out
        clear HA0 oe18
        simp only [pz, Act.put, List.setIfInBounds_toArray, List.set_cons_zero, List.set_cons_succ]
        go_upto_region 20 with (fail)
        refine wp_region_U 199 [101, 100] [0, 1] (fun a0 HA0 => ?_)
        have oe18 := ev HA0 18 rfl
        refine QSeq.pure rfl _ (fun E => ex_move rfl (E.v oe18)) ?_
        refine QSeq.pure rfl _ (fun E => ex_assign rfl (E.d 0 0)) ?_
        refine QSeq.nil (t' := [_, _]) rfl ?_
        obtain rfl := HA0.out
        clear HA0 oe18
        simp only [pz, Act.put, List.setIfInBounds_toArray, List.set_cons_zero, List.set_cons_succ]
        go_upto_region 23 with (fail)
        refine wp_region_U 199 [105, 106, 104] [0, 1, 2] (fun a0 HA0 => ?_)
        have oe16 := ev HA0 16 rfl
        refine QSeq.pure rfl _ (fun E => ex_move rfl (E.v oe16)) ?_
        refine QSeq.pure rfl (.bool false) (fun E => ex_binE rfl (E.d 0 0) rfl (guard_ints _ _ _ _ _ _) (run_eql_i _ _ _ Try.underlying40) (congrArg Value.bool (show _ = false from rfl))) ?_
        refine QSeq.pure rfl _ (fun E => ex_assign rfl (E.d 1 0)) ?_
        refine QSeq.nil (t' := [_, _, _]) rfl ?_
        obtain rfl := HA0.out
        clear HA0 oe16
        simp only [pz, Act.put, List.setIfInBounds_toArray, List.set_cons_zero, List.set_cons_succ]
        clear Hx24
        clear Hx33
        clear Hx55
        clear Hx61
        by_cases hq1 : s.now < 18446744073709551614
        ·skip
         by_cases hq2 : s.floor < 18446744073709551614
         ·skip
          go_upto_region 28 with (fail)
          refine wp_region_U 199 [148, 149, 150, 151, 152, 153, 154, 155, 156, 157, 158, 159, 160, 161, 162, 163, 147] [0, 1, 2, 3, 4, 5, 6, 7, 8, 9, 10, 11, 12, 13, 14, 15, 16] (fun a0 HA0 => ?_)
          have oe5 := ev HA0 5 rfl
          have oe7 := ev HA0 7 rfl
          have oe16 := ev HA0 16 rfl
          refine QSeq.pure rfl _ (fun E => ex_move rfl (E.v oe16)) ?_
          refine QSeq.pure rfl (.bool false) (fun E => ex_binE rfl (E.d 0 0) rfl (guard_ints _ _ _ _ _ _) (run_neq_i _ _ _ Try.underlying40) (congrArg Value.bool (show _ = false from rfl))) ?_
          refine QSeq.pure rfl _ (fun E => ex_move rfl (E.d 1 0)) ?_
          refine QSeq.pureG rfl (.pointer (some ⟨p, 0, none⟩)) (fun E => ((wanted_of rfl rfl (E.sz 150 (by decide)) (E.d 2 0)).trans rfl)) (fun E => ex_move rfl (E.v oe5)) ?_
          refine QSeq.go fun act E => ?_
          refine qc_callF (args := #[.pointer (some ⟨p, 0, none⟩)]) rfl ((wanted_of rfl rfl (E.sz 150 (by decide)) (E.d 2 1)).trans rfl) rfl Try.func19 (args1 (E.d 3 0)) (Now_Q (Hx58.out.mod Cx62.out (fun _ _ h => h))) ?_
          rintro e w2 ⟨rfl, hw2⟩
          obtain rfl : u16_7 = w2 := by first | exact hw2 | exact hw2.symm
          refine ⟨_, rfl, ?_⟩
          clear act E
          refine QSeq.pureG rfl (.bool true) (fun E => ((wanted_of rfl rfl (E.sz 150 (by decide)) (E.d 2 2)).trans rfl)) (fun E => ex_binE rfl (E.d 4 0) rfl (guard_ints _ _ _ _ _ _) (run_lss_i _ _ _ Try.underlying45) (congrArg Value.bool (decide_eq_true (by omega)))) ?_
          refine QSeq.pureG rfl (.bool true) (fun E => ((wanted_of rfl rfl (E.sz 150 (by decide)) (E.d 2 3)).trans rfl)) (fun E => ex_move rfl (E.d 5 0)) ?_
          refine QSeq.pureG rfl (.pointer (some ⟨p, 0, none⟩)) (fun E => ((wanted_of rfl rfl (E.sz 154 (by decide)) (E.d 6 0)).trans rfl)) (fun E => ex_move rfl (E.v oe5)) ?_
          refine QSeq.go fun act E => ?_
          refine qc_callF (args := #[.pointer (some ⟨p, 0, none⟩)]) rfl ((wanted_of rfl rfl (E.sz 154 (by decide)) (E.d 6 1)).trans rfl) rfl Try.func16 (args1 (E.d 7 0)) (Floor_Q (Hx58.out.mod Cx62.out (fun _ _ h => h))) ?_
          rintro e w2 ⟨rfl, hw2⟩
          obtain rfl : u16_7 = w2 := by first | exact hw2 | exact hw2.symm
          refine ⟨_, rfl, ?_⟩
          clear act E
          refine QSeq.pureG rfl (.bool true) (fun E => ((wanted_of rfl rfl (E.sz 154 (by decide)) (E.d 6 2)).trans rfl)) (fun E => ex_binE rfl (E.d 8 0) rfl (guard_ints _ _ _ _ _ _) (run_lss_i _ _ _ Try.underlying45) (congrArg Value.bool (decide_eq_true (by omega)))) ?_
          refine QSeq.pureG rfl (.bool true) (fun E => ((wanted_of rfl rfl (E.sz 150 (by decide)) (E.d 2 7)).trans rfl)) (fun E => ex_pick rfl (E.d 6 3) (E.d 9 0) rfl) ?_
          refine QSeq.pureG rfl (.bool true) (fun E => ((wanted_of rfl rfl (E.sz 150 (by decide)) (E.d 2 8)).trans rfl)) (fun E => ex_move rfl (E.d 10 0)) ?_
          refine QSeq.pureG rfl (.int .u64 ((s.last : Nat) : Int)) (fun E => ((wanted_of rfl rfl (E.sz 159 (by decide)) (E.d 11 0)).trans rfl)) (fun E => ex_move rfl (E.v oe7)) ?_
          refine QSeq.pureG rfl (.bool false) (fun E => ((wanted_of rfl rfl (E.sz 159 (by decide)) (E.d 11 1)).trans rfl)) (fun E => ex_binE rfl (E.d 12 0) rfl (guard_ints _ _ _ _ _ _) (run_lss_i _ _ _ Try.underlying45) (congrArg Value.bool (decide_eq_false (by omega)))) ?_
          refine QSeq.pureG rfl (.bool false) (fun E => ((wanted_of rfl rfl (E.sz 150 (by decide)) (E.d 2 11)).trans rfl)) (fun E => ex_pick rfl (E.d 11 2) (E.d 13 0) rfl) ?_
          refine QSeq.pure rfl (.bool false) (fun E => ex_pick rfl (E.d 2 12) rfl (E.d 14 0)) ?_
          refine QSeq.pure rfl _ (fun E => ex_assign rfl (E.d 15 0)) ?_
          refine QSeq.nil (t' := [_, _, _, _, _, _, _, _, _, _, _, _, _, _, _, _, _]) rfl ?_
          obtain rfl := HA0.out
          clear HA0 oe5 oe7 oe16
          simp only [pz, Act.put, List.setIfInBounds_toArray, List.set_cons_zero, List.set_cons_succ]
          go_upto_region 10 with (fail)
          refine wp_region_U 199 [45, 46, 9] [0, 1, 2] (fun a0 HA0 => ?_)
          have oe9 := ev HA0 9 rfl
          refine QSeq.pure rfl _ (fun E => ex_move rfl (E.y 2 oe9)) ?_
          refine QSeq.pure rfl (.int .i64 (((i + 1) : Nat) : Int)) (fun E => ex_binE rfl (E.d 0 0) rfl (guard_ints _ _ _ _ _ _) (run_add_i _ _ Try.underlying3) (congrArg (Value.int .i64) (i64_eq (b := (((i + 1) : Nat) : Int)) (by omega) (by omega) (by omega)))) ?_
          refine QSeq.pure rfl _ (fun E => ex_assign rfl (E.d 1 0)) ?_
          refine QSeq.nil (t' := [_, _, _]) rfl ?_
          obtain rfl := HA0.out
          clear HA0 oe9
          simp only [pz, Act.put, List.setIfInBounds_toArray, List.set_cons_zero, List.set_cons_succ]
          go_wp2
          go_roundw
          case rel => exact ⟨i + 1, s, La, rfl, rfl, by omega, by omega, by omega, (Hx58.out.mod Cx62.out (fun _ _ h => h)), (Hx57.out.mod Cx62.out (fun _ _ h => h)), (((((K3.out.mod Cx14.out (fun h => h)).mod Cx23.out (fun h => h)).mod Cx32.out (by intro h2; omega)).mod Cx56.out (fun h => h)).mod Cx62.out (fun h => h)), (((((K4.out.mod Cx14.out (fun _ _ h => h)).mod Cx23.out (fun _ _ h => h)).mod Cx32.out (by intro k h1 h2; omega)).mod Cx56.out (fun _ _ h => h)).mod Cx62.out (fun _ _ h => h)), (((((K5.out.trans Cx14.out (fun _ _ h => h.elim)).trans Cx23.out (fun _ _ h => h.elim)).trans Cx32.out (by intro k h1 h2; omega)).trans Cx56.out (fun _ _ h => h.elim)).trans Cx62.out (fun _ _ h => h.elim))⟩
          case measure => simp [intOf]; omega
         ·skip
          go_upto_region 28 with (fail)
          refine wp_region_U 199 [148, 149, 150, 151, 152, 153, 154, 155, 156, 157, 158, 159, 160, 161, 162, 163, 147] [0, 1, 2, 3, 4, 5, 6, 7, 8, 9, 10, 11, 12, 13, 14, 15, 16] (fun a0 HA0 => ?_)
          have oe5 := ev HA0 5 rfl
          have oe16 := ev HA0 16 rfl
          refine QSeq.pure rfl _ (fun E => ex_move rfl (E.v oe16)) ?_
          refine QSeq.pure rfl (.bool false) (fun E => ex_binE rfl (E.d 0 0) rfl (guard_ints _ _ _ _ _ _) (run_neq_i _ _ _ Try.underlying40) (congrArg Value.bool (show _ = false from rfl))) ?_
          refine QSeq.pure rfl _ (fun E => ex_move rfl (E.d 1 0)) ?_
          refine QSeq.pureG rfl (.pointer (some ⟨p, 0, none⟩)) (fun E => ((wanted_of rfl rfl (E.sz 150 (by decide)) (E.d 2 0)).trans rfl)) (fun E => ex_move rfl (E.v oe5)) ?_
          refine QSeq.go fun act E => ?_
          refine qc_callF (args := #[.pointer (some ⟨p, 0, none⟩)]) rfl ((wanted_of rfl rfl (E.sz 150 (by decide)) (E.d 2 1)).trans rfl) rfl Try.func19 (args1 (E.d 3 0)) (Now_Q (Hx58.out.mod Cx62.out (fun _ _ h => h))) ?_
          rintro e w2 ⟨rfl, hw2⟩
          obtain rfl : u16_7 = w2 := by first | exact hw2 | exact hw2.symm
          refine ⟨_, rfl, ?_⟩
          clear act E
          refine QSeq.pureG rfl (.bool true) (fun E => ((wanted_of rfl rfl (E.sz 150 (by decide)) (E.d 2 2)).trans rfl)) (fun E => ex_binE rfl (E.d 4 0) rfl (guard_ints _ _ _ _ _ _) (run_lss_i _ _ _ Try.underlying45) (congrArg Value.bool (decide_eq_true (by omega)))) ?_
          refine QSeq.pureG rfl (.bool true) (fun E => ((wanted_of rfl rfl (E.sz 150 (by decide)) (E.d 2 3)).trans rfl)) (fun E => ex_move rfl (E.d 5 0)) ?_
          refine QSeq.pureG rfl (.pointer (some ⟨p, 0, none⟩)) (fun E => ((wanted_of rfl rfl (E.sz 154 (by decide)) (E.d 6 0)).trans rfl)) (fun E => ex_move rfl (E.v oe5)) ?_
          refine QSeq.go fun act E => ?_
          refine qc_callF (args := #[.pointer (some ⟨p, 0, none⟩)]) rfl ((wanted_of rfl rfl (E.sz 154 (by decide)) (E.d 6 1)).trans rfl) rfl Try.func16 (args1 (E.d 7 0)) (Floor_Q (Hx58.out.mod Cx62.out (fun _ _ h => h))) ?_
          rintro e w2 ⟨rfl, hw2⟩
          obtain rfl : u16_7 = w2 := by first | exact hw2 | exact hw2.symm
          refine ⟨_, rfl, ?_⟩
          clear act E
          refine QSeq.pureG rfl (.bool false) (fun E => ((wanted_of rfl rfl (E.sz 154 (by decide)) (E.d 6 2)).trans rfl)) (fun E => ex_binE rfl (E.d 8 0) rfl (guard_ints _ _ _ _ _ _) (run_lss_i _ _ _ Try.underlying45) (congrArg Value.bool (decide_eq_false (by omega)))) ?_
          refine QSeq.pureG rfl (.bool false) (fun E => ((wanted_of rfl rfl (E.sz 150 (by decide)) (E.d 2 7)).trans rfl)) (fun E => ex_pick rfl (E.d 6 3) (E.d 9 0) rfl) ?_
          refine QSeq.pureG rfl (.bool false) (fun E => ((wanted_of rfl rfl (E.sz 150 (by decide)) (E.d 2 8)).trans rfl)) (fun E => ex_move rfl (E.d 10 0)) ?_
          refine QSeq.skip rfl (fun E => ((wanted_of rfl rfl (E.sz 159 (by decide)) (E.d 11 0)).trans rfl)) ?_
          refine QSeq.skip rfl (fun E => ((wanted_of rfl rfl (E.sz 159 (by decide)) (E.d 11 1)).trans rfl)) ?_
          refine QSeq.pureG rfl (.bool false) (fun E => ((wanted_of rfl rfl (E.sz 150 (by decide)) (E.d 2 11)).trans rfl)) (fun E => ex_pick rfl (E.d 11 2) (E.d 13 0) rfl) ?_
          refine QSeq.pure rfl (.bool false) (fun E => ex_pick rfl (E.d 2 12) rfl (E.d 14 0)) ?_
          refine QSeq.pure rfl _ (fun E => ex_assign rfl (E.d 15 0)) ?_
          refine QSeq.nil (t' := [_, _, _, _, _, _, _, _, _, _, _, _, _, _, _, _, _]) rfl ?_
          obtain rfl := HA0.out
          clear HA0 oe5 oe16
          simp only [pz, Act.put, List.setIfInBounds_toArray, List.set_cons_zero, List.set_cons_succ]
          go_upto_region 10 with (fail)
          refine wp_region_U 199 [45, 46, 9] [0, 1, 2] (fun a0 HA0 => ?_)
          have oe9 := ev HA0 9 rfl
          refine QSeq.pure rfl _ (fun E => ex_move rfl (E.y 2 oe9)) ?_
          refine QSeq.pure rfl (.int .i64 (((i + 1) : Nat) : Int)) (fun E => ex_binE rfl (E.d 0 0) rfl (guard_ints _ _ _ _ _ _) (run_add_i _ _ Try.underlying3) (congrArg (Value.int .i64) (i64_eq (b := (((i + 1) : Nat) : Int)) (by omega) (by omega) (by omega)))) ?_
          refine QSeq.pure rfl _ (fun E => ex_assign rfl (E.d 1 0)) ?_
          refine QSeq.nil (t' := [_, _, _]) rfl ?_
          obtain rfl := HA0.out
          clear HA0 oe9
          simp only [pz, Act.put, List.setIfInBounds_toArray, List.set_cons_zero, List.set_cons_succ]
          go_wp2
          go_roundw
          case rel => exact ⟨i + 1, s, La, rfl, rfl, by omega, by omega, by omega, (Hx58.out.mod Cx62.out (fun _ _ h => h)), (Hx57.out.mod Cx62.out (fun _ _ h => h)), (((((K3.out.mod Cx14.out (fun h => h)).mod Cx23.out (fun h => h)).mod Cx32.out (by intro h2; omega)).mod Cx56.out (fun h => h)).mod Cx62.out (fun h => h)), (((((K4.out.mod Cx14.out (fun _ _ h => h)).mod Cx23.out (fun _ _ h => h)).mod Cx32.out (by intro k h1 h2; omega)).mod Cx56.out (fun _ _ h => h)).mod Cx62.out (fun _ _ h => h)), (((((K5.out.trans Cx14.out (fun _ _ h => h.elim)).trans Cx23.out (fun _ _ h => h.elim)).trans Cx32.out (by intro k h1 h2; omega)).trans Cx56.out (fun _ _ h => h.elim)).trans Cx62.out (fun _ _ h => h.elim))⟩
          case measure => simp [intOf]; omega
        ·skip
         go_upto_region 28 with (fail)
         refine wp_region_U 199 [148, 149, 150, 151, 152, 153, 154, 155, 156, 157, 158, 159, 160, 161, 162, 163, 147] [0, 1, 2, 3, 4, 5, 6, 7, 8, 9, 10, 11, 12, 13, 14, 15, 16] (fun a0 HA0 => ?_)
         have oe5 := ev HA0 5 rfl
         have oe16 := ev HA0 16 rfl
         refine QSeq.pure rfl _ (fun E => ex_move rfl (E.v oe16)) ?_
         refine QSeq.pure rfl (.bool false) (fun E => ex_binE rfl (E.d 0 0) rfl (guard_ints _ _ _ _ _ _) (run_neq_i _ _ _ Try.underlying40) (congrArg Value.bool (show _ = false from rfl))) ?_
         refine QSeq.pure rfl _ (fun E => ex_move rfl (E.d 1 0)) ?_
         refine QSeq.pureG rfl (.pointer (some ⟨p, 0, none⟩)) (fun E => ((wanted_of rfl rfl (E.sz 150 (by decide)) (E.d 2 0)).trans rfl)) (fun E => ex_move rfl (E.v oe5)) ?_
         refine QSeq.go fun act E => ?_
         refine qc_callF (args := #[.pointer (some ⟨p, 0, none⟩)]) rfl ((wanted_of rfl rfl (E.sz 150 (by decide)) (E.d 2 1)).trans rfl) rfl Try.func19 (args1 (E.d 3 0)) (Now_Q (Hx58.out.mod Cx62.out (fun _ _ h => h))) ?_
         rintro e w2 ⟨rfl, hw2⟩
         obtain rfl : u16_7 = w2 := by first | exact hw2 | exact hw2.symm
         refine ⟨_, rfl, ?_⟩
         clear act E
         refine QSeq.pureG rfl (.bool false) (fun E => ((wanted_of rfl rfl (E.sz 150 (by decide)) (E.d 2 2)).trans rfl)) (fun E => ex_binE rfl (E.d 4 0) rfl (guard_ints _ _ _ _ _ _) (run_lss_i _ _ _ Try.underlying45) (congrArg Value.bool (decide_eq_false (by omega)))) ?_
         refine QSeq.pureG rfl (.bool false) (fun E => ((wanted_of rfl rfl (E.sz 150 (by decide)) (E.d 2 3)).trans rfl)) (fun E => ex_move rfl (E.d 5 0)) ?_
         refine QSeq.skip rfl (fun E => ((wanted_of rfl rfl (E.sz 154 (by decide)) (E.d 6 0)).trans rfl)) ?_
         refine QSeq.skip rfl (fun E => ((wanted_of rfl rfl (E.sz 154 (by decide)) (E.d 6 1)).trans rfl)) ?_
         refine QSeq.skip rfl (fun E => ((wanted_of rfl rfl (E.sz 154 (by decide)) (E.d 6 2)).trans rfl)) ?_
         refine QSeq.pureG rfl (.bool false) (fun E => ((wanted_of rfl rfl (E.sz 150 (by decide)) (E.d 2 7)).trans rfl)) (fun E => ex_pick rfl (E.d 6 3) (E.d 9 0) rfl) ?_
         refine QSeq.pureG rfl (.bool false) (fun E => ((wanted_of rfl rfl (E.sz 150 (by decide)) (E.d 2 8)).trans rfl)) (fun E => ex_move rfl (E.d 10 0)) ?_
         refine QSeq.skip rfl (fun E => ((wanted_of rfl rfl (E.sz 159 (by decide)) (E.d 11 0)).trans rfl)) ?_
         refine QSeq.skip rfl (fun E => ((wanted_of rfl rfl (E.sz 159 (by decide)) (E.d 11 1)).trans rfl)) ?_
         refine QSeq.pureG rfl (.bool false) (fun E => ((wanted_of rfl rfl (E.sz 150 (by decide)) (E.d 2 11)).trans rfl)) (fun E => ex_pick rfl (E.d 11 2) (E.d 13 0) rfl) ?_
         refine QSeq.pure rfl (.bool false) (fun E => ex_pick rfl (E.d 2 12) rfl (E.d 14 0)) ?_
         refine QSeq.pure rfl _ (fun E => ex_assign rfl (E.d 15 0)) ?_
         refine QSeq.nil (t' := [_, _, _, _, _, _, _, _, _, _, _, _, _, _, _, _, _]) rfl ?_
         obtain rfl := HA0.out
         clear HA0 oe5 oe16
         simp only [pz, Act.put, List.setIfInBounds_toArray, List.set_cons_zero, List.set_cons_succ]
         go_upto_region 10 with (fail)
         refine wp_region_U 199 [45, 46, 9] [0, 1, 2] (fun a0 HA0 => ?_)
         have oe9 := ev HA0 9 rfl
         refine QSeq.pure rfl _ (fun E => ex_move rfl (E.y 2 oe9)) ?_
         refine QSeq.pure rfl (.int .i64 (((i + 1) : Nat) : Int)) (fun E => ex_binE rfl (E.d 0 0) rfl (guard_ints _ _ _ _ _ _) (run_add_i _ _ Try.underlying3) (congrArg (Value.int .i64) (i64_eq (b := (((i + 1) : Nat) : Int)) (by omega) (by omega) (by omega)))) ?_
         refine QSeq.pure rfl _ (fun E => ex_assign rfl (E.d 1 0)) ?_
         refine QSeq.nil (t' := [_, _, _]) rfl ?_
         obtain rfl := HA0.out
         clear HA0 oe9
         simp only [pz, Act.put, List.setIfInBounds_toArray, List.set_cons_zero, List.set_cons_succ]
         go_wp2
         go_roundw
         case rel => exact ⟨i + 1, s, La, rfl, rfl, by omega, by omega, by omega, (Hx58.out.mod Cx62.out (fun _ _ h => h)), (Hx57.out.mod Cx62.out (fun _ _ h => h)), (((((K3.out.mod Cx14.out (fun h => h)).mod Cx23.out (fun h => h)).mod Cx32.out (by intro h2; omega)).mod Cx56.out (fun h => h)).mod Cx62.out (fun h => h)), (((((K4.out.mod Cx14.out (fun _ _ h => h)).mod Cx23.out (fun _ _ h => h)).mod Cx32.out (by intro k h1 h2; omega)).mod Cx56.out (fun _ _ h => h)).mod Cx62.out (fun _ _ h => h)), (((((K5.out.trans Cx14.out (fun _ _ h => h.elim)).trans Cx23.out (fun _ _ h => h.elim)).trans Cx32.out (by intro k h1 h2; omega)).trans Cx56.out (fun _ _ h => h.elim)).trans Cx62.out (fun _ _ h => h.elim))⟩
         case measure => simp [intOf]; omega
      | some y =>
       have HML := Lib.hid hml
       have HYO := hid (mlook_ok HOKS.out hml)
       clear hml
       by_cases hhe : y.h = ca.h
       ·skip
        go_upto_region 15 with (fail)
        refine wp_region_U 199 [72, 73, 74, 75, 71, 76, 77, 15, 207, 16] [0, 1, 2, 3, 4, 5, 6, 7, 8, 9] (fun a0 HA0 => ?_)
        have oe4 := ev HA0 4 rfl
        have oe5 := ev HA0 5 rfl
        have oe14 := ev HA0 14 rfl
        refine QSeq.pure rfl _ (fun E => ex_move rfl (E.v oe5)) ?_
        refine QSeq.pure rfl _ (fun E => ex_move rfl (E.v oe4)) ?_
        refine QSeq.pure rfl _ (fun E => ex_loadA rfl Try.underlying36 rfl (off := 0) (cs := ca.cells) (by rw [Cm.len HMDa.out.ok.2.1]; exact size_commit) (E.v oe14) (Cs.whole Hx33.out)) ?_
        refine QSeq.call rfl rfl Try.func14 (Stamp_old (((K1.out.mod Cx14.out (fun _ _ h => h)).mod Cx23.out (fun _ _ h => h)).mod Cx32.out (by intro k h1 h2; omega)) Hx30.out (by intro k h1; omega) (by intro k h1; omega) (by intro k h1 h2; omega) HMDa.out.ok HMDa.out.si HMDa.out.rt (by rw [HMDa.out.cl, HMDa.out.sq]; exact HML.out) hhe) (fun E => args3 (E.d 0 2) (E.d 1 1) (E.d 2 0)) ?_
        rintro e u15_3 ⟨rfl, qsp, qbk, hm⟩
        refine ⟨_, rfl, ?_⟩
        have Hx63 := hid qsp
        have Hx64 := hid qbk
        have zu15_3 := hm.size
        have Cx65 := hid (show Mod (fun _ => False) u14_2 u15_3 from hm)
        clear hm
        clear qsp qbk K1 Hx30
        refine QSeq.pure rfl _ (fun E => ex_move rfl (E.d 3 0)) ?_
        refine QSeq.pure rfl (.agg y.cells.toArray) (fun E => ex_extract rfl (E.d 4 0) rfl) ?_
        refine QSeq.pure rfl (.int .i64 0) (fun E => ex_extract rfl (E.d 4 1) rfl) ?_
        refine QSeq.go fun act E => ?_
        refine qc_alloc rfl (wanted_none rfl) rfl (z := [.int .i64 0, .int .i64 0, .int .i64 0, .int .u8 0, .int .u8 0, .int .u8 0, .int .u8 0, .int .u8 0, .int .u8 0, .int .u8 0, .int .u8 0, .int .u8 0, .int .u8 0, .int .u8 0, .int .u8 0, .int .u8 0, .int .u8 0, .int .u8 0, .int .u8 0, .int .u8 0, .int .u8 0, .int .u8 0, .int .u8 0, .int .u8 0, .int .u8 0, .int .u8 0, .int .u8 0, .int .u8 0, .int .u8 0, .int .u8 0, .int .u8 0, .int .u8 0, .int .u8 0, .int .u8 0, .int .u8 0, .int .u64 0, .int .i64 0, .int .i64 0]) (by kernel_rfl) ?_
        intro u15_7 qb15 hm
        have zl15_7 := qb15.lt
        have Hx66 := hid qb15
        have zu15_7 := hm.size
        have HMu15_7 := hid hm
        have Cx67 := hid (Cx65.out.goE hm)
        clear hm Cx65
        clear act E qb15
        refine QSeq.go fun act E => ?_
        have hlz : (y.cells).length = List.length ([.int .i64 0, .int .i64 0, .int .i64 0, .int .u8 0, .int .u8 0, .int .u8 0, .int .u8 0, .int .u8 0, .int .u8 0, .int .u8 0, .int .u8 0, .int .u8 0, .int .u8 0, .int .u8 0, .int .u8 0, .int .u8 0, .int .u8 0, .int .u8 0, .int .u8 0, .int .u8 0, .int .u8 0, .int .u8 0, .int .u8 0, .int .u8 0, .int .u8 0, .int .u8 0, .int .u8 0, .int .u8 0, .int .u8 0, .int .u8 0, .int .u8 0, .int .u8 0, .int .u8 0, .int .u8 0, .int .u8 0, .int .u64 0, .int .i64 0, .int .i64 0] : List Value) := (by rw [St.len HYO.out]; rfl)
        refine qc_store rfl (wanted_none rfl) rfl Hx66.out (off := 0) (vs := y.cells) (by rw [hlz]; kernel_rfl) (St.one y) (by rw [hlz]; exact Nat.le_of_eq (Nat.zero_add _)) (E.d 7 0) (ec (E.d 5 2)) ?_
        intro u15_8 qc0 hm
        have qb15 := qc0.eqv (b := (y.cells : List Value).toArray) (lay_whole (#[.int .i64 0, .int .i64 0, .int .i64 0, .int .u8 0, .int .u8 0, .int .u8 0, .int .u8 0, .int .u8 0, .int .u8 0, .int .u8 0, .int .u8 0, .int .u8 0, .int .u8 0, .int .u8 0, .int .u8 0, .int .u8 0, .int .u8 0, .int .u8 0, .int .u8 0, .int .u8 0, .int .u8 0, .int .u8 0, .int .u8 0, .int .u8 0, .int .u8 0, .int .u8 0, .int .u8 0, .int .u8 0, .int .u8 0, .int .u8 0, .int .u8 0, .int .u8 0, .int .u8 0, .int .u8 0, .int .u8 0, .int .u64 0, .int .i64 0, .int .i64 0]) _ (by rw [hlz]; rfl))
        clear qc0 hlz
        have Hx68 := hid qb15
        have zu15_8 := hm.size
        have HMu15_8 := hid hm
        have Cx69 := hid (Mod.goS (S' := (fun _ => False)) Cx67.out hm (fun _ h => h) (by intro k h0 h2; omega))
        clear hm Cx67
        clear act E qb15 Hx66
        refine QSeq.pure rfl _ (fun E => ex_assign rfl (E.d 6 2)) ?_
        have Hx70 := hid ((Hx64.out.mod HMu15_7.out (fun _ _ h => h)).mod HMu15_8.out (by intro k h1 h2; omega))
        have Hx71 := hid ((Hx63.out.mod HMu15_7.out (fun _ _ h => h)).mod HMu15_8.out (by intro k h1 h2; omega))
        clear Hx64 Hx63 HMu15_7 HMu15_8
        refine QSeq.nil (t' := [_, _, _, _, _, _, _, _, _, _]) rfl ?_
        obtain rfl := HA0.out
        clear HA0 oe4 oe5 oe14
        simp only [pz, Act.put, List.setIfInBounds_toArray, List.set_cons_zero, List.set_cons_succ, List.set_nil]
        go_upto_region 16 with (fail)
        refine wp_region_U 199 [79, 80, 81, 78, 82, 83, 17, 206, 18] [0, 1, 2, 3, 4, 5, 6, 7, 8] (fun a0 HA0 => ?_)
        have oe8 := ev HA0 8 rfl
        have oe13 := ev HA0 13 rfl
        refine QSeq.pure rfl _ (fun E => ex_move rfl (E.v oe8)) ?_
        refine QSeq.pure rfl _ (fun E => ex_loadA rfl Try.underlying30 rfl (off := 0) (cs := [.int .i64 ((kc : Nat) : Int), .int .i64 ((k1 : Nat) : Int)]) (by kernel_rfl) (E.v oe13) (Cs.litA ((Hx24.out.mod Cx32.out (by intro h2; omega)).mod Cx69.out (fun h => h)) rfl)) ?_
        refine QSeq.pure rfl (.tuple #[y.val, .bool true]) (fun E => ex_lookI (k := (((kc : Nat) : Int), ((k1 : Nat) : Int))) rfl (E.d 0 1) (E.d 1 0) HNK.out ((((K3.out.mod Cx14.out (fun h => h)).mod Cx23.out (fun h => h)).mod Cx32.out (by intro h2; omega)).mod Cx69.out (fun h => h)) (lookV_some HML.out)) ?_
        refine QSeq.pure rfl _ (fun E => ex_move rfl (E.d 2 0)) ?_
        refine QSeq.pure rfl (y.val) (fun E => ex_extract rfl (E.d 3 0) rfl) ?_
        refine QSeq.pure rfl (.bool true) (fun E => ex_extract rfl (E.d 3 1) rfl) ?_
        refine QSeq.go fun act E => ?_
        refine qc_alloc rfl (wanted_none rfl) rfl (z := [.int .i64 0, .int .i64 0, .int .i64 0, .int .u8 0, .int .u8 0, .int .u8 0, .int .u8 0, .int .u8 0, .int .u8 0, .int .u8 0, .int .u8 0, .int .u8 0, .int .u8 0, .int .u8 0, .int .u8 0, .int .u8 0, .int .u8 0, .int .u8 0, .int .u8 0, .int .u8 0, .int .u8 0, .int .u8 0, .int .u8 0, .int .u8 0, .int .u8 0, .int .u8 0, .int .u8 0, .int .u8 0, .int .u8 0, .int .u8 0, .int .u8 0, .int .u8 0, .int .u8 0, .int .u8 0, .int .u8 0, .int .u64 0, .int .i64 0, .int .i64 0]) (by kernel_rfl) ?_
        intro u16_6 qb17 hm
        have zl16_6 := qb17.lt
        have Hx72 := hid qb17
        have zu16_6 := hm.size
        have Cx73 := hid (show Mod (fun _ => False) u15_8 u16_6 from hm)
        clear hm
        clear act E qb17
        refine QSeq.go fun act E => ?_
        have hlz : (y.cells).length = List.length ([.int .i64 0, .int .i64 0, .int .i64 0, .int .u8 0, .int .u8 0, .int .u8 0, .int .u8 0, .int .u8 0, .int .u8 0, .int .u8 0, .int .u8 0, .int .u8 0, .int .u8 0, .int .u8 0, .int .u8 0, .int .u8 0, .int .u8 0, .int .u8 0, .int .u8 0, .int .u8 0, .int .u8 0, .int .u8 0, .int .u8 0, .int .u8 0, .int .u8 0, .int .u8 0, .int .u8 0, .int .u8 0, .int .u8 0, .int .u8 0, .int .u8 0, .int .u8 0, .int .u8 0, .int .u8 0, .int .u8 0, .int .u64 0, .int .i64 0, .int .i64 0] : List Value) := (by rw [St.len HYO.out]; rfl)
        refine qc_store rfl (wanted_none rfl) rfl Hx72.out (off := 0) (vs := y.cells) (by rw [hlz]; kernel_rfl) (St.one y) (by rw [hlz]; exact Nat.le_of_eq (Nat.zero_add _)) (E.d 6 0) (ec (E.d 4 2)) ?_
        intro u16_7 qc0 hm
        have qb17 := qc0.eqv (b := (y.cells : List Value).toArray) (lay_whole (#[.int .i64 0, .int .i64 0, .int .i64 0, .int .u8 0, .int .u8 0, .int .u8 0, .int .u8 0, .int .u8 0, .int .u8 0, .int .u8 0, .int .u8 0, .int .u8 0, .int .u8 0, .int .u8 0, .int .u8 0, .int .u8 0, .int .u8 0, .int .u8 0, .int .u8 0, .int .u8 0, .int .u8 0, .int .u8 0, .int .u8 0, .int .u8 0, .int .u8 0, .int .u8 0, .int .u8 0, .int .u8 0, .int .u8 0, .int .u8 0, .int .u8 0, .int .u8 0, .int .u8 0, .int .u8 0, .int .u8 0, .int .u64 0, .int .i64 0, .int .i64 0]) _ (by rw [hlz]; rfl))
        clear qc0 hlz
        have Hx74 := hid qb17
        have zu16_7 := hm.size
        have HMu16_7 := hid hm
        have Cx75 := hid (Mod.goS (S' := (fun _ => False)) Cx73.out hm (fun _ h => h) (by intro k h0 h2; omega))
        clear hm Cx73
        clear act E qb17 Hx72
        refine QSeq.pure rfl _ (fun E => ex_assign rfl (E.d 5 2)) ?_
        clear HMu16_7
        refine QSeq.nil (t' := [_, _, _, _, _, _, _, _, _]) rfl ?_
        obtain rfl := HA0.out
        clear HA0 oe8 oe13
        simp only [pz, Act.put, List.setIfInBounds_toArray, List.set_cons_zero, List.set_cons_succ, List.set_nil]
        go_upto_region 17 with (fail)
        refine wp_region_U 199 [85, 86, 87, 88, 89, 90, 91, 92, 84] [0, 1, 2, 3, 4, 5, 6, 7, 8] (fun a0 HA0 => ?_)
        have oe14 := ev HA0 14 rfl
        have oe17 := ev HA0 17 rfl
        have oe18 := ev HA0 18 rfl
        refine QSeq.pure rfl _ (fun E => ex_move rfl (E.v oe18)) ?_
        refine QSeq.pure rfl _ (fun E => ex_move rfl (E.d 0 0)) ?_
        refine QSeq.pureG rfl (.pointer (some ⟨u15_8.heap.size, 3, none⟩)) (fun E => ((wanted_of rfl rfl (E.sz 86 (by decide)) (E.d 1 0)).trans rfl)) (fun E => ex_field rfl Try.underlying47 rfl (by kernel_rfl) (E.v oe17)) ?_
        refine QSeq.pureG rfl (hv y.h) (fun E => ((wanted_of rfl rfl (E.sz 86 (by decide)) (E.d 1 1)).trans rfl)) (fun E => ex_loadA rfl Try.underlying32 rfl (off := 3) (cs := y.h.map bv) (by rw [List.length_map, HYO.out.h.1]; exact size_hash) (E.d 2 0) (Cs.midA Hx74.out rfl)) ?_
        refine QSeq.pureG rfl (.pointer (some ⟨b14, 2, none⟩)) (fun E => ((wanted_of rfl rfl (E.sz 86 (by decide)) (E.d 1 2)).trans rfl)) (fun E => ex_field rfl Try.underlying36 rfl (by kernel_rfl) (E.v oe14)) ?_
        refine QSeq.pureG rfl (hv ca.h) (fun E => ((wanted_of rfl rfl (E.sz 86 (by decide)) (E.d 1 3)).trans rfl)) (fun E => ex_loadA rfl Try.underlying32 rfl (off := 2) (cs := ca.h.map bv) (by rw [List.length_map, HMDa.out.ok.2.1]; exact size_hash) (E.d 4 0) (((Hx33.out.mod Cx69.out (fun h => h)).mod Cx75.out (fun h => h)).hash)) ?_
        refine QSeq.pureG rfl (.bool true) (fun E => ((wanted_of rfl rfl (E.sz 86 (by decide)) (E.d 1 4)).trans rfl)) (fun E => ex_binE rfl (E.d 3 2) (E.d 5 0) (agg_guardE _ _ _ _ _ _ (by kernel_rfl) _) (run_eql_hv HYO.out.h.1 HMDa.out.ok.2.1 (c := true) (by simp only [true_iff]; exact hhe) _) rfl) ?_
        refine QSeq.pure rfl (.bool true) (fun E => ex_pick rfl (E.d 1 5) (E.d 6 0) rfl) ?_
        refine QSeq.pure rfl _ (fun E => ex_assign rfl (E.d 7 0)) ?_
        refine QSeq.nil (t' := [_, _, _, _, _, _, _, _, _]) rfl ?_
        obtain rfl := HA0.out
        clear HA0 oe14 oe17 oe18
        simp only [pz, Act.put, List.setIfInBounds_toArray, List.set_cons_zero, List.set_cons_succ]
        go_upto_region 18 with (fail)
        refine wp_region_U 199 [93, 94, 95, 96, 97, 98, 99] [0, 1, 2, 3, 4, 5, 6] (fun a0 HA0 => ?_)
        have oe15 := ev HA0 15 rfl
        have oe16 := ev HA0 16 rfl
        have oe17 := ev HA0 17 rfl
        refine QSeq.pure rfl _ (fun E => ex_move rfl (E.v oe16)) ?_
        refine QSeq.pure rfl (.bool false) (fun E => ex_binE rfl (E.d 0 0) rfl (guard_ints _ _ _ _ _ _) (run_neq_i _ _ _ Try.underlying40) (congrArg Value.bool (show _ = false from rfl))) ?_
        refine QSeq.pure rfl _ (fun E => ex_move rfl (E.d 1 0)) ?_
        refine QSeq.pureG rfl (y.val) (fun E => ((wanted_of rfl rfl (E.sz 95 (by decide)) (E.d 2 0)).trans rfl)) (fun E => ex_loadA rfl Try.underlying47 rfl (off := 0) (cs := y.cells) (by rw [St.len HYO.out]; exact size_stamp) (E.v oe15) (Cs.whole (Hx68.out.mod Cx75.out (fun h => h)))) ?_
        refine QSeq.pureG rfl (y.val) (fun E => ((wanted_of rfl rfl (E.sz 95 (by decide)) (E.d 2 1)).trans rfl)) (fun E => ex_loadA rfl Try.underlying47 rfl (off := 0) (cs := y.cells) (by rw [St.len HYO.out]; exact size_stamp) (E.v oe17) (Cs.whole Hx74.out)) ?_
        refine QSeq.pureG rfl (.bool false) (fun E => ((wanted_of rfl rfl (E.sz 95 (by decide)) (E.d 2 2)).trans rfl)) (fun E => ex_binE rfl (E.d 3 1) (E.d 4 0) (agg_guardE _ _ _ _ _ _ (by kernel_rfl) _) (EqW.runN eqW_stamp (ki_st HYO.out) (ki_st HYO.out) (c := true) (by simp) _) rfl) ?_
        refine QSeq.pure rfl (.bool false) (fun E => ex_pick rfl (E.d 2 3) rfl (E.d 5 0)) ?_
        refine QSeq.nil (t' := [_, _, _, _, _, _, _]) rfl ?_
        obtain rfl := HA0.out
        clear HA0 oe15 oe16 oe17
        simp only [pz, Act.put, List.setIfInBounds_toArray, List.set_cons_zero, List.set_cons_succ]
        clear Hx24
        clear Hx33
        clear Hx68
        clear Hx74
        go_upto_region 10 with (fail)
        refine wp_region_U 199 [45, 46, 9] [0, 1, 2] (fun a0 HA0 => ?_)
        have oe9 := ev HA0 9 rfl
        refine QSeq.pure rfl _ (fun E => ex_move rfl (E.y 2 oe9)) ?_
        refine QSeq.pure rfl (.int .i64 (((i + 1) : Nat) : Int)) (fun E => ex_binE rfl (E.d 0 0) rfl (guard_ints _ _ _ _ _ _) (run_add_i _ _ Try.underlying3) (congrArg (Value.int .i64) (i64_eq (b := (((i + 1) : Nat) : Int)) (by omega) (by omega) (by omega)))) ?_
        refine QSeq.pure rfl _ (fun E => ex_assign rfl (E.d 1 0)) ?_
        refine QSeq.nil (t' := [_, _, _]) rfl ?_
        obtain rfl := HA0.out
        clear HA0 oe9
        simp only [pz, Act.put, List.setIfInBounds_toArray, List.set_cons_zero, List.set_cons_succ]
        go_wp2
        go_roundw
        case rel => exact ⟨i + 1, s, La, rfl, rfl, by omega, by omega, by omega, (Hx71.out.mod Cx75.out (fun _ _ h => h)), (Hx70.out.mod Cx75.out (fun _ _ h => h)), (((((K3.out.mod Cx14.out (fun h => h)).mod Cx23.out (fun h => h)).mod Cx32.out (by intro h2; omega)).mod Cx69.out (fun h => h)).mod Cx75.out (fun h => h)), (((((K4.out.mod Cx14.out (fun _ _ h => h)).mod Cx23.out (fun _ _ h => h)).mod Cx32.out (by intro k h1 h2; omega)).mod Cx69.out (fun _ _ h => h)).mod Cx75.out (fun _ _ h => h)), (((((K5.out.trans Cx14.out (fun _ _ h => h.elim)).trans Cx23.out (fun _ _ h => h.elim)).trans Cx32.out (by intro k h1 h2; omega)).trans Cx69.out (fun _ _ h => h.elim)).trans Cx75.out (fun _ _ h => h.elim))⟩
        case measure => simp [intOf]; omega
       ·skip
        go_upto_region 15 with (fail)
        refine wp_region_U 199 [72, 73, 74, 75, 71, 76, 77, 15, 207, 16] [0, 1, 2, 3, 4, 5, 6, 7, 8, 9] (fun a0 HA0 => ?_)
        have oe4 := ev HA0 4 rfl
        have oe5 := ev HA0 5 rfl
        have oe14 := ev HA0 14 rfl
        refine QSeq.pure rfl _ (fun E => ex_move rfl (E.v oe5)) ?_
        refine QSeq.pure rfl _ (fun E => ex_move rfl (E.v oe4)) ?_
        refine QSeq.pure rfl _ (fun E => ex_loadA rfl Try.underlying36 rfl (off := 0) (cs := ca.cells) (by rw [Cm.len HMDa.out.ok.2.1]; exact size_commit) (E.v oe14) (Cs.whole Hx33.out)) ?_
        refine QSeq.call rfl rfl Try.func14 (Stamp_other (((K1.out.mod Cx14.out (fun _ _ h => h)).mod Cx23.out (fun _ _ h => h)).mod Cx32.out (by intro k h1 h2; omega)) Hx30.out (by intro k h1; omega) (by intro k h1; omega) (by intro k h1 h2; omega) HMDa.out.ok HMDa.out.si HMDa.out.rt (by rw [HMDa.out.cl, HMDa.out.sq]; exact HML.out) hhe) (fun E => args3 (E.d 0 2) (E.d 1 1) (E.d 2 0)) ?_
        rintro e u15_3 ⟨rfl, qsp, qbk, hm⟩
        refine ⟨_, rfl, ?_⟩
        have Hx76 := hid qsp
        have Hx77 := hid qbk
        have zu15_3 := hm.size
        have Cx78 := hid (show Mod (fun _ => False) u14_2 u15_3 from hm)
        clear hm
        clear qsp qbk K1 Hx30
        refine QSeq.pure rfl _ (fun E => ex_move rfl (E.d 3 0)) ?_
        refine QSeq.pure rfl (.agg zSt.cells.toArray) (fun E => ex_extract rfl (E.d 4 0) rfl) ?_
        refine QSeq.pure rfl (.int .i64 5) (fun E => ex_extract rfl (E.d 4 1) rfl) ?_
        refine QSeq.go fun act E => ?_
        refine qc_alloc rfl (wanted_none rfl) rfl (z := [.int .i64 0, .int .i64 0, .int .i64 0, .int .u8 0, .int .u8 0, .int .u8 0, .int .u8 0, .int .u8 0, .int .u8 0, .int .u8 0, .int .u8 0, .int .u8 0, .int .u8 0, .int .u8 0, .int .u8 0, .int .u8 0, .int .u8 0, .int .u8 0, .int .u8 0, .int .u8 0, .int .u8 0, .int .u8 0, .int .u8 0, .int .u8 0, .int .u8 0, .int .u8 0, .int .u8 0, .int .u8 0, .int .u8 0, .int .u8 0, .int .u8 0, .int .u8 0, .int .u8 0, .int .u8 0, .int .u8 0, .int .u64 0, .int .i64 0, .int .i64 0]) (by kernel_rfl) ?_
        intro u15_7 qb15 hm
        have zl15_7 := qb15.lt
        have Hx79 := hid qb15
        have zu15_7 := hm.size
        have HMu15_7 := hid hm
        have Cx80 := hid (Cx78.out.goE hm)
        clear hm Cx78
        clear act E qb15
        refine QSeq.go fun act E => ?_
        have hlz : (zSt.cells).length = List.length ([.int .i64 0, .int .i64 0, .int .i64 0, .int .u8 0, .int .u8 0, .int .u8 0, .int .u8 0, .int .u8 0, .int .u8 0, .int .u8 0, .int .u8 0, .int .u8 0, .int .u8 0, .int .u8 0, .int .u8 0, .int .u8 0, .int .u8 0, .int .u8 0, .int .u8 0, .int .u8 0, .int .u8 0, .int .u8 0, .int .u8 0, .int .u8 0, .int .u8 0, .int .u8 0, .int .u8 0, .int .u8 0, .int .u8 0, .int .u8 0, .int .u8 0, .int .u8 0, .int .u8 0, .int .u8 0, .int .u8 0, .int .u64 0, .int .i64 0, .int .i64 0] : List Value) := (by rw [St.len zSt_ok]; rfl)
        refine qc_store rfl (wanted_none rfl) rfl Hx79.out (off := 0) (vs := zSt.cells) (by rw [hlz]; kernel_rfl) (St.one zSt) (by rw [hlz]; exact Nat.le_of_eq (Nat.zero_add _)) (E.d 7 0) (ec (E.d 5 2)) ?_
        intro u15_8 qc0 hm
        have qb15 := qc0.eqv (b := (zSt.cells : List Value).toArray) (lay_whole (#[.int .i64 0, .int .i64 0, .int .i64 0, .int .u8 0, .int .u8 0, .int .u8 0, .int .u8 0, .int .u8 0, .int .u8 0, .int .u8 0, .int .u8 0, .int .u8 0, .int .u8 0, .int .u8 0, .int .u8 0, .int .u8 0, .int .u8 0, .int .u8 0, .int .u8 0, .int .u8 0, .int .u8 0, .int .u8 0, .int .u8 0, .int .u8 0, .int .u8 0, .int .u8 0, .int .u8 0, .int .u8 0, .int .u8 0, .int .u8 0, .int .u8 0, .int .u8 0, .int .u8 0, .int .u8 0, .int .u8 0, .int .u64 0, .int .i64 0, .int .i64 0]) _ (by rw [hlz]; rfl))
        clear qc0 hlz
        have Hx81 := hid qb15
        have zu15_8 := hm.size
        have HMu15_8 := hid hm
        have Cx82 := hid (Mod.goS (S' := (fun _ => False)) Cx80.out hm (fun _ h => h) (by intro k h0 h2; omega))
        clear hm Cx80
        clear act E qb15 Hx79
        refine QSeq.pure rfl _ (fun E => ex_assign rfl (E.d 6 2)) ?_
        have Hx83 := hid ((Hx77.out.mod HMu15_7.out (fun _ _ h => h)).mod HMu15_8.out (by intro k h1 h2; omega))
        have Hx84 := hid ((Hx76.out.mod HMu15_7.out (fun _ _ h => h)).mod HMu15_8.out (by intro k h1 h2; omega))
        clear Hx77 Hx76 HMu15_7 HMu15_8
        refine QSeq.nil (t' := [_, _, _, _, _, _, _, _, _, _]) rfl ?_
        obtain rfl := HA0.out
        clear HA0 oe4 oe5 oe14
        simp only [pz, Act.put, List.setIfInBounds_toArray, List.set_cons_zero, List.set_cons_succ, List.set_nil]
        go_upto_region 16 with (fail)
        refine wp_region_U 199 [79, 80, 81, 78, 82, 83, 17, 206, 18] [0, 1, 2, 3, 4, 5, 6, 7, 8] (fun a0 HA0 => ?_)
        have oe8 := ev HA0 8 rfl
        have oe13 := ev HA0 13 rfl
        refine QSeq.pure rfl _ (fun E => ex_move rfl (E.v oe8)) ?_
        refine QSeq.pure rfl _ (fun E => ex_loadA rfl Try.underlying30 rfl (off := 0) (cs := [.int .i64 ((kc : Nat) : Int), .int .i64 ((k1 : Nat) : Int)]) (by kernel_rfl) (E.v oe13) (Cs.litA ((Hx24.out.mod Cx32.out (by intro h2; omega)).mod Cx82.out (fun h => h)) rfl)) ?_
        refine QSeq.pure rfl (.tuple #[y.val, .bool true]) (fun E => ex_lookI (k := (((kc : Nat) : Int), ((k1 : Nat) : Int))) rfl (E.d 0 1) (E.d 1 0) HNK.out ((((K3.out.mod Cx14.out (fun h => h)).mod Cx23.out (fun h => h)).mod Cx32.out (by intro h2; omega)).mod Cx82.out (fun h => h)) (lookV_some HML.out)) ?_
        refine QSeq.pure rfl _ (fun E => ex_move rfl (E.d 2 0)) ?_
        refine QSeq.pure rfl (y.val) (fun E => ex_extract rfl (E.d 3 0) rfl) ?_
        refine QSeq.pure rfl (.bool true) (fun E => ex_extract rfl (E.d 3 1) rfl) ?_
        refine QSeq.go fun act E => ?_
        refine qc_alloc rfl (wanted_none rfl) rfl (z := [.int .i64 0, .int .i64 0, .int .i64 0, .int .u8 0, .int .u8 0, .int .u8 0, .int .u8 0, .int .u8 0, .int .u8 0, .int .u8 0, .int .u8 0, .int .u8 0, .int .u8 0, .int .u8 0, .int .u8 0, .int .u8 0, .int .u8 0, .int .u8 0, .int .u8 0, .int .u8 0, .int .u8 0, .int .u8 0, .int .u8 0, .int .u8 0, .int .u8 0, .int .u8 0, .int .u8 0, .int .u8 0, .int .u8 0, .int .u8 0, .int .u8 0, .int .u8 0, .int .u8 0, .int .u8 0, .int .u8 0, .int .u64 0, .int .i64 0, .int .i64 0]) (by kernel_rfl) ?_
        intro u16_6 qb17 hm
        have zl16_6 := qb17.lt
        have Hx85 := hid qb17
        have zu16_6 := hm.size
        have Cx86 := hid (show Mod (fun _ => False) u15_8 u16_6 from hm)
        clear hm
        clear act E qb17
        refine QSeq.go fun act E => ?_
        have hlz : (y.cells).length = List.length ([.int .i64 0, .int .i64 0, .int .i64 0, .int .u8 0, .int .u8 0, .int .u8 0, .int .u8 0, .int .u8 0, .int .u8 0, .int .u8 0, .int .u8 0, .int .u8 0, .int .u8 0, .int .u8 0, .int .u8 0, .int .u8 0, .int .u8 0, .int .u8 0, .int .u8 0, .int .u8 0, .int .u8 0, .int .u8 0, .int .u8 0, .int .u8 0, .int .u8 0, .int .u8 0, .int .u8 0, .int .u8 0, .int .u8 0, .int .u8 0, .int .u8 0, .int .u8 0, .int .u8 0, .int .u8 0, .int .u8 0, .int .u64 0, .int .i64 0, .int .i64 0] : List Value) := (by rw [St.len HYO.out]; rfl)
        refine qc_store rfl (wanted_none rfl) rfl Hx85.out (off := 0) (vs := y.cells) (by rw [hlz]; kernel_rfl) (St.one y) (by rw [hlz]; exact Nat.le_of_eq (Nat.zero_add _)) (E.d 6 0) (ec (E.d 4 2)) ?_
        intro u16_7 qc0 hm
        have qb17 := qc0.eqv (b := (y.cells : List Value).toArray) (lay_whole (#[.int .i64 0, .int .i64 0, .int .i64 0, .int .u8 0, .int .u8 0, .int .u8 0, .int .u8 0, .int .u8 0, .int .u8 0, .int .u8 0, .int .u8 0, .int .u8 0, .int .u8 0, .int .u8 0, .int .u8 0, .int .u8 0, .int .u8 0, .int .u8 0, .int .u8 0, .int .u8 0, .int .u8 0, .int .u8 0, .int .u8 0, .int .u8 0, .int .u8 0, .int .u8 0, .int .u8 0, .int .u8 0, .int .u8 0, .int .u8 0, .int .u8 0, .int .u8 0, .int .u8 0, .int .u8 0, .int .u8 0, .int .u64 0, .int .i64 0, .int .i64 0]) _ (by rw [hlz]; rfl))
        clear qc0 hlz
        have Hx87 := hid qb17
        have zu16_7 := hm.size
        have HMu16_7 := hid hm
        have Cx88 := hid (Mod.goS (S' := (fun _ => False)) Cx86.out hm (fun _ h => h) (by intro k h0 h2; omega))
        clear hm Cx86
        clear act E qb17 Hx85
        refine QSeq.pure rfl _ (fun E => ex_assign rfl (E.d 5 2)) ?_
        clear HMu16_7
        refine QSeq.nil (t' := [_, _, _, _, _, _, _, _, _]) rfl ?_
        obtain rfl := HA0.out
        clear HA0 oe8 oe13
        simp only [pz, Act.put, List.setIfInBounds_toArray, List.set_cons_zero, List.set_cons_succ, List.set_nil]
        go_upto_region 17 with (fail)
        refine wp_region_U 199 [85, 86, 87, 88, 89, 90, 91, 92, 84] [0, 1, 2, 3, 4, 5, 6, 7, 8] (fun a0 HA0 => ?_)
        have oe14 := ev HA0 14 rfl
        have oe17 := ev HA0 17 rfl
        have oe18 := ev HA0 18 rfl
        refine QSeq.pure rfl _ (fun E => ex_move rfl (E.v oe18)) ?_
        refine QSeq.pure rfl _ (fun E => ex_move rfl (E.d 0 0)) ?_
        refine QSeq.pureG rfl (.pointer (some ⟨u15_8.heap.size, 3, none⟩)) (fun E => ((wanted_of rfl rfl (E.sz 86 (by decide)) (E.d 1 0)).trans rfl)) (fun E => ex_field rfl Try.underlying47 rfl (by kernel_rfl) (E.v oe17)) ?_
        refine QSeq.pureG rfl (hv y.h) (fun E => ((wanted_of rfl rfl (E.sz 86 (by decide)) (E.d 1 1)).trans rfl)) (fun E => ex_loadA rfl Try.underlying32 rfl (off := 3) (cs := y.h.map bv) (by rw [List.length_map, HYO.out.h.1]; exact size_hash) (E.d 2 0) (Cs.midA Hx87.out rfl)) ?_
        refine QSeq.pureG rfl (.pointer (some ⟨b14, 2, none⟩)) (fun E => ((wanted_of rfl rfl (E.sz 86 (by decide)) (E.d 1 2)).trans rfl)) (fun E => ex_field rfl Try.underlying36 rfl (by kernel_rfl) (E.v oe14)) ?_
        refine QSeq.pureG rfl (hv ca.h) (fun E => ((wanted_of rfl rfl (E.sz 86 (by decide)) (E.d 1 3)).trans rfl)) (fun E => ex_loadA rfl Try.underlying32 rfl (off := 2) (cs := ca.h.map bv) (by rw [List.length_map, HMDa.out.ok.2.1]; exact size_hash) (E.d 4 0) (((Hx33.out.mod Cx82.out (fun h => h)).mod Cx88.out (fun h => h)).hash)) ?_
        refine QSeq.pureG rfl (.bool false) (fun E => ((wanted_of rfl rfl (E.sz 86 (by decide)) (E.d 1 4)).trans rfl)) (fun E => ex_binE rfl (E.d 3 2) (E.d 5 0) (agg_guardE _ _ _ _ _ _ (by kernel_rfl) _) (run_eql_hv HYO.out.h.1 HMDa.out.ok.2.1 (c := false) (by simp only [Bool.false_eq_true, false_iff]; exact hhe) _) rfl) ?_
        refine QSeq.pure rfl (.bool false) (fun E => ex_pick rfl (E.d 1 5) (E.d 6 0) rfl) ?_
        refine QSeq.pure rfl _ (fun E => ex_assign rfl (E.d 7 0)) ?_
        refine QSeq.nil (t' := [_, _, _, _, _, _, _, _, _]) rfl ?_
        obtain rfl := HA0.out
        clear HA0 oe14 oe17 oe18
        simp only [pz, Act.put, List.setIfInBounds_toArray, List.set_cons_zero, List.set_cons_succ]
        go_upto_region 20 with (fail)
        refine wp_region_U 199 [101, 100] [0, 1] (fun a0 HA0 => ?_)
        have oe18 := ev HA0 18 rfl
        refine QSeq.pure rfl _ (fun E => ex_move rfl (E.v oe18)) ?_
        refine QSeq.pure rfl _ (fun E => ex_assign rfl (E.d 0 0)) ?_
        refine QSeq.nil (t' := [_, _]) rfl ?_
        obtain rfl := HA0.out
        clear HA0 oe18
        simp only [pz, Act.put, List.setIfInBounds_toArray, List.set_cons_zero, List.set_cons_succ]
        go_upto_region 21 with (fail)
        refine wp_region_U 199 [102, 103] [0, 1] (fun a0 HA0 => ?_)
        have oe16 := ev HA0 16 rfl
        refine QSeq.pure rfl _ (fun E => ex_move rfl (E.v oe16)) ?_
        refine QSeq.pure rfl (.bool false) (fun E => ex_binE rfl (E.d 0 0) rfl (guard_ints _ _ _ _ _ _) (run_neq_i _ _ _ Try.underlying40) (congrArg Value.bool (show _ = false from rfl))) ?_
        refine QSeq.nil (t' := [_, _]) rfl ?_
        obtain rfl := HA0.out
        clear HA0 oe16
        simp only [pz, Act.put, List.setIfInBounds_toArray, List.set_cons_zero, List.set_cons_succ]
        clear Hx24
        clear Hx33
        clear Hx81
        clear Hx87
        go_upto_region 10 with (fail)
        refine wp_region_U 199 [45, 46, 9] [0, 1, 2] (fun a0 HA0 => ?_)
        have oe9 := ev HA0 9 rfl
        refine QSeq.pure rfl _ (fun E => ex_move rfl (E.y 2 oe9)) ?_
        refine QSeq.pure rfl (.int .i64 (((i + 1) : Nat) : Int)) (fun E => ex_binE rfl (E.d 0 0) rfl (guard_ints _ _ _ _ _ _) (run_add_i _ _ Try.underlying3) (congrArg (Value.int .i64) (i64_eq (b := (((i + 1) : Nat) : Int)) (by omega) (by omega) (by omega)))) ?_
        refine QSeq.pure rfl _ (fun E => ex_assign rfl (E.d 1 0)) ?_
        refine QSeq.nil (t' := [_, _, _]) rfl ?_
        obtain rfl := HA0.out
        clear HA0 oe9
        simp only [pz, Act.put, List.setIfInBounds_toArray, List.set_cons_zero, List.set_cons_succ]
        go_wp2
        go_roundw
        case rel => exact ⟨i + 1, s, La, rfl, rfl, by omega, by omega, by omega, (Hx84.out.mod Cx88.out (fun _ _ h => h)), (Hx83.out.mod Cx88.out (fun _ _ h => h)), (((((K3.out.mod Cx14.out (fun h => h)).mod Cx23.out (fun h => h)).mod Cx32.out (by intro h2; omega)).mod Cx82.out (fun h => h)).mod Cx88.out (fun h => h)), (((((K4.out.mod Cx14.out (fun _ _ h => h)).mod Cx23.out (fun _ _ h => h)).mod Cx32.out (by intro k h1 h2; omega)).mod Cx82.out (fun _ _ h => h)).mod Cx88.out (fun _ _ h => h)), (((((K5.out.trans Cx14.out (fun _ _ h => h.elim)).trans Cx23.out (fun _ _ h => h.elim)).trans Cx32.out (by intro k h1 h2; omega)).trans Cx82.out (fun _ _ h => h.elim)).trans Cx88.out (fun _ _ h => h.elim))⟩
        case measure => simp [intOf]; omega
  ·obtain rfl : pb7 = false := HB7.out.trans (by rw [Bool.eq_false_iff]; intro h; simp only [Bool.and_eq_true, decide_eq_true_eq] at h; omega)
   go_upto_region 38 with (fail)
   refine wp_region_U 199 [191, 192, 193, 194, 195, 196, 197, 198, 2] [0, 1, 2, 3, 4, 5, 6, 7, 8] (fun a0 HA0 => ?_)
   have oe5 := ev HA0 5 rfl
   have oe8 := ev HA0 8 rfl
   refine QSeq.pure rfl _ (fun E => ex_move rfl (E.v oe5)) ?_
   refine QSeq.go fun act E => ?_
   refine qc_callF (args := #[.pointer (some ⟨p, 0, none⟩)]) rfl (wanted_none rfl) rfl Try.func17 (args1 (E.d 0 0)) (SLen_Q K1.out) ?_
   rintro e w2 ⟨rfl, hw2⟩
   obtain rfl : wl = w2 := by first | exact hw2 | exact hw2.symm
   refine ⟨_, rfl, ?_⟩
   clear act E
   refine QSeq.pure rfl _ (fun E => ex_move rfl (E.v oe8)) ?_
   refine QSeq.pure rfl (.int .i64 ((s.m.length : Nat) : Int)) (fun E => ex_lenM rfl (E.d 2 0) K3.out) ?_
   refine QSeq.pure rfl (.bool true) (fun E => ex_binE rfl (E.d 1 2) (E.d 3 0) (guard_ints _ _ _ _ _ _) (run_eql_i _ _ _ Try.underlying3) (congrArg Value.bool (eq_tt rfl))) ?_
   refine QSeq.pure rfl _ (fun E => ex_move rfl (E.d 4 0)) ?_
   refine QSeq.go fun act E => ?_
   refine qc_callF (args := #[]) rfl ((wanted_of rfl rfl (E.sz 196 (by decide)) (E.d 5 0)).trans rfl) rfl Try.func18 args0 (wakes09 _) ?_
   rintro e u38_6 ⟨rfl, hm⟩
   refine ⟨_, rfl, ?_⟩
   have zu38_6 := hm.size
   have Cx89 := hid (show Mod (fun _ => False) wl u38_6 from hm)
   clear hm
   clear act E
   refine QSeq.pure rfl (.bool true) (fun E => ex_pick rfl (E.d 5 1) (E.d 6 0) rfl) ?_
   refine QSeq.pure rfl _ (fun E => ex_assign rfl (E.d 7 0)) ?_
   refine QSeq.nil (t' := [_, _, _, _, _, _, _, _, _]) rfl ?_
   obtain rfl := HA0.out
   clear HA0 oe5 oe8
   simp only [pz, Act.put, List.setIfInBounds_toArray, List.set_cons_zero, List.set_cons_succ]
   go_wp2
   go_ret
   exact ⟨rfl, (K5.out.trans Cx89.out (fun _ _ h => h.elim))⟩
end Go.Proofs.Ytbifincepglilaa

namespace Go.Proofs.Ytbifincepglilaa.stampRises
open Go Go.RowKit Go.Gv Go.ChangeShapes Go.WideShapes Go.ChangeAt
open Go.ChangeMaps (open_string shut_string)

theorem own : ownKnob Try.prog.godebug = none := by kernel_rfl
theorem laidOut : laidOutB Try.prog = true := by kernel_rfl

theorem lifted (os : Os) (started : os.Started) (H : Type) (enc : TypeId × Value → H) :
    ReturnsInHanded {} Try.checked os 5 .any (Rows.stampRisesSpec.pre6 enc Try.prog Try.f5 Rows.stampRisesRow.domain false) (Rows.stampRisesSpec.post enc Try.prog Try.f5 false true false false) := by
  refine returnsInHanded_of_change (C := Try.checked) own started (by kernel_rfl) Try.func5
    (ChangeSpec.witness6 (enc := enc) (C := Try.checked) false ⟨#[], #[.slice none 0 0], []⟩ 8 (by kernel_rfl) (by kernel_rfl) (by kernel_rfl) (by kernel_rfl)) ?_
  intro W base args ds gs before hval0 hW hcnd _
  have hval : ∀ (j : Nat) t v, Try.f5.params[j]? = some t → args[j]? = some v → Value.okWide Try.prog W .any base t v := hval0
  have hW' := hW
  obtain ⟨p, q, hA0, hV, rfl, hfz, hnd⟩ := hW
  have hA : DataW.TrodAll enc Try.prog W 0 (fun _ => true) true Try.f5.params.toList args.toList ds p := hA0
  rw [Try.params5] at hA hval
  obtain ⟨v0, vs0, d0, ds0, p0, q0, hargs, rfl, rfl, h0, r0⟩ := trodAll_cons hA
  obtain ⟨rfl, rfl, rfl⟩ := trodAll_nil r0
  obtain rfl : args = #[v0] := by cases args; simp_all
  obtain ⟨rfl, rfl⟩ := trodVars_none hV
  have k0 := h0
  have lt0 : ∀ x ∈ p0, x.block < W.heap.size := by obtain ⟨m, hm⟩ := k0; exact DataW.trod_lt m _ _ _ hm
  obtain ⟨l0, e0⟩ := slice_arg reads_sa Try.underlying56 (by kernel_rfl) k0 (hval 0 56 v0 rfl rfl)
  clear hA0 hval0
  refine (StampRises_walk l0 v0 W e0).mono fun e W' ⟨he, hmod⟩ => ?_
  subst he
  have bel : Below W.heap.size W W' := hmod.below (Nat.le_refl _) (fun _ _ => id)
  exact ⟨_, rfl, _, _, _, [], _, [], hW', trodAll_mk1 (shut_bool Try.underlying4 _), (trodAll_cons_mk (Below.trod laidOut (by kernel_rfl) (of_decide_eq_true (by kernel_rfl)) k0 bel lt0) trodAll_mk0), rfl, bel.frame _, fun h => by cases h⟩

theorem over : Rows.stampRisesRow.holds Try.pinned (OpenSpec.ofChange Rows.stampRisesSpec) :=
  OpenClaim.holds_of_wide 5 Try.f5 rfl rfl rfl rfl rfl rfl rfl ⟨rfl, rfl, rfl, rfl, rfl⟩ rfl rfl rfl rfl rfl (by kernel_rfl) Try.func5 (by kernel_rfl)
    (of_decide_eq_true (by kernel_rfl)) (by unfold Func.isWrapper; first | (rw [if_pos (by decide +kernel)]; kernel_rfl) | (rw [if_neg (by decide +kernel)]; exact ⟨rfl, rfl⟩))
    (fun os started H enc _ => lifted os started H enc)

theorem proved : Rows.StampRisesSaid := over
end Go.Proofs.Ytbifincepglilaa.stampRises
