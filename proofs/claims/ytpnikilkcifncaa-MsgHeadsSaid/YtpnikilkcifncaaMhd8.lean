/- MsgHeads: for every three numbers the law returns true. No condition. -/
import Derived.Test.YtpnikilkcifncaaMhd7
import Derived.ProofKit
import Derived.OpenShut
import Derived.ChangeOld
set_option maxRecDepth 100000
set_option linter.unusedVariables false
/- MsgHeads: the walk. -/
namespace Go.Proofs.Ytpnikilkcifncaa
open Go Go.RowKit Go.Gv

theorem callsP2 {P : Program} {F : FuncId} {args : Array Value} {w : World} {b c : Bool} {Q : List Value → World → Prop} (h : b = c) (hc : Calls P F args w fun e w' => ∃ cs, e = .returned (.tuple #[.agg cs.toArray, .bool b]) ∧ Q cs w') : Calls P F args w fun e w' => ∃ cs, e = .returned (.tuple #[.agg cs.toArray, .bool c]) ∧ Q cs w' := h ▸ hc
theorem RdR_at0 {R : Nat → Prop} {N : Nat} {w : World} {ao : Option Addr} {n cap : Nat} {bs l : List Int} {k : Int} (h : RdR R N w (.slice ao n cap) bs) (hb : bs = k :: l) : ∃ g o, ao = some ⟨g, o, none⟩ ∧ R g ∧ ∀ j u, [Value.int .u8 k][j]? = some u → w.cell? ⟨g, o + 0 * 1 + j, none⟩ = some u := by
  subst hb
  obtain ⟨⟨_, h1⟩, h2, _⟩ := h
  rcases h1.form (by decide) with ⟨h0, _⟩ | ⟨g, o, cap', hp, e, _, _, _, hc⟩
  · simp at h0
  · simp only [Value.slice.injEq] at e
    obtain ⟨rfl, rfl, rfl⟩ := e
    refine ⟨g, o, rfl, h2 (by simp) g rfl, fun j u hu => ?_⟩
    cases j with
    | zero => cases hu; exact hc 0 _ rfl
    | succ j => simp at hu
set_option maxHeartbeats 8000000 in
theorem LHeads_any (kd fr to_ : Int) (w : World) (hk : I64 kd) (hf : I64 fr) (ht : I64 to_) : Calls Try.prog 9 #[.int .i64 kd, .int .i64 fr, .int .i64 to_] w fun e w' => e = .returned (.bool true) ∧ Mod (fun _ => False) w w' := by
  have HK0 := Lib.hid hk
  have HF0 := Lib.hid hf
  have HT0 := Lib.hid ht
  clear hk hf ht
  go_enter Try.func9, Try.ntmps9
  go_upto_region 1 with (fail)
  have HM0 := hid (Mod.refl (fun _ => False) w)
  obtain ⟨k, hk, hk1, hk2⟩ : ∃ z : Int, 1 + within kd 14 = z ∧ 1 ≤ z ∧ z ≤ 14 := ⟨_, rfl, by have := within_range kd 14 (by decide); omega, by have := within_range kd 14 (by decide); omega⟩
  have HEk := Lib.hid hk
  have HRk := hid (And.intro hk1 hk2)
  clear hk hk1 hk2
  obtain ⟨f, hf, hf1, hf2⟩ : ∃ z : Int, within fr 2000 = z ∧ 0 ≤ z ∧ z ≤ 1999 := ⟨_, rfl, by have := within_range fr 2000 (by decide); omega, by have := within_range fr 2000 (by decide); omega⟩
  have HEf := Lib.hid hf
  have HRf := hid (And.intro hf1 hf2)
  clear hf hf1 hf2
  obtain ⟨t, ht, ht1, ht2⟩ : ∃ z : Int, within to_ 2000 = z ∧ 0 ≤ z ∧ z ≤ 1999 := ⟨_, rfl, by have := within_range to_ 2000 (by decide); omega, by have := within_range to_ 2000 (by decide); omega⟩
  have HEt := Lib.hid ht
  have HRt := hid (And.intro ht1 ht2)
  clear ht ht1 ht2
  go_upto_region 1 with (fail)
  refine wp_region_U 95 [15, 16, 17, 18, 19, 20, 21, 0, 1, 2] [0, 1, 2, 3, 4, 5, 6, 7, 8, 9] (fun a0 HA0 => ?_)
  have oe0 := ev HA0 0 rfl
  have oe1 := ev HA0 1 rfl
  have oe2 := ev HA0 2 rfl
  refine QSeq.pure rfl _ (fun E => ex_move rfl (E.y 7 oe0)) ?_
  refine QSeq.go fun act E => ?_
  refine qc_callF (args := #[.int .i64 kd, .int .i64 14]) rfl (wanted_none rfl) rfl Try.func10 (args2 (E.d 0 0) rfl) (Within_any kd 14 (by decide) (by decide) HK0.out _) ?_
  rintro e w2 ⟨rfl, hw2⟩
  obtain rfl : w = w2 := by first | exact hw2 | exact hw2.symm
  refine ⟨_, rfl, ?_⟩
  clear act E
  refine QSeq.pure rfl (.int .i64 k) (fun E => ex_binE rfl rfl (E.d 1 0) (guard_ints _ _ _ _ _ _) (run_add_i _ _ Try.underlying3) (congrArg (Value.int .i64) ((congrArg IntKind.i64.wrap HEk.out).trans (IntWalk.i64_in _ (by have h9 := HRk.out; omega))))) ?_
  refine QSeq.pure rfl _ (fun E => ex_move rfl (E.y 8 oe1)) ?_
  refine QSeq.go fun act E => ?_
  refine qc_callF (args := #[.int .i64 fr, .int .i64 2000]) rfl (wanted_none rfl) rfl Try.func10 (args2 (E.d 3 0) rfl) (Within_any fr 2000 (by decide) (by decide) HF0.out _) ?_
  rintro e w2 ⟨rfl, hw2⟩
  obtain rfl : w = w2 := by first | exact hw2 | exact hw2.symm
  refine ⟨_, rfl, ?_⟩
  clear act E
  refine QSeq.pure rfl _ (fun E => ex_move rfl (E.y 9 oe2)) ?_
  refine QSeq.go fun act E => ?_
  refine qc_callF (args := #[.int .i64 to_, .int .i64 2000]) rfl (wanted_none rfl) rfl Try.func10 (args2 (E.d 5 0) rfl) (Within_any to_ 2000 (by decide) (by decide) HT0.out _) ?_
  rintro e w2 ⟨rfl, hw2⟩
  obtain rfl : w = w2 := by first | exact hw2 | exact hw2.symm
  refine ⟨_, rfl, ?_⟩
  clear act E
  refine QSeq.pure rfl _ (fun E => ex_assign rfl (E.d 2 4)) ?_
  refine QSeq.pure rfl _ (fun E => ex_assign rfl (E.d 4 3)) ?_
  refine QSeq.pure rfl _ (fun E => ex_assign rfl (E.d 6 2)) ?_
  refine QSeq.nil (t' := [_, _, _, _, _, _, _, _, _, _]) rfl ?_
  obtain rfl := HA0.out
  clear HA0 oe0 oe1 oe2
  simp only [pz, Act.put, List.setIfInBounds_toArray, List.set_cons_zero, List.set_cons_succ]
  rw [HEf.out, HEt.out]
  have HIk := hid (show I64 k by have h9 := HRk.out; unfold I64; omega)
  have HIf := hid (show I64 f by have h9 := HRf.out; unfold I64; omega)
  have HIt := hid (show I64 t by have h9 := HRt.out; unfold I64; omega)
  have HKO := hid (show okKd k = true by have h9 := HRk.out; unfold okKd; rw [decide_eq_true_eq]; omega)
  have HPK := hid (packs_mg0 HKO.out HIk.out HIf.out HIt.out)
  have HU := hid (unpack_mg0 HKO.out (show UpI k by have h9 := HRk.out; unfold UpI; omega) (show UpI f by have h9 := HRf.out; unfold UpI; omega) (show UpI t by have h9 := HRt.out; unfold UpI; omega))
  obtain ⟨bs, hbs⟩ : ∃ bs, bs = packB (mg0 k f t) := ⟨_, rfl⟩
  obtain ⟨l, hl⟩ := packB_head (x := mg0 k f t) HKO.out
  have HBS := hid (hbs.trans hl)
  have HB2 := Lib.hid hbs
  clear hl hbs
  rw [← HB2.out] at HU
  go_upto_region 2 with (fail)
  refine wp_region_U 95 [23, 24, 25, 26, 27, 22, 28, 29, 7, 8] [0, 1, 2, 3, 4, 5, 6, 7, 8, 9] (fun a0 HA0 => ?_)
  have oe0 := ev HA0 0 rfl
  have oe1 := ev HA0 1 rfl
  have oe2 := ev HA0 2 rfl
  refine QSeq.pure rfl _ (fun E => ex_move rfl (E.v oe0)) ?_
  refine QSeq.pure rfl _ (fun E => ex_move rfl (E.v oe1)) ?_
  refine QSeq.pure rfl _ (fun E => ex_move rfl (E.v oe2)) ?_
  refine QSeq.go fun act E => ?_
  refine qc_run rfl (wanted_none rfl) (v := .agg ((mg0C k f t) : List Value).toArray) (ex_build rfl (z := [.int .i64 0, .int .i64 0, .int .i64 0, .int .i64 0, .int .i64 0, .int .u8 0, .int .u8 0, .int .u8 0, .int .u8 0, .int .u8 0, .int .u8 0, .int .u8 0, .int .u8 0, .int .u8 0, .int .u8 0, .int .u8 0, .int .u8 0, .int .u8 0, .int .u8 0, .int .u8 0, .int .u8 0, .int .u8 0, .int .u8 0, .int .u8 0, .int .u8 0, .int .u8 0, .int .u8 0, .int .u8 0, .int .u8 0, .int .u8 0, .int .u8 0, .int .u8 0, .int .u8 0, .int .u8 0, .int .u8 0, .int .u8 0, .int .u8 0, .int .i64 0, .int .i64 0, .int .i64 0, .int .i64 0, .int .i64 0, .int .i64 0, .int .u8 0, .int .u8 0, .int .u8 0, .int .u8 0, .int .u8 0, .int .u8 0, .int .u8 0, .int .u8 0, .int .u8 0, .int .u8 0, .int .u8 0, .int .u8 0, .int .u8 0, .int .u8 0, .int .u8 0, .int .u8 0, .int .u8 0, .int .u8 0, .int .u8 0, .int .u8 0, .int .u8 0, .int .u8 0, .int .u8 0, .int .u8 0, .int .u8 0, .int .u8 0, .int .u8 0, .int .u8 0, .int .u8 0, .int .u8 0, .int .u8 0, .int .u8 0, .int .u64 0, .int .i64 0, .int .i64 0, .int .i64 0, .int .i64 0, .int .u8 0, .int .u8 0, .int .u8 0, .int .u8 0, .int .u8 0, .int .u8 0, .int .u8 0, .int .u8 0, .int .u8 0, .int .u8 0, .int .u8 0, .int .u8 0, .int .u8 0, .int .u8 0, .int .u8 0, .int .u8 0, .int .u8 0, .int .u8 0, .int .u8 0, .int .u8 0, .int .u8 0, .int .u8 0, .int .u8 0, .int .u8 0, .int .u8 0, .int .u8 0, .int .u8 0, .int .u8 0, .int .u8 0, .int .u8 0, .int .u8 0, .int .u8 0, .int .i64 0, .int .i64 0, .int .i64 0, .slice none 0 0, .int .i64 0, .int .i64 0, .int .i64 0, .int .u8 0, .int .u8 0, .int .u8 0, .int .u8 0, .int .u8 0, .int .u8 0, .int .u8 0, .int .u8 0, .int .u8 0, .int .u8 0, .int .u8 0, .int .u8 0, .int .u8 0, .int .u8 0, .int .u8 0, .int .u8 0, .int .u8 0, .int .u8 0, .int .u8 0, .int .u8 0, .int .u8 0, .int .u8 0, .int .u8 0, .int .u8 0, .int .u8 0, .int .u8 0, .int .u8 0, .int .u8 0, .int .u8 0, .int .u8 0, .int .u8 0, .int .u8 0, .int .u64 0, .int .i64 0, .int .i64 0, .int .i64 0, .int .i64 0, .int .u64 0, .int .i64 0, .int .i64 0, .int .u64 0, .slice none 0 0, .int .i64 0, .int .i64 0, .int .i64 0, .int .i64 0, .int .i64 0, .int .i64 0, .int .i64 0, .int .u64 0, .slice none 0 0, .slice none 0 0, .slice none 0 0, .int .i64 0, .int .i64 0, .int .i64 0, .int .i64 0, .int .i64 0, .int .i64 0, .int .u8 0, .int .u8 0, .int .u8 0, .int .u8 0, .int .u8 0, .int .u8 0, .int .u8 0, .int .u8 0, .int .u8 0, .int .u8 0, .int .u8 0, .int .u8 0, .int .u8 0, .int .u8 0, .int .u8 0, .int .u8 0, .int .u8 0, .int .u8 0, .int .u8 0, .int .u8 0, .int .u8 0, .int .u8 0, .int .u8 0, .int .u8 0, .int .u8 0, .int .u8 0, .int .u8 0, .int .u8 0, .int .u8 0, .int .u8 0, .int .u8 0, .int .u8 0, .int .i64 0, .int .i64 0, .int .i64 0, .int .i64 0, .int .i64 0, .int .u8 0, .int .u8 0, .int .u8 0, .int .u8 0, .int .u8 0, .int .u8 0, .int .u8 0, .int .u8 0, .int .u8 0, .int .u8 0, .int .u8 0, .int .u8 0, .int .u8 0, .int .u8 0, .int .u8 0, .int .u8 0, .int .u8 0, .int .u8 0, .int .u8 0, .int .u8 0, .int .u8 0, .int .u8 0, .int .u8 0, .int .u8 0, .int .u8 0, .int .u8 0, .int .u8 0, .int .u8 0, .int .u8 0, .int .u8 0, .int .u8 0, .int .u8 0, .int .u64 0, .int .i64 0, .slice none 0 0, .int .u8 0, .int .u8 0, .int .u8 0, .int .u8 0, .int .u8 0, .int .u8 0, .int .u8 0, .int .u8 0, .int .u8 0, .int .u8 0, .int .u8 0, .int .u8 0, .int .u8 0, .int .u8 0, .int .u8 0, .int .u8 0, .int .u8 0, .int .u8 0, .int .u8 0, .int .u8 0, .int .u8 0, .int .u8 0, .int .u8 0, .int .u8 0, .int .u8 0, .int .u8 0, .int .u8 0, .int .u8 0, .int .u8 0, .int .u8 0, .int .u8 0, .int .u8 0, .int .i64 0, .int .i64 0, .int .i64 0, .int .i64 0, .string ByteArray.empty, .int .i64 0, .int .i64 0, .int .i64 0, .int .u64 0, .slice none 0 0, .slice none 0 0, .slice none 0 0, .slice none 0 0]) (places := [(0, 1), (1, 1), (2, 1), (3, 37), (40, 38), (78, 38), (116, 38), (154, 1), (155, 1), (156, 1), (157, 6), (163, 11), (174, 38), (212, 1), (213, 35), (248, 34), (282, 4), (286, 1), (287, 8)]) (by kernel_rfl) (parts := [(0, .int .i64 k), (1, .int .i64 f), (2, .int .i64 t)]) (by simp only [List.map_toArray, List.map_cons, List.map_nil, show act.eval (.tmp 23) = .int .i64 k from (E.d 0 2), show act.eval (.tmp 24) = .int .i64 f from (E.d 1 1), show act.eval (.tmp 25) = .int .i64 t from (E.d 2 0)]; try rfl) (r := (mg0C k f t)) (by exact (laid_segs (ns := mgN) rfl [(0, .int .i64 k), (1, .int .i64 f), (2, .int .i64 t)] (zMg.segs (zCe.cells zS) (zPm.cells zS) (zPr.cells zS zS zS) (zOp.cells zS) (zDc.cells zS zS zS zS)) rfl ⟨rfl, rfl, rfl, trivial⟩).trans rfl)) ?_
  clear act E
  refine QSeq.call rfl rfl Try.func29 (callsP HPK.out (Pack_Q _ _ (mg0 k f t) _ (mg0_rd (k := k) (f := f) (t := t) HIk.out HIf.out HIt.out (fun _ => False) _) (fun _ h => h.elim) (Nat.le_trans (packB_mg0_len HIk.out HIf.out HIt.out) (by decide)))) (fun E => args1 (E.d 3 0)) ?_
  rintro e u2_4 ⟨vpb, rfl, qpb, hm⟩
  rw [HPK.out] at qpb
  replace qpb := (show OwR _ _ _ _ (packB (mg0 k f t)) from qpb)
  rw [← HB2.out] at qpb
  obtain ⟨aopb, cappb, rfl⟩ := qpb.shape
  refine ⟨_, rfl, ?_⟩
  have Hx1 := hid qpb
  have zu2_4 := hm.size
  have Cx2 := hid (show Mod (fun _ => False) w u2_4 from hm)
  clear hm
  clear qpb
  refine QSeq.pure rfl _ (fun E => ex_move rfl (E.d 4 0)) ?_
  refine QSeq.pure rfl (.slice aopb ((bs).length) cappb) (fun E => ex_extract rfl (E.d 5 0) rfl) ?_
  refine QSeq.pure rfl (.bool true) (fun E => ex_extract rfl (E.d 5 1) rfl) ?_
  refine QSeq.pure rfl _ (fun E => ex_assign rfl (E.d 6 1)) ?_
  refine QSeq.pure rfl _ (fun E => ex_assign rfl (E.d 7 1)) ?_
  refine QSeq.nil (t' := [_, _, _, _, _, _, _, _, _, _]) rfl ?_
  obtain rfl := HA0.out
  clear HA0 oe0 oe1 oe2
  simp only [pz, Act.put, List.setIfInBounds_toArray, List.set_cons_zero, List.set_cons_succ]
  go_upto_region 3 with (fail)
  refine wp_region_U 95 [31, 32, 30, 33, 34, 9, 101, 10] [0, 1, 2, 3, 4, 5, 6, 7] (fun a0 HA0 => ?_)
  have oe7 := ev HA0 7 rfl
  refine QSeq.pure rfl _ (fun E => ex_move rfl (E.v oe7)) ?_
  refine QSeq.call rfl rfl Try.func33 (callsP2 (show (unpackB bs).isSome = true by rw [HU.out]; rfl) (Unpack_Q _ _ bs _ Hx1.out.rd (by intro k h1; omega))) (fun E => args1 (E.d 0 0)) ?_
  rintro e u3_1 ⟨cu, rfl, qmu, hm⟩
  rw [HU.out] at qmu
  replace qmu := (show MgR.rd _ _ _ (mg0 k f t) from qmu)
  obtain ⟨c5, c10, c11, c15, c18, rfl, hok, h5, h10, h11, h15, h18⟩ := qmu
  have HLN := hid (Mg.lns hok h5 h10 h11 h15 h18)
  have qmu : MgR.rd _ _ _ (mg0 k f t) := ⟨c5, c10, c11, c15, c18, rfl, hok, h5, h10, h11, h15, h18⟩
  have HCM := hid (MgR.len qmu)
  have HCO := hid (MgR.one qmu)
  clear hok h5 h10 h11 h15 h18
  refine ⟨_, rfl, ?_⟩
  have Hx3 := hid qmu
  have zu3_1 := hm.size
  have Cx4 := hid (show Mod (fun _ => False) u2_4 u3_1 from hm)
  clear hm
  clear qmu
  refine QSeq.pure rfl _ (fun E => ex_move rfl (E.d 1 0)) ?_
  refine QSeq.pure rfl (.agg (((mg0 k f t).segs c5 c10 c11 c15 c18).flatten).toArray) (fun E => ex_extract rfl (E.d 2 0) rfl) ?_
  refine QSeq.pure rfl (.bool true) (fun E => ex_extract rfl (E.d 2 1) rfl) ?_
  refine QSeq.go fun act E => ?_
  refine qc_alloc rfl (wanted_none rfl) rfl (z := [.int .i64 0, .int .i64 0, .int .i64 0, .int .i64 0, .int .i64 0, .int .u8 0, .int .u8 0, .int .u8 0, .int .u8 0, .int .u8 0, .int .u8 0, .int .u8 0, .int .u8 0, .int .u8 0, .int .u8 0, .int .u8 0, .int .u8 0, .int .u8 0, .int .u8 0, .int .u8 0, .int .u8 0, .int .u8 0, .int .u8 0, .int .u8 0, .int .u8 0, .int .u8 0, .int .u8 0, .int .u8 0, .int .u8 0, .int .u8 0, .int .u8 0, .int .u8 0, .int .u8 0, .int .u8 0, .int .u8 0, .int .u8 0, .int .u8 0, .int .i64 0, .int .i64 0, .int .i64 0, .int .i64 0, .int .i64 0, .int .i64 0, .int .u8 0, .int .u8 0, .int .u8 0, .int .u8 0, .int .u8 0, .int .u8 0, .int .u8 0, .int .u8 0, .int .u8 0, .int .u8 0, .int .u8 0, .int .u8 0, .int .u8 0, .int .u8 0, .int .u8 0, .int .u8 0, .int .u8 0, .int .u8 0, .int .u8 0, .int .u8 0, .int .u8 0, .int .u8 0, .int .u8 0, .int .u8 0, .int .u8 0, .int .u8 0, .int .u8 0, .int .u8 0, .int .u8 0, .int .u8 0, .int .u8 0, .int .u8 0, .int .u64 0, .int .i64 0, .int .i64 0, .int .i64 0, .int .i64 0, .int .u8 0, .int .u8 0, .int .u8 0, .int .u8 0, .int .u8 0, .int .u8 0, .int .u8 0, .int .u8 0, .int .u8 0, .int .u8 0, .int .u8 0, .int .u8 0, .int .u8 0, .int .u8 0, .int .u8 0, .int .u8 0, .int .u8 0, .int .u8 0, .int .u8 0, .int .u8 0, .int .u8 0, .int .u8 0, .int .u8 0, .int .u8 0, .int .u8 0, .int .u8 0, .int .u8 0, .int .u8 0, .int .u8 0, .int .u8 0, .int .u8 0, .int .u8 0, .int .i64 0, .int .i64 0, .int .i64 0, .slice none 0 0, .int .i64 0, .int .i64 0, .int .i64 0, .int .u8 0, .int .u8 0, .int .u8 0, .int .u8 0, .int .u8 0, .int .u8 0, .int .u8 0, .int .u8 0, .int .u8 0, .int .u8 0, .int .u8 0, .int .u8 0, .int .u8 0, .int .u8 0, .int .u8 0, .int .u8 0, .int .u8 0, .int .u8 0, .int .u8 0, .int .u8 0, .int .u8 0, .int .u8 0, .int .u8 0, .int .u8 0, .int .u8 0, .int .u8 0, .int .u8 0, .int .u8 0, .int .u8 0, .int .u8 0, .int .u8 0, .int .u8 0, .int .u64 0, .int .i64 0, .int .i64 0, .int .i64 0, .int .i64 0, .int .u64 0, .int .i64 0, .int .i64 0, .int .u64 0, .slice none 0 0, .int .i64 0, .int .i64 0, .int .i64 0, .int .i64 0, .int .i64 0, .int .i64 0, .int .i64 0, .int .u64 0, .slice none 0 0, .slice none 0 0, .slice none 0 0, .int .i64 0, .int .i64 0, .int .i64 0, .int .i64 0, .int .i64 0, .int .i64 0, .int .u8 0, .int .u8 0, .int .u8 0, .int .u8 0, .int .u8 0, .int .u8 0, .int .u8 0, .int .u8 0, .int .u8 0, .int .u8 0, .int .u8 0, .int .u8 0, .int .u8 0, .int .u8 0, .int .u8 0, .int .u8 0, .int .u8 0, .int .u8 0, .int .u8 0, .int .u8 0, .int .u8 0, .int .u8 0, .int .u8 0, .int .u8 0, .int .u8 0, .int .u8 0, .int .u8 0, .int .u8 0, .int .u8 0, .int .u8 0, .int .u8 0, .int .u8 0, .int .i64 0, .int .i64 0, .int .i64 0, .int .i64 0, .int .i64 0, .int .u8 0, .int .u8 0, .int .u8 0, .int .u8 0, .int .u8 0, .int .u8 0, .int .u8 0, .int .u8 0, .int .u8 0, .int .u8 0, .int .u8 0, .int .u8 0, .int .u8 0, .int .u8 0, .int .u8 0, .int .u8 0, .int .u8 0, .int .u8 0, .int .u8 0, .int .u8 0, .int .u8 0, .int .u8 0, .int .u8 0, .int .u8 0, .int .u8 0, .int .u8 0, .int .u8 0, .int .u8 0, .int .u8 0, .int .u8 0, .int .u8 0, .int .u8 0, .int .u64 0, .int .i64 0, .slice none 0 0, .int .u8 0, .int .u8 0, .int .u8 0, .int .u8 0, .int .u8 0, .int .u8 0, .int .u8 0, .int .u8 0, .int .u8 0, .int .u8 0, .int .u8 0, .int .u8 0, .int .u8 0, .int .u8 0, .int .u8 0, .int .u8 0, .int .u8 0, .int .u8 0, .int .u8 0, .int .u8 0, .int .u8 0, .int .u8 0, .int .u8 0, .int .u8 0, .int .u8 0, .int .u8 0, .int .u8 0, .int .u8 0, .int .u8 0, .int .u8 0, .int .u8 0, .int .u8 0, .int .i64 0, .int .i64 0, .int .i64 0, .int .i64 0, .string ByteArray.empty, .int .i64 0, .int .i64 0, .int .i64 0, .int .u64 0, .slice none 0 0, .slice none 0 0, .slice none 0 0, .slice none 0 0]) (by kernel_rfl) ?_
  intro u3_5 qB9 hm
  have zl3_5 := qB9.lt
  have Hx5 := hid qB9
  have zu3_5 := hm.size
  have HMu3_5 := hid hm
  have Cx6 := hid (Cx4.out.goE hm)
  clear hm Cx4
  clear act E qB9
  refine QSeq.go fun act E => ?_
  refine qc_store rfl (wanted_none rfl) rfl Hx5.out (off := 0) (vs := (((mg0 k f t).segs c5 c10 c11 c15 c18).flatten)) (by rw [HCM.out]; kernel_rfl) HCO.out (by rw [HCM.out]; decide) (E.d 5 0) (ec (E.d 3 2)) ?_
  intro u3_6 qc0 hm
  have qB9 := qc0.eqv (b := ((((mg0 k f t).segs c5 c10 c11 c15 c18).flatten) : List Value).toArray) (lay_whole _ _ (by rw [HCM.out]; rfl))
  clear qc0
  have Hx7 := hid qB9
  have zu3_6 := hm.size
  have HMu3_6 := hid hm
  have Cx8 := hid (Mod.goS (S' := (fun _ => False)) Cx6.out hm (fun _ h => h) (by intro k h0 h2; omega))
  clear hm Cx6
  clear act E qB9 Hx5
  refine QSeq.pure rfl _ (fun E => ex_assign rfl (E.d 4 2)) ?_
  have Hx9 := hid ((Hx3.out.mod HMu3_5.out (fun _ _ h => h)).mod HMu3_6.out (by intro k h1 h2; omega))
  clear Hx3 HMu3_5 HMu3_6
  refine QSeq.nil (t' := [_, _, _, _, _, _, _, _]) rfl ?_
  obtain rfl := HA0.out
  clear HA0 oe7
  simp only [pz, Act.put, List.setIfInBounds_toArray, List.set_cons_zero, List.set_cons_succ, List.set_nil]
  clear Hx9
  have hq := (Hx1.out.mod Cx8.out (fun _ _ h => h)).rd
  obtain ⟨g, o, eao, hrg, hcell⟩ := RdR_at0 hq HBS.out
  subst eao
  have HAT := hid (show CellsAt (fun k => (New w u2_4 k)) u3_6 g o [.int .u8 k] from ⟨hrg, hcell⟩)
  clear hq hrg hcell
  have HLB := hid (show 0 < bs.length by rw [HBS.out]; simp)
  go_upto_region 4 with (fail)
  refine wp_region_U 95 [35, 36, 37, 38, 39, 40, 41, 42, 43, 44, 45, 46, 47, 48, 49] [0, 1, 2, 3, 4, 5, 6, 7, 8, 9, 10, 11, 12, 13, 14] (fun a0 HA0 => ?_)
  have oe0 := ev HA0 0 rfl
  have oe7 := ev HA0 7 rfl
  have oe8 := ev HA0 8 rfl
  refine QSeq.pure rfl _ (fun E => ex_move rfl (E.v oe8)) ?_
  refine QSeq.pure rfl (.bool false) (fun E => ex_not rfl (E.d 0 0)) ?_
  refine QSeq.pure rfl _ (fun E => ex_move rfl (E.d 1 0)) ?_
  refine QSeq.pureG rfl (.slice (some ⟨g, o, none⟩) ((bs).length) cappb) (fun E => ((wanted_of rfl rfl (E.sz 37 (by decide)) (E.d 2 0)).trans rfl)) (fun E => ex_move rfl (E.v oe7)) ?_
  refine QSeq.pureG rfl (.int .i64 ((bs).length)) (fun E => ((wanted_of rfl rfl (E.sz 37 (by decide)) (E.d 2 1)).trans rfl)) (fun E => ex_lenS rfl (E.d 3 0) Try.underlying38) ?_
  refine QSeq.pureG rfl (.bool false) (fun E => ((wanted_of rfl rfl (E.sz 37 (by decide)) (E.d 2 2)).trans rfl)) (fun E => ex_binE rfl (E.d 4 0) rfl (guard_ints _ _ _ _ _ _) (run_eql_i _ _ _ Try.underlying3) (congrArg Value.bool (beq_eq_false_iff_ne.2 (show ((bs.length : Nat) : Int) ≠ 0 by have := HLB.out; omega)))) ?_
  refine QSeq.pure rfl (.bool false) (fun E => ex_pick rfl (E.d 2 3) rfl (E.d 5 0)) ?_
  refine QSeq.pure rfl _ (fun E => ex_move rfl (E.d 6 0)) ?_
  refine QSeq.pureG rfl (.slice (some ⟨g, o, none⟩) ((bs).length) cappb) (fun E => ((wanted_of rfl rfl (E.sz 42 (by decide)) (E.d 7 0)).trans rfl)) (fun E => ex_move rfl (E.v oe7)) ?_
  refine QSeq.pureG rfl (.pointer (some ⟨g, o + 0 * 1, none⟩)) (fun E => ((wanted_of rfl rfl (E.sz 42 (by decide)) (E.d 7 1)).trans rfl)) (fun E => ex_idxS (i := 0) (s := 1) rfl Try.underlying38 (by kernel_rfl) (E.d 8 0) rfl (by rw [HBS.out]; simp)) ?_
  refine QSeq.pureG rfl (.int .u8 k) (fun E => ((wanted_of rfl rfl (E.sz 42 (by decide)) (E.d 7 2)).trans rfl)) (fun E => ex_load1 rfl Try.underlying5 rfl (E.d 9 0) ((HAT.out).2 0 _ rfl)) ?_
  refine QSeq.pureG rfl (.int .i64 k) (fun E => ((wanted_of rfl rfl (E.sz 42 (by decide)) (E.d 7 3)).trans rfl)) (fun E => ex_convIE rfl (by kernel_rfl) Try.underlying3 (E.d 10 0) (IntWalk.i64_in _ (by have h9 := HRk.out; omega))) ?_
  refine QSeq.pureG rfl (.int .i64 k) (fun E => ((wanted_of rfl rfl (E.sz 42 (by decide)) (E.d 7 4)).trans rfl)) (fun E => ex_move rfl (E.v oe0)) ?_
  refine QSeq.pureG rfl (.bool false) (fun E => ((wanted_of rfl rfl (E.sz 42 (by decide)) (E.d 7 5)).trans rfl)) (fun E => ex_binE rfl (E.d 11 1) (E.d 12 0) (guard_ints _ _ _ _ _ _) (run_neq_i _ _ _ Try.underlying3) (congrArg Value.bool (show (!(k == k)) = false by simp))) ?_
  refine QSeq.pure rfl (.bool false) (fun E => ex_pick rfl (E.d 7 6) rfl (E.d 13 0)) ?_
  refine QSeq.nil (t' := [_, _, _, _, _, _, _, _, _, _, _, _, _, _, _]) rfl ?_
  obtain rfl := HA0.out
  clear HA0 oe0 oe7 oe8
  simp only [pz, Act.put, List.setIfInBounds_toArray, List.set_cons_zero, List.set_cons_succ]
  go_upto_region 6 with (fail)
  refine wp_region_U 95 [50, 51] [0, 1] (fun a0 HA0 => ?_)
  have oe10 := ev HA0 10 rfl
  refine QSeq.pure rfl _ (fun E => ex_move rfl (E.v oe10)) ?_
  refine QSeq.pure rfl (.bool false) (fun E => ex_not rfl (E.d 0 0)) ?_
  refine QSeq.nil (t' := [_, _]) rfl ?_
  obtain rfl := HA0.out
  clear HA0 oe10
  simp only [pz, Act.put, List.setIfInBounds_toArray, List.set_cons_zero, List.set_cons_succ]
  go_upto_region 8 with (fail)
  refine wp_region_U 95 [53, 54, 55, 56, 52, 57, 58, 11, 12] [0, 1, 2, 3, 4, 5, 6, 7, 8] (fun a0 HA0 => ?_)
  have oe1 := ev HA0 1 rfl
  have oe2 := ev HA0 2 rfl
  refine QSeq.pure rfl _ (fun E => ex_move rfl (E.v oe1)) ?_
  refine QSeq.pure rfl _ (fun E => ex_move rfl (E.v oe2)) ?_
  refine QSeq.go fun act E => ?_
  refine qc_run rfl (wanted_none rfl) (v := .agg ((mg0C 0 f t) : List Value).toArray) (ex_build rfl (z := [.int .i64 0, .int .i64 0, .int .i64 0, .int .i64 0, .int .i64 0, .int .u8 0, .int .u8 0, .int .u8 0, .int .u8 0, .int .u8 0, .int .u8 0, .int .u8 0, .int .u8 0, .int .u8 0, .int .u8 0, .int .u8 0, .int .u8 0, .int .u8 0, .int .u8 0, .int .u8 0, .int .u8 0, .int .u8 0, .int .u8 0, .int .u8 0, .int .u8 0, .int .u8 0, .int .u8 0, .int .u8 0, .int .u8 0, .int .u8 0, .int .u8 0, .int .u8 0, .int .u8 0, .int .u8 0, .int .u8 0, .int .u8 0, .int .u8 0, .int .i64 0, .int .i64 0, .int .i64 0, .int .i64 0, .int .i64 0, .int .i64 0, .int .u8 0, .int .u8 0, .int .u8 0, .int .u8 0, .int .u8 0, .int .u8 0, .int .u8 0, .int .u8 0, .int .u8 0, .int .u8 0, .int .u8 0, .int .u8 0, .int .u8 0, .int .u8 0, .int .u8 0, .int .u8 0, .int .u8 0, .int .u8 0, .int .u8 0, .int .u8 0, .int .u8 0, .int .u8 0, .int .u8 0, .int .u8 0, .int .u8 0, .int .u8 0, .int .u8 0, .int .u8 0, .int .u8 0, .int .u8 0, .int .u8 0, .int .u8 0, .int .u64 0, .int .i64 0, .int .i64 0, .int .i64 0, .int .i64 0, .int .u8 0, .int .u8 0, .int .u8 0, .int .u8 0, .int .u8 0, .int .u8 0, .int .u8 0, .int .u8 0, .int .u8 0, .int .u8 0, .int .u8 0, .int .u8 0, .int .u8 0, .int .u8 0, .int .u8 0, .int .u8 0, .int .u8 0, .int .u8 0, .int .u8 0, .int .u8 0, .int .u8 0, .int .u8 0, .int .u8 0, .int .u8 0, .int .u8 0, .int .u8 0, .int .u8 0, .int .u8 0, .int .u8 0, .int .u8 0, .int .u8 0, .int .u8 0, .int .i64 0, .int .i64 0, .int .i64 0, .slice none 0 0, .int .i64 0, .int .i64 0, .int .i64 0, .int .u8 0, .int .u8 0, .int .u8 0, .int .u8 0, .int .u8 0, .int .u8 0, .int .u8 0, .int .u8 0, .int .u8 0, .int .u8 0, .int .u8 0, .int .u8 0, .int .u8 0, .int .u8 0, .int .u8 0, .int .u8 0, .int .u8 0, .int .u8 0, .int .u8 0, .int .u8 0, .int .u8 0, .int .u8 0, .int .u8 0, .int .u8 0, .int .u8 0, .int .u8 0, .int .u8 0, .int .u8 0, .int .u8 0, .int .u8 0, .int .u8 0, .int .u8 0, .int .u64 0, .int .i64 0, .int .i64 0, .int .i64 0, .int .i64 0, .int .u64 0, .int .i64 0, .int .i64 0, .int .u64 0, .slice none 0 0, .int .i64 0, .int .i64 0, .int .i64 0, .int .i64 0, .int .i64 0, .int .i64 0, .int .i64 0, .int .u64 0, .slice none 0 0, .slice none 0 0, .slice none 0 0, .int .i64 0, .int .i64 0, .int .i64 0, .int .i64 0, .int .i64 0, .int .i64 0, .int .u8 0, .int .u8 0, .int .u8 0, .int .u8 0, .int .u8 0, .int .u8 0, .int .u8 0, .int .u8 0, .int .u8 0, .int .u8 0, .int .u8 0, .int .u8 0, .int .u8 0, .int .u8 0, .int .u8 0, .int .u8 0, .int .u8 0, .int .u8 0, .int .u8 0, .int .u8 0, .int .u8 0, .int .u8 0, .int .u8 0, .int .u8 0, .int .u8 0, .int .u8 0, .int .u8 0, .int .u8 0, .int .u8 0, .int .u8 0, .int .u8 0, .int .u8 0, .int .i64 0, .int .i64 0, .int .i64 0, .int .i64 0, .int .i64 0, .int .u8 0, .int .u8 0, .int .u8 0, .int .u8 0, .int .u8 0, .int .u8 0, .int .u8 0, .int .u8 0, .int .u8 0, .int .u8 0, .int .u8 0, .int .u8 0, .int .u8 0, .int .u8 0, .int .u8 0, .int .u8 0, .int .u8 0, .int .u8 0, .int .u8 0, .int .u8 0, .int .u8 0, .int .u8 0, .int .u8 0, .int .u8 0, .int .u8 0, .int .u8 0, .int .u8 0, .int .u8 0, .int .u8 0, .int .u8 0, .int .u8 0, .int .u8 0, .int .u64 0, .int .i64 0, .slice none 0 0, .int .u8 0, .int .u8 0, .int .u8 0, .int .u8 0, .int .u8 0, .int .u8 0, .int .u8 0, .int .u8 0, .int .u8 0, .int .u8 0, .int .u8 0, .int .u8 0, .int .u8 0, .int .u8 0, .int .u8 0, .int .u8 0, .int .u8 0, .int .u8 0, .int .u8 0, .int .u8 0, .int .u8 0, .int .u8 0, .int .u8 0, .int .u8 0, .int .u8 0, .int .u8 0, .int .u8 0, .int .u8 0, .int .u8 0, .int .u8 0, .int .u8 0, .int .u8 0, .int .i64 0, .int .i64 0, .int .i64 0, .int .i64 0, .string ByteArray.empty, .int .i64 0, .int .i64 0, .int .i64 0, .int .u64 0, .slice none 0 0, .slice none 0 0, .slice none 0 0, .slice none 0 0]) (places := [(0, 1), (1, 1), (2, 1), (3, 37), (40, 38), (78, 38), (116, 38), (154, 1), (155, 1), (156, 1), (157, 6), (163, 11), (174, 38), (212, 1), (213, 35), (248, 34), (282, 4), (286, 1), (287, 8)]) (by kernel_rfl) (parts := [(0, .int .i64 0), (1, .int .i64 f), (2, .int .i64 t)]) (by simp only [List.map_toArray, List.map_cons, List.map_nil, show act.eval (.tmp 53) = .int .i64 f from (E.d 0 1), show act.eval (.tmp 54) = .int .i64 t from (E.d 1 0)]; try rfl) (r := (mg0C 0 f t)) (by exact (laid_segs (ns := mgN) rfl [(0, .int .i64 0), (1, .int .i64 f), (2, .int .i64 t)] (zMg.segs (zCe.cells zS) (zPm.cells zS) (zPr.cells zS zS zS) (zOp.cells zS) (zDc.cells zS zS zS zS)) rfl ⟨rfl, rfl, rfl, trivial⟩).trans rfl)) ?_
  clear act E
  refine QSeq.call rfl rfl Try.func29 (callsP (packs_no (x := mg0 0 f t) rfl) (Pack_Q _ _ (mg0 0 f t) _ (mg0_rd (k := 0) (f := f) (t := t) I64_0 HIf.out HIt.out (fun _ => False) _) (fun _ h => h.elim) (Nat.le_trans (packB_mg0_len I64_0 HIf.out HIt.out) (by decide)))) (fun E => args1 (E.d 2 0)) ?_
  rintro e u8_3 ⟨vpc, rfl, qpc, hm⟩
  rw [(packs_no (x := mg0 0 f t) rfl)] at qpc
  replace qpc := (show OwR _ _ _ _ (([] : List Int)) from qpc)
  obtain ⟨aopc, cappc, rfl⟩ := qpc.shape
  refine ⟨_, rfl, ?_⟩
  have Hx10 := hid qpc
  have zu8_3 := hm.size
  have Cx11 := hid (show Mod (fun _ => False) u3_6 u8_3 from hm)
  clear hm
  clear qpc
  refine QSeq.pure rfl _ (fun E => ex_move rfl (E.d 3 0)) ?_
  refine QSeq.pure rfl (.slice aopc ((([] : List Int)).length) cappc) (fun E => ex_extract rfl (E.d 4 0) rfl) ?_
  refine QSeq.pure rfl (.bool false) (fun E => ex_extract rfl (E.d 4 1) rfl) ?_
  refine QSeq.pure rfl _ (fun E => ex_assign rfl (E.d 5 1)) ?_
  refine QSeq.pure rfl _ (fun E => ex_assign rfl (E.d 6 1)) ?_
  refine QSeq.nil (t' := [_, _, _, _, _, _, _, _, _]) rfl ?_
  obtain rfl := HA0.out
  clear HA0 oe1 oe2
  simp only [pz, Act.put, List.setIfInBounds_toArray, List.set_cons_zero, List.set_cons_succ]
  have HI2 := hid (show I64 (14 + k) by have h9 := HRk.out; unfold I64; omega)
  have HP2 := hid (packs_no (x := mg0 (14 + k) f t) (show okKd (14 + k) = false by have h9 := HRk.out; unfold okKd; rw [decide_eq_false_iff_not]; omega))
  go_upto_region 9 with (fail)
  refine wp_region_U 95 [60, 61, 62, 63, 64, 65, 59, 66, 67, 13, 14] [0, 1, 2, 3, 4, 5, 6, 7, 8, 9, 10] (fun a0 HA0 => ?_)
  have oe0 := ev HA0 0 rfl
  have oe1 := ev HA0 1 rfl
  have oe2 := ev HA0 2 rfl
  refine QSeq.pure rfl _ (fun E => ex_move rfl (E.v oe0)) ?_
  refine QSeq.pure rfl (.int .i64 (14 + k)) (fun E => ex_binE rfl rfl (E.d 0 0) (guard_ints _ _ _ _ _ _) (run_add_i _ _ Try.underlying3) (congrArg (Value.int .i64) (IntWalk.i64_in _ (by have h9 := HRk.out; omega)))) ?_
  refine QSeq.pure rfl _ (fun E => ex_move rfl (E.v oe1)) ?_
  refine QSeq.pure rfl _ (fun E => ex_move rfl (E.v oe2)) ?_
  refine QSeq.go fun act E => ?_
  refine qc_run rfl (wanted_none rfl) (v := .agg ((mg0C (14 + k) f t) : List Value).toArray) (ex_build rfl (z := [.int .i64 0, .int .i64 0, .int .i64 0, .int .i64 0, .int .i64 0, .int .u8 0, .int .u8 0, .int .u8 0, .int .u8 0, .int .u8 0, .int .u8 0, .int .u8 0, .int .u8 0, .int .u8 0, .int .u8 0, .int .u8 0, .int .u8 0, .int .u8 0, .int .u8 0, .int .u8 0, .int .u8 0, .int .u8 0, .int .u8 0, .int .u8 0, .int .u8 0, .int .u8 0, .int .u8 0, .int .u8 0, .int .u8 0, .int .u8 0, .int .u8 0, .int .u8 0, .int .u8 0, .int .u8 0, .int .u8 0, .int .u8 0, .int .u8 0, .int .i64 0, .int .i64 0, .int .i64 0, .int .i64 0, .int .i64 0, .int .i64 0, .int .u8 0, .int .u8 0, .int .u8 0, .int .u8 0, .int .u8 0, .int .u8 0, .int .u8 0, .int .u8 0, .int .u8 0, .int .u8 0, .int .u8 0, .int .u8 0, .int .u8 0, .int .u8 0, .int .u8 0, .int .u8 0, .int .u8 0, .int .u8 0, .int .u8 0, .int .u8 0, .int .u8 0, .int .u8 0, .int .u8 0, .int .u8 0, .int .u8 0, .int .u8 0, .int .u8 0, .int .u8 0, .int .u8 0, .int .u8 0, .int .u8 0, .int .u8 0, .int .u64 0, .int .i64 0, .int .i64 0, .int .i64 0, .int .i64 0, .int .u8 0, .int .u8 0, .int .u8 0, .int .u8 0, .int .u8 0, .int .u8 0, .int .u8 0, .int .u8 0, .int .u8 0, .int .u8 0, .int .u8 0, .int .u8 0, .int .u8 0, .int .u8 0, .int .u8 0, .int .u8 0, .int .u8 0, .int .u8 0, .int .u8 0, .int .u8 0, .int .u8 0, .int .u8 0, .int .u8 0, .int .u8 0, .int .u8 0, .int .u8 0, .int .u8 0, .int .u8 0, .int .u8 0, .int .u8 0, .int .u8 0, .int .u8 0, .int .i64 0, .int .i64 0, .int .i64 0, .slice none 0 0, .int .i64 0, .int .i64 0, .int .i64 0, .int .u8 0, .int .u8 0, .int .u8 0, .int .u8 0, .int .u8 0, .int .u8 0, .int .u8 0, .int .u8 0, .int .u8 0, .int .u8 0, .int .u8 0, .int .u8 0, .int .u8 0, .int .u8 0, .int .u8 0, .int .u8 0, .int .u8 0, .int .u8 0, .int .u8 0, .int .u8 0, .int .u8 0, .int .u8 0, .int .u8 0, .int .u8 0, .int .u8 0, .int .u8 0, .int .u8 0, .int .u8 0, .int .u8 0, .int .u8 0, .int .u8 0, .int .u8 0, .int .u64 0, .int .i64 0, .int .i64 0, .int .i64 0, .int .i64 0, .int .u64 0, .int .i64 0, .int .i64 0, .int .u64 0, .slice none 0 0, .int .i64 0, .int .i64 0, .int .i64 0, .int .i64 0, .int .i64 0, .int .i64 0, .int .i64 0, .int .u64 0, .slice none 0 0, .slice none 0 0, .slice none 0 0, .int .i64 0, .int .i64 0, .int .i64 0, .int .i64 0, .int .i64 0, .int .i64 0, .int .u8 0, .int .u8 0, .int .u8 0, .int .u8 0, .int .u8 0, .int .u8 0, .int .u8 0, .int .u8 0, .int .u8 0, .int .u8 0, .int .u8 0, .int .u8 0, .int .u8 0, .int .u8 0, .int .u8 0, .int .u8 0, .int .u8 0, .int .u8 0, .int .u8 0, .int .u8 0, .int .u8 0, .int .u8 0, .int .u8 0, .int .u8 0, .int .u8 0, .int .u8 0, .int .u8 0, .int .u8 0, .int .u8 0, .int .u8 0, .int .u8 0, .int .u8 0, .int .i64 0, .int .i64 0, .int .i64 0, .int .i64 0, .int .i64 0, .int .u8 0, .int .u8 0, .int .u8 0, .int .u8 0, .int .u8 0, .int .u8 0, .int .u8 0, .int .u8 0, .int .u8 0, .int .u8 0, .int .u8 0, .int .u8 0, .int .u8 0, .int .u8 0, .int .u8 0, .int .u8 0, .int .u8 0, .int .u8 0, .int .u8 0, .int .u8 0, .int .u8 0, .int .u8 0, .int .u8 0, .int .u8 0, .int .u8 0, .int .u8 0, .int .u8 0, .int .u8 0, .int .u8 0, .int .u8 0, .int .u8 0, .int .u8 0, .int .u64 0, .int .i64 0, .slice none 0 0, .int .u8 0, .int .u8 0, .int .u8 0, .int .u8 0, .int .u8 0, .int .u8 0, .int .u8 0, .int .u8 0, .int .u8 0, .int .u8 0, .int .u8 0, .int .u8 0, .int .u8 0, .int .u8 0, .int .u8 0, .int .u8 0, .int .u8 0, .int .u8 0, .int .u8 0, .int .u8 0, .int .u8 0, .int .u8 0, .int .u8 0, .int .u8 0, .int .u8 0, .int .u8 0, .int .u8 0, .int .u8 0, .int .u8 0, .int .u8 0, .int .u8 0, .int .u8 0, .int .i64 0, .int .i64 0, .int .i64 0, .int .i64 0, .string ByteArray.empty, .int .i64 0, .int .i64 0, .int .i64 0, .int .u64 0, .slice none 0 0, .slice none 0 0, .slice none 0 0, .slice none 0 0]) (places := [(0, 1), (1, 1), (2, 1), (3, 37), (40, 38), (78, 38), (116, 38), (154, 1), (155, 1), (156, 1), (157, 6), (163, 11), (174, 38), (212, 1), (213, 35), (248, 34), (282, 4), (286, 1), (287, 8)]) (by kernel_rfl) (parts := [(0, .int .i64 (14 + k)), (1, .int .i64 f), (2, .int .i64 t)]) (by simp only [List.map_toArray, List.map_cons, List.map_nil, show act.eval (.tmp 61) = .int .i64 (14 + k) from (E.d 1 2), show act.eval (.tmp 62) = .int .i64 f from (E.d 2 1), show act.eval (.tmp 63) = .int .i64 t from (E.d 3 0)]; try rfl) (r := (mg0C (14 + k) f t)) (by exact (laid_segs (ns := mgN) rfl [(0, .int .i64 (14 + k)), (1, .int .i64 f), (2, .int .i64 t)] (zMg.segs (zCe.cells zS) (zPm.cells zS) (zPr.cells zS zS zS) (zOp.cells zS) (zDc.cells zS zS zS zS)) rfl ⟨rfl, rfl, rfl, trivial⟩).trans rfl)) ?_
  clear act E
  refine QSeq.call rfl rfl Try.func29 (callsP HP2.out (Pack_Q _ _ (mg0 (14 + k) f t) _ (mg0_rd (k := (14 + k)) (f := f) (t := t) HI2.out HIf.out HIt.out (fun _ => False) _) (fun _ h => h.elim) (Nat.le_trans (packB_mg0_len HI2.out HIf.out HIt.out) (by decide)))) (fun E => args1 (E.d 4 0)) ?_
  rintro e u9_5 ⟨vpd, rfl, qpd, hm⟩
  rw [HP2.out] at qpd
  replace qpd := (show OwR _ _ _ _ (([] : List Int)) from qpd)
  obtain ⟨aopd, cappd, rfl⟩ := qpd.shape
  refine ⟨_, rfl, ?_⟩
  have Hx12 := hid qpd
  have zu9_5 := hm.size
  have Cx13 := hid (show Mod (fun _ => False) u8_3 u9_5 from hm)
  clear hm
  clear qpd
  refine QSeq.pure rfl _ (fun E => ex_move rfl (E.d 5 0)) ?_
  refine QSeq.pure rfl (.slice aopd ((([] : List Int)).length) cappd) (fun E => ex_extract rfl (E.d 6 0) rfl) ?_
  refine QSeq.pure rfl (.bool false) (fun E => ex_extract rfl (E.d 6 1) rfl) ?_
  refine QSeq.pure rfl _ (fun E => ex_assign rfl (E.d 7 1)) ?_
  refine QSeq.pure rfl _ (fun E => ex_assign rfl (E.d 8 1)) ?_
  refine QSeq.nil (t' := [_, _, _, _, _, _, _, _, _, _, _]) rfl ?_
  obtain rfl := HA0.out
  clear HA0 oe0 oe1 oe2
  simp only [pz, Act.put, List.setIfInBounds_toArray, List.set_cons_zero, List.set_cons_succ]
  go_upto_region 10 with (fail)
  refine wp_region_U 95 [68, 69, 70, 71, 72, 73, 74, 75, 76, 77, 78, 79, 80, 81, 82, 83, 84, 85, 86, 87, 88, 89, 90, 91, 92, 93, 94, 6] [0, 1, 2, 3, 4, 5, 6, 7, 8, 9, 10, 11, 12, 13, 14, 15, 16, 17, 18, 19, 20, 21, 22, 23, 24, 25, 26, 27] (fun a0 HA0 => ?_)
  have oe0 := ev HA0 0 rfl
  have oe1 := ev HA0 1 rfl
  have oe2 := ev HA0 2 rfl
  have oe9 := ev HA0 9 rfl
  have oe12 := ev HA0 12 rfl
  have oe14 := ev HA0 14 rfl
  refine QSeq.pure rfl (.pointer (some ⟨u3_1.heap.size, 0, none⟩)) (fun E => ex_field rfl Try.underlying109 rfl (by kernel_rfl) (E.v oe9)) ?_
  refine QSeq.pure rfl (.int .i64 k) (fun E => ex_load1 rfl Try.underlying3 rfl (E.d 0 0) (Cs.seg1 ((Hx7.out.mod Cx11.out (fun h => h)).mod Cx13.out (fun h => h)) HLN.out 0 rfl (o := 0) (k := 0) rfl rfl rfl)) ?_
  refine QSeq.pure rfl _ (fun E => ex_move rfl (E.v oe0)) ?_
  refine QSeq.pure rfl (.bool true) (fun E => ex_binE rfl (E.d 1 1) (E.d 2 0) (guard_ints _ _ _ _ _ _) (run_eql_i _ _ _ Try.underlying3) (congrArg Value.bool (beq_self_eq_true _))) ?_
  refine QSeq.pure rfl _ (fun E => ex_move rfl (E.d 3 0)) ?_
  refine QSeq.pureG rfl (.pointer (some ⟨u3_1.heap.size, 1, none⟩)) (fun E => ((wanted_of rfl rfl (E.sz 72 (by decide)) (E.d 4 0)).trans rfl)) (fun E => ex_field rfl Try.underlying109 rfl (by kernel_rfl) (E.v oe9)) ?_
  refine QSeq.pureG rfl (.int .i64 f) (fun E => ((wanted_of rfl rfl (E.sz 72 (by decide)) (E.d 4 1)).trans rfl)) (fun E => ex_load1 rfl Try.underlying3 rfl (E.d 5 0) (Cs.seg1 ((Hx7.out.mod Cx11.out (fun h => h)).mod Cx13.out (fun h => h)) HLN.out 1 rfl (o := 1) (k := 0) rfl rfl rfl)) ?_
  refine QSeq.pureG rfl (.int .i64 f) (fun E => ((wanted_of rfl rfl (E.sz 72 (by decide)) (E.d 4 2)).trans rfl)) (fun E => ex_move rfl (E.v oe1)) ?_
  refine QSeq.pureG rfl (.bool true) (fun E => ((wanted_of rfl rfl (E.sz 72 (by decide)) (E.d 4 3)).trans rfl)) (fun E => ex_binE rfl (E.d 6 1) (E.d 7 0) (guard_ints _ _ _ _ _ _) (run_eql_i _ _ _ Try.underlying3) (congrArg Value.bool (beq_self_eq_true _))) ?_
  refine QSeq.pure rfl (.bool true) (fun E => ex_pick rfl (E.d 4 4) (E.d 8 0) rfl) ?_
  refine QSeq.pure rfl _ (fun E => ex_move rfl (E.d 9 0)) ?_
  refine QSeq.pureG rfl (.pointer (some ⟨u3_1.heap.size, 2, none⟩)) (fun E => ((wanted_of rfl rfl (E.sz 78 (by decide)) (E.d 10 0)).trans rfl)) (fun E => ex_field rfl Try.underlying109 rfl (by kernel_rfl) (E.v oe9)) ?_
  refine QSeq.pureG rfl (.int .i64 t) (fun E => ((wanted_of rfl rfl (E.sz 78 (by decide)) (E.d 10 1)).trans rfl)) (fun E => ex_load1 rfl Try.underlying3 rfl (E.d 11 0) (Cs.seg1 ((Hx7.out.mod Cx11.out (fun h => h)).mod Cx13.out (fun h => h)) HLN.out 2 rfl (o := 2) (k := 0) rfl rfl rfl)) ?_
  refine QSeq.pureG rfl (.int .i64 t) (fun E => ((wanted_of rfl rfl (E.sz 78 (by decide)) (E.d 10 2)).trans rfl)) (fun E => ex_move rfl (E.v oe2)) ?_
  refine QSeq.pureG rfl (.bool true) (fun E => ((wanted_of rfl rfl (E.sz 78 (by decide)) (E.d 10 3)).trans rfl)) (fun E => ex_binE rfl (E.d 12 1) (E.d 13 0) (guard_ints _ _ _ _ _ _) (run_eql_i _ _ _ Try.underlying3) (congrArg Value.bool (beq_self_eq_true _))) ?_
  refine QSeq.pure rfl (.bool true) (fun E => ex_pick rfl (E.d 10 4) (E.d 14 0) rfl) ?_
  refine QSeq.pure rfl _ (fun E => ex_move rfl (E.d 15 0)) ?_
  refine QSeq.pureG rfl (.bool false) (fun E => ((wanted_of rfl rfl (E.sz 84 (by decide)) (E.d 16 0)).trans rfl)) (fun E => ex_move rfl (E.v oe12)) ?_
  refine QSeq.pureG rfl (.bool true) (fun E => ((wanted_of rfl rfl (E.sz 84 (by decide)) (E.d 16 1)).trans rfl)) (fun E => ex_not rfl (E.d 17 0)) ?_
  refine QSeq.pure rfl (.bool true) (fun E => ex_pick rfl (E.d 16 2) (E.d 18 0) rfl) ?_
  refine QSeq.pure rfl _ (fun E => ex_move rfl (E.d 19 0)) ?_
  refine QSeq.pureG rfl (.bool false) (fun E => ((wanted_of rfl rfl (E.sz 88 (by decide)) (E.d 20 0)).trans rfl)) (fun E => ex_move rfl (E.v oe14)) ?_
  refine QSeq.pureG rfl (.bool true) (fun E => ((wanted_of rfl rfl (E.sz 88 (by decide)) (E.d 20 1)).trans rfl)) (fun E => ex_not rfl (E.d 21 0)) ?_
  refine QSeq.pure rfl (.bool true) (fun E => ex_pick rfl (E.d 20 2) (E.d 22 0) rfl) ?_
  refine QSeq.pure rfl _ (fun E => ex_move rfl (E.d 23 0)) ?_
  refine QSeq.go fun act E => ?_
  refine qc_callF (args := #[]) rfl ((wanted_of rfl rfl (E.sz 92 (by decide)) (E.d 24 0)).trans rfl) rfl Try.func32 args0 (wakes06 _) ?_
  rintro e u10_25 ⟨rfl, hm⟩
  refine ⟨_, rfl, ?_⟩
  have zu10_25 := hm.size
  have Cx14 := hid (show Mod (fun _ => False) u9_5 u10_25 from hm)
  clear hm
  clear act E
  refine QSeq.pure rfl (.bool true) (fun E => ex_pick rfl (E.d 24 1) (E.d 25 0) rfl) ?_
  refine QSeq.pure rfl _ (fun E => ex_assign rfl (E.d 26 0)) ?_
  refine QSeq.nil (t' := [_, _, _, _, _, _, _, _, _, _, _, _, _, _, _, _, _, _, _, _, _, _, _, _, _, _, _, _]) rfl ?_
  obtain rfl := HA0.out
  clear HA0 oe0 oe1 oe2 oe9 oe12 oe14
  simp only [pz, Act.put, List.setIfInBounds_toArray, List.set_cons_zero, List.set_cons_succ]
  go_wp2
  go_ret
  exact ⟨rfl, (((((HM0.out.trans Cx2.out (fun _ _ h => h.elim)).trans Cx8.out (fun _ _ h => h.elim)).trans Cx11.out (fun _ _ h => h.elim)).trans Cx13.out (fun _ _ h => h.elim)).trans Cx14.out (fun _ _ h => h.elim))⟩
end Go.Proofs.Ytpnikilkcifncaa

namespace Go.Proofs.Ytpnikilkcifncaa.msgHeads
open Go Go.RowKit Go.Gv Go.ChangeShapes Go.WideShapes Go.ChangeAt
open Go.ChangeMaps (open_string shut_string)

theorem own : ownKnob Try.prog.godebug = none := by kernel_rfl
theorem laidOut : laidOutB Try.prog = true := by kernel_rfl

theorem lifted (os : Os) (started : os.Started) (H : Type) (enc : TypeId × Value → H) :
    ReturnsInHanded {} Try.checked os 9 .any (Rows.msgHeadsSpec.pre6 enc Try.prog Try.f9 Rows.msgHeadsRow.domain false) (Rows.msgHeadsSpec.post enc Try.prog Try.f9 false true false false) := by
  refine returnsInHanded_of_change (C := Try.checked) own started (by kernel_rfl) Try.func9
    (ChangeSpec.witness6 (enc := enc) (C := Try.checked) false ⟨#[], #[.int .i64 0, .int .i64 0, .int .i64 0], []⟩ 8 (by kernel_rfl) (by kernel_rfl) (by kernel_rfl) (by kernel_rfl)) ?_
  intro W base args ds gs before hval0 hW hcnd _
  have hval : ∀ (j : Nat) t v, Try.f9.params[j]? = some t → args[j]? = some v → Value.okWide Try.prog W .any base t v := hval0
  have hW' := hW
  obtain ⟨p, q, hA0, hV, rfl, hfz, hnd⟩ := hW
  have hA : DataW.TrodAll enc Try.prog W 0 (fun _ => true) true Try.f9.params.toList args.toList ds p := hA0
  rw [Try.params9] at hA hval
  obtain ⟨v0, vs0, d0, ds0, p0, q0, hargs, rfl, rfl, h0, r0⟩ := trodAll_cons hA
  obtain ⟨v1, vs1, d1, ds1, p1, q1, rfl, rfl, rfl, h1, r1⟩ := trodAll_cons r0
  obtain ⟨v2, vs2, d2, ds2, p2, q2, rfl, rfl, rfl, h2, r2⟩ := trodAll_cons r1
  obtain ⟨rfl, rfl, rfl⟩ := trodAll_nil r2
  obtain rfl : args = #[v0, v1, v2] := by cases args; simp_all
  obtain ⟨rfl, rfl⟩ := trodVars_none hV
  have k0 := h0
  have lt0 : ∀ x ∈ p0, x.block < W.heap.size := by obtain ⟨m, hm⟩ := k0; exact DataW.trod_lt m _ _ _ hm
  have k1 := h1
  have lt1 : ∀ x ∈ p1, x.block < W.heap.size := by obtain ⟨m, hm⟩ := k1; exact DataW.trod_lt m _ _ _ hm
  have k2 := h2
  have lt2 : ∀ x ∈ p2, x.block < W.heap.size := by obtain ⟨m, hm⟩ := k2; exact DataW.trod_lt m _ _ _ hm
  obtain ⟨a0, rfl, rfl, rfl, w0⟩ := open_int Try.underlying3 (hval 0 3 v0 rfl rfl) h0
  obtain ⟨a1, rfl, rfl, rfl, w1⟩ := open_int Try.underlying3 (hval 1 3 v1 rfl rfl) h1
  obtain ⟨a2, rfl, rfl, rfl, w2⟩ := open_int Try.underlying3 (hval 2 3 v2 rfl rfl) h2
  clear hA0 hval0
  refine (LHeads_any a0 a1 a2 W (i64_bd w0) (i64_bd w1) (i64_bd w2)).mono fun e W' ⟨he, hmod⟩ => ?_
  subst he
  have bel : Below W.heap.size W W' := hmod.below (Nat.le_refl _) (fun _ _ => id)
  exact ⟨_, rfl, _, _, _, [], _, [], hW', trodAll_mk1 (shut_bool Try.underlying4 _), (trodAll_cons_mk (Below.trod laidOut (by kernel_rfl) (of_decide_eq_true (by kernel_rfl)) k0 bel lt0) (trodAll_cons_mk (Below.trod laidOut (by kernel_rfl) (of_decide_eq_true (by kernel_rfl)) k1 bel lt1) (trodAll_cons_mk (Below.trod laidOut (by kernel_rfl) (of_decide_eq_true (by kernel_rfl)) k2 bel lt2) trodAll_mk0))), rfl, bel.frame _, fun h => by cases h⟩

theorem over : Rows.msgHeadsRow.holds Try.pinned (OpenSpec.ofChange Rows.msgHeadsSpec) :=
  OpenClaim.holds_of_wide 9 Try.f9 rfl rfl rfl rfl rfl rfl rfl ⟨rfl, rfl, rfl, rfl, rfl⟩ rfl rfl rfl rfl rfl (by kernel_rfl) Try.func9 (by kernel_rfl)
    (of_decide_eq_true (by kernel_rfl)) (by unfold Func.isWrapper; first | (rw [if_pos (by decide +kernel)]; kernel_rfl) | (rw [if_neg (by decide +kernel)]; exact ⟨rfl, rfl⟩))
    (fun os started H enc _ => lifted os started H enc)

theorem proved : Rows.MsgHeadsSaid := over
end Go.Proofs.Ytpnikilkcifncaa.msgHeads
