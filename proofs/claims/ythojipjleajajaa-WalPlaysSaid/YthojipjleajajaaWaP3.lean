/- Texts that are built one behind the other: XVa3, XVa4, XVa5, XBl, XAr, XVa6, XVw0, XVr0, XVr1. No condition. -/
import Derived.Test.YthojipjleajajaaWaP2
set_option maxRecDepth 100000
set_option linter.unusedVariables false
/- wal.Open. -/
namespace Go.Proofs.Ythojipjleajajaa
open Go Go.RowKit Go.Gv

theorem rowsE_count (rs : List (List Int)) : rs.length ≤ (rowsE rs).length := by
  induction rs with
  | nil => exact Nat.le_refl _
  | cons b t ih => have := encR_pos b; rw [rowsE_cons, List.length_append, List.length_cons]; omega
set_option maxHeartbeats 8000000 in
theorem Open_Q {R : Nat → Prop} {N p sy : Nat} {bs : List Int} {rs : List (List Int)} {w : World} (h : DkR R N w p ⟨bs, sy, 0, false, false⟩) (hB : ∀ k, R k → k < w.heap.size) (hN : N ≤ 900000) (hP : Parse bs rs) :
    Calls Try.prog 9 #[.pointer (some ⟨p, 0, none⟩)] w fun e w' => ∃ x, e = .returned (.tuple #[.pointer (some ⟨x, 0, none⟩), .int .i64 0]) ∧ WlR (New w w') w' x p rs ∧ DkR R N w' p ⟨rowsE rs, (rowsE rs).length, 0, false, false⟩ ∧ Mod R w w' := by
  obtain ⟨hf, tl, hbs, hst⟩ := hP
  have hsy := h.syb
  have HD := Lib.hid h
  have HBR := Lib.hid hB
  have HF := Lib.hid hf
  have HST := Lib.hid hst
  have HBS := Lib.hid hbs
  have hll : bs.length = (rowsE rs).length + tl.length := by rw [hbs, List.length_append]
  clear h hB hf hst hbs
  go_enter Try.func9, Try.ntmps9
  go_upto_region 1 with (fail)
  have HM0 := hid (Mod.refl (fun k => (R k)) w)
  go_upto_region 1 with (fail)
  refine wp_region_U 62 [10, 11] [0, 1] (fun a0 HA0 => ?_)
  have oe0 := ev HA0 0 rfl
  refine QSeq.pure rfl _ (fun E => ex_move rfl (E.v oe0)) ?_
  refine QSeq.go fun act E => ?_
  refine qc_callF (args := #[.pointer (some ⟨p, 0, none⟩)]) rfl (wanted_none rfl) rfl Try.func31 (args1 (E.d 0 0)) (Dead_Q HD.out) ?_
  rintro e w2 ⟨rfl, hw2⟩
  obtain rfl : w = w2 := by first | exact hw2 | exact hw2.symm
  refine ⟨_, rfl, ?_⟩
  clear act E
  refine QSeq.nil (t' := [_, _]) rfl ?_
  obtain rfl := HA0.out
  clear HA0 oe0
  simp only [pz, Act.put, List.setIfInBounds_toArray, List.set_cons_zero, List.set_cons_succ]
  go_upto_region 3 with (fail)
  refine wp_region_U 62 [12, 13, 14, 4] [0, 1, 2, 3] (fun a0 HA0 => ?_)
  have oe0 := ev HA0 0 rfl
  refine QSeq.pure rfl _ (fun E => ex_move rfl (E.v oe0)) ?_
  refine QSeq.go fun act E => ?_
  refine qc_run rfl (wanted_none rfl) (v := .agg #[Value.pointer (some ⟨p, 0, none⟩), Value.slice none 0 0]) (ex_build rfl (z := [.pointer none, .slice none 0 0]) (places := [(0, 1), (1, 1)]) (by kernel_rfl) (parts := [(0, .pointer (some ⟨p, 0, none⟩))]) (by simp only [List.map_toArray, List.map_cons, List.map_nil, show act.eval (.tmp 12) = .pointer (some ⟨p, 0, none⟩) from (E.d 0 0)]; try rfl) (r := [Value.pointer (some ⟨p, 0, none⟩), Value.slice none 0 0]) (by rfl)) ?_
  clear act E
  refine QSeq.go fun act E => ?_
  refine qc_box rfl (wanted_none rfl) rfl (vs := [Value.pointer (some ⟨p, 0, none⟩), Value.slice none 0 0]) (by rw [show act.eval (.tmp 13) = _ from (E.d 1 0)]; rfl) ?_
  intro u3_2 qwl hm
  have zl3_2 := qwl.lt
  have Hx1 := hid qwl
  have zu3_2 := hm.size
  have Cx2 := hid (show Mod (fun _ => False) w u3_2 from hm)
  clear hm
  clear act E qwl
  refine QSeq.pure rfl _ (fun E => ex_assign rfl (E.d 2 0)) ?_
  refine QSeq.nil (t' := [_, _, _, _]) rfl ?_
  obtain rfl := HA0.out
  clear HA0 oe0
  simp only [pz, Act.put, List.setIfInBounds_toArray, List.set_cons_zero, List.set_cons_succ]
  obtain ⟨x, hx⟩ : ∃ x, x = w.heap.size := ⟨_, rfl⟩
  go_upto_region 4 with (fail)
  refine wp_region_U 62 [15, 16, 17, 5] [0, 1, 2, 3] (fun a0 HA0 => ?_)
  have oe0 := ev HA0 0 rfl
  refine QSeq.pure rfl _ (fun E => ex_move rfl (E.v oe0)) ?_
  refine QSeq.call rfl rfl Try.func17 (Read_Q (HD.out.mod Cx2.out (fun _ _ h => h)) hN) (fun E => args1 (E.d 0 0)) ?_
  rintro e u4_1 ⟨vrd, rfl, qrb, hm⟩
  obtain ⟨ao_rb, cap_rb, rfl⟩ := qrb.shape
  refine ⟨_, rfl, ?_⟩
  have Hx3 := hid qrb
  have zu4_1 := hm.size
  have Cx4 := hid (show Mod (fun _ => False) u3_2 u4_1 from hm)
  clear hm
  clear qrb
  refine QSeq.call rfl rfl Try.func32 (NewReader_R Hx3.out.rd (by decide)) (fun E => args1 (E.d 1 0)) ?_
  rintro e u4_2 ⟨r1, rfl, qrd, hm⟩
  refine ⟨_, rfl, ?_⟩
  have Hx5 := hid qrd
  have zu4_2 := hm.size
  have HMu4_2 := hid hm
  have Cx6 := hid (Cx4.out.goE hm)
  clear hm Cx4
  clear qrd
  refine QSeq.pure rfl _ (fun E => ex_assign rfl (E.d 2 0)) ?_
  have Hx7 := hid (Hx3.out.mod HMu4_2.out (fun _ _ h => h))
  clear Hx3 HMu4_2
  refine QSeq.nil (t' := [_, _, _, _]) rfl ?_
  obtain rfl := HA0.out
  clear HA0 oe0
  simp only [pz, Act.put, List.setIfInBounds_toArray, List.set_cons_zero, List.set_cons_succ]
  clear Hx7
  go_upto_region 5 with (fail)
  refine wp_region_U 62 [6] [0] (fun a0 HA0 => ?_)
  refine QSeq.pure rfl (.int .i64 0) (fun E => ex_assign rfl rfl) ?_
  refine QSeq.nil (t' := [_]) rfl ?_
  obtain rfl := HA0.out
  clear HA0
  simp only [pz, Act.put, List.setIfInBounds_toArray, List.set_cons_zero, List.set_cons_succ]
  have hsr := Hx5.out
  rw [HBS.out] at hsr
  have HRD := Lib.hid hsr
  clear hsr
  go_wp2
  go_loopw [6] (fun te wr => ∃ (dn td : List (List Int)) (v : Value), rs = dn ++ td ∧ te = .int .i64 ((rowsE dn).length : Nat) ∧ u4_2.heap.size ≤ wr.heap.size ∧ DkR R N wr p ⟨bs, sy, 0, false, false⟩ ∧ Cs wr (w.heap.size) #[Value.pointer (some ⟨p, 0, none⟩), v] 62 ∧ OwS RwR 22 (fun b => u4_2.heap.size ≤ b ∧ b < wr.heap.size) (fun b => u4_2.heap.size ≤ b ∧ b < wr.heap.size) wr v dn ∧ RrR 75 (fun k => (New u4_1 u4_2 k)) wr r1 (some (rowsE td ++ tl)) ∧ Mod R w wr) (fun te _ => bs.length - (intOf te).toNat)
  case atStart => exact ⟨[], rs, .slice none 0 0, rfl, rfl, Nat.le_refl _, ((HD.out.mod Cx2.out (fun _ _ h => h)).mod Cx6.out (fun _ _ h => h)), (Hx1.out.mod Cx6.out (fun h => h)), OwS.nil _ _ _ _ _, HRD.out, ((HM0.out.trans Cx2.out (fun _ _ h => h.elim)).trans Cx6.out (fun _ _ h => h.elim))⟩
  case round =>
    obtain ⟨dn, td, v, hrs, rfl, hz, hd, hc, ho, hr, hm⟩ := hrel
    obtain ⟨wl, rfl⟩ : ∃ x, x = wr := ⟨_, rfl⟩
    obtain ⟨aol, capl, rfl⟩ := ho.shape
    have HDL := Lib.hid hd
    have HCL := Lib.hid hc
    have HOL := Lib.hid ho
    have HRL := Lib.hid hr
    have HML := Lib.hid hm
    have HRS := Lib.hid hrs
    have hlr : (rowsE rs).length = (rowsE dn).length + (rowsE td).length := by rw [hrs]; unfold rowsE; rw [List.flatMap_append, List.length_append]
    clear hd hc ho hr hm hrs HD HM0 Hx1 Hx5 HRD
    cases td with
    | cons b td =>
      have hb := HF.out b (by rw [HRS.out]; simp)
      have hlb : (rowsE (b :: td)).length = (encR b).length + (rowsE td).length := by rw [rowsE_cons, List.length_append]
      have hbp := encR_pos b
      have hla : (rowsE (b :: td) ++ tl).length = (rowsE (b :: td)).length + tl.length := List.length_append
      have hla2 : (rowsE td ++ tl).length = (rowsE td).length + tl.length := List.length_append
      have hln : (rowsE (dn ++ [b])).length = (rowsE dn).length + (encR b).length := by rw [rowsE_snoc, List.length_append]
      go_upto_region 6 with (fail)
      refine wp_region_U 62 [18, 19, 20] [0, 1, 2] (fun a0 HA0 => ?_)
      have oe5 := ev HA0 5 rfl
      refine QSeq.pure rfl _ (fun E => ex_move rfl (E.v oe5)) ?_
      refine QSeq.go fun act E => ?_
      refine qc_callF (args := #[.pointer (some ⟨r1, 0, none⟩)]) rfl (wanted_none rfl) rfl Try.func33 (args1 (E.d 0 0)) (Left_Q HRL.out) ?_
      rintro e w2 ⟨rfl, hw2⟩
      obtain rfl : wl = w2 := by first | exact hw2 | exact hw2.symm
      refine ⟨_, rfl, ?_⟩
      clear act E
      refine QSeq.pure rfl (.bool true) (fun E => ex_binE rfl (E.d 1 0) rfl (guard_ints _ _ _ _ _ _) (run_gtr_i _ _ _ Try.underlying3) (congrArg Value.bool (decide_eq_true (by omega)))) ?_
      refine QSeq.nil (t' := [_, _, _]) rfl ?_
      obtain rfl := HA0.out
      clear HA0 oe5
      simp only [pz, Act.put, List.setIfInBounds_toArray, List.set_cons_zero, List.set_cons_succ]
      have hq := HRL.out
      rw [rowsE_cons, List.append_assoc] at hq
      have HQR := Lib.hid hq
      clear hq
      go_upto_region 7 with (fail)
      refine wp_region_U 62 [21, 22, 7] [0, 1, 2] (fun a0 HA0 => ?_)
      have oe5 := ev HA0 5 rfl
      refine QSeq.pure rfl _ (fun E => ex_move rfl (E.v oe5)) ?_
      refine QSeq.call rfl rfl Try.func34 (Row_Q HQR.out hb) (fun E => args2 (E.d 0 0) rfl) ?_
      rintro e u7_1 ⟨vb, rfl, qel, qrd, hm⟩
      obtain ⟨ao_b, cap_b, rfl⟩ := qel.shape
      refine ⟨_, rfl, ?_⟩
      have Hx8 := hid qel
      have Hx9 := hid qrd
      have zu7_1 := hm.size
      have Cx10 := hid (show Mod (fun k => (New u4_1 u4_2 k)) wl u7_1 from hm)
      clear hm
      clear qel qrd HQR
      refine QSeq.pure rfl _ (fun E => ex_assign rfl (E.d 1 0)) ?_
      refine QSeq.nil (t' := [_, _, _]) rfl ?_
      obtain rfl := HA0.out
      clear HA0 oe5
      simp only [pz, Act.put, List.setIfInBounds_toArray, List.set_cons_zero, List.set_cons_succ]
      go_upto_region 8 with (fail)
      refine wp_region_U 62 [23, 24, 25] [0, 1, 2] (fun a0 HA0 => ?_)
      have oe5 := ev HA0 5 rfl
      refine QSeq.pure rfl _ (fun E => ex_move rfl (E.v oe5)) ?_
      refine QSeq.go fun act E => ?_
      refine qc_callF (args := #[.pointer (some ⟨r1, 0, none⟩)]) rfl (wanted_none rfl) rfl Try.func35 (args1 (E.d 0 0)) (OK_Q Hx9.out rfl) ?_
      rintro e w2 ⟨rfl, hw2⟩
      obtain rfl : u7_1 = w2 := by first | exact hw2 | exact hw2.symm
      refine ⟨_, rfl, ?_⟩
      clear act E
      refine QSeq.pure rfl (.bool false) (fun E => ex_not rfl (E.d 1 0)) ?_
      refine QSeq.nil (t' := [_, _, _]) rfl ?_
      obtain rfl := HA0.out
      clear HA0 oe5
      simp only [pz, Act.put, List.setIfInBounds_toArray, List.set_cons_zero, List.set_cons_succ]
      have hdl : dn.length ≤ 900000 := by have := rowsE_count dn; omega
      go_upto_region 9 with (fail)
      refine wp_region_U 62 [26, 27, 28, 29, 30, 31, 32, 33, 34, 35, 72] [0, 1, 2, 3, 4, 5, 6, 7, 8, 9, 10] (fun a0 HA0 => ?_)
      have oe4 := ev HA0 4 rfl
      have oe7 := ev HA0 7 rfl
      refine QSeq.pure rfl _ (fun E => ex_move rfl (E.v oe4)) ?_
      refine QSeq.pure rfl _ (fun E => ex_move rfl (E.v oe4)) ?_
      refine QSeq.pure rfl (.pointer (some ⟨w.heap.size, 0, none⟩)) (fun E => ex_nil rfl (E.d 1 0)) ?_
      refine QSeq.pure rfl (.pointer (some ⟨w.heap.size, 1, none⟩)) (fun E => ex_field rfl Try.underlying62 rfl (by kernel_rfl) (E.d 2 0)) ?_
      refine QSeq.pure rfl _ (fun E => ex_load1 rfl Try.underlying33 rfl (E.d 3 0) (Cs.lit1 (HCL.out.mod Cx10.out (by intro h2; omega)) rfl)) ?_
      refine QSeq.pure rfl _ (fun E => ex_move rfl (E.v oe7)) ?_
      refine QSeq.go fun act E => ?_
      have ea31 : act.eval (.tmp 31) = .slice ao_b b.length cap_b := (E.d 5 0)
      refine qc_rows rfl (wanted_none rfl) rfl Try.underlying33 (by decide) (C := #[.slice ao_b b.length cap_b]) (by simp only [List.map_toArray, List.map_cons, List.map_nil, ea31]; kernel_rfl) ?_
      intro u9_6 qrow hm
      have zl9_6 := qrow.lt
      have Hx11 := hid qrow
      have zu9_6 := hm.size
      have Cx12 := hid (show Mod (fun _ => False) u7_1 u9_6 from hm)
      clear hm
      clear act E qrow ea31
      refine QSeq.go fun act E => ?_
      refine qc_appS (A := RwR) (e := 22) rfl (wanted_none rfl) rfl (.slice none 0 0) 24 Try.underlying33 info_Rw (by rfl) (of_decide_eq_true (by kernel_rfl)) (E.d 4 2) (E.d 6 0) (((HOL.out.mod Cx10.out (by intro k h1 h2; omega) (by intro k h1 h2; omega)).mod Cx12.out (fun _ _ h => h) (fun _ _ h => h))) (RdS.single (R := (fun k => (New wl u7_1 k) ∨ (k = u7_1.heap.size))) Hx11.out (RwR.mk ((Hx8.out.mod Cx12.out (fun _ _ h => h)).rd.widen (R' := (fun k => (New wl u7_1 k) ∨ (k = u7_1.heap.size))) (fun k h1 => Or.inl h1) (Nat.le_refl _)) (by omega)) (by right; rfl)) (by intro k h1 h2; omega) (by have h9 : dn.length ≤ 900000 := hdl; simp only [List.length_cons, List.length_nil]; omega) (by have h9 : dn.length ≤ 900000 := hdl; rw [maxLen_val]; simp only [List.length_cons, List.length_nil]; omega) ?_
      intro ao6 cap6 u9_7 qout hm
      have Hx13 := hid (qout.widen (R' := (fun k => (New u4_2 wl k) ∨ (New u9_6 u9_7 k))) (E' := (fun k => (New u4_2 wl k) ∨ (New wl u7_1 k) ∨ (k = u7_1.heap.size))) (fun _ h => h) (by intro k h1; rcases h1 with h1 | (h1 | h1) <;> first | omega | exact h1.elim | exact Or.inl h1 | exact Or.inr (Or.inl h1) | exact Or.inr (Or.inr (h1))))
      have zu9_7 := hm.size
      have HMu9_7 := hid hm
      have Cx14 := hid (Mod.goS (S' := (fun k => (New u4_2 wl k))) Cx12.out hm (fun _ h => h.elim) (by intro k h0 h2; exact h2))
      clear hm Cx12
      clear act E qout HOL
      refine QSeq.pure rfl (.pointer (some ⟨w.heap.size, 0, none⟩)) (fun E => ex_nil rfl (E.d 0 7)) ?_
      refine QSeq.pure rfl (.pointer (some ⟨w.heap.size, 1, none⟩)) (fun E => ex_field rfl Try.underlying62 rfl (by kernel_rfl) (E.d 8 0)) ?_
      refine QSeq.go fun act E => ?_
      refine qc_store rfl (wanted_none rfl) rfl ((HCL.out.mod Cx10.out (by intro h2; omega)).mod Cx14.out (by intro h2; omega)) (off := 1) (vs := [Value.slice ao6 (dn.length + 1) cap6]) (by kernel_rfl) one1 (by simp) (E.d 9 0) (ec (E.d 7 2)) ?_
      intro u9_10 qc0 hm
      have qwl := qc0.eqv (b := #[Value.pointer (some ⟨p, 0, none⟩), Value.slice ao6 (dn.length + 1) cap6]) rfl
      clear qc0
      have Hx15 := hid qwl
      have zu9_10 := hm.size
      have HMu9_10 := hid hm
      have Cx16 := hid (Mod.goS (S' := (fun k => (New u4_2 wl k) ∨ (k = w.heap.size))) Cx14.out hm (fun _ h => Or.inl h) (by intro k h0 h2; exact Or.inr (h2)))
      clear hm Cx14
      clear act E qwl HCL
      have Hx17 := hid (Hx13.out.mod HMu9_10.out (by intro k h1 h2; omega) (by intro k h1 h2; omega))
      have Hx18 := hid ((Hx11.out.mod HMu9_7.out (by intro h2; omega)).mod HMu9_10.out (by intro h2; omega))
      clear Hx13 Hx11 HMu9_7 HMu9_10
      refine QSeq.nil (t' := [_, _, _, _, _, _, _, _, _, _, _]) rfl ?_
      obtain rfl := HA0.out
      clear HA0 oe4 oe7
      simp only [pz, Act.put, List.setIfInBounds_toArray, List.set_cons_zero, List.set_cons_succ, List.set_nil]
      have hw9 : IntKind.i64.wrap (((bs.length : Nat) : Int) - (((rowsE td ++ tl).length : Nat) : Int)) = (((rowsE (dn ++ [b])).length : Nat) : Int) := i64_eq (by omega) (by omega) (by omega)
      go_upto_region 10 with (fail)
      refine wp_region_U 62 [36, 37, 38, 39, 40, 6] [0, 1, 2, 3, 4, 5] (fun a0 HA0 => ?_)
      have oe0 := ev HA0 0 rfl
      have oe5 := ev HA0 5 rfl
      refine QSeq.pure rfl _ (fun E => ex_move rfl (E.v oe0)) ?_
      refine QSeq.go fun act E => ?_
      refine qc_callF (args := #[.pointer (some ⟨p, 0, none⟩)]) rfl (wanted_none rfl) rfl Try.func20 (args1 (E.d 0 0)) (Len_Q ((HDL.out.mod Cx10.out (sN HBR)).mod Cx16.out (by intro k h1 h2; have hb := HBR.out k h1; omega))) ?_
      rintro e w2 ⟨rfl, hw2⟩
      obtain rfl : u9_10 = w2 := by first | exact hw2 | exact hw2.symm
      refine ⟨_, rfl, ?_⟩
      clear act E
      refine QSeq.pure rfl _ (fun E => ex_move rfl (E.v oe5)) ?_
      refine QSeq.go fun act E => ?_
      refine qc_callF (args := #[.pointer (some ⟨r1, 0, none⟩)]) rfl (wanted_none rfl) rfl Try.func33 (args1 (E.d 2 0)) (Left_Q (Hx9.out.mod Cx16.out (by intro k h1 h2; omega))) ?_
      rintro e w2 ⟨rfl, hw2⟩
      obtain rfl : u9_10 = w2 := by first | exact hw2 | exact hw2.symm
      refine ⟨_, rfl, ?_⟩
      clear act E
      refine QSeq.pure rfl (.int .i64 (((rowsE (dn ++ [b])).length : Nat) : Int)) (fun E => ex_binE rfl (E.d 1 2) (E.d 3 0) (guard_ints _ _ _ _ _ _) (run_sub_i _ _ Try.underlying3) (congrArg (Value.int .i64) hw9)) ?_
      refine QSeq.pure rfl _ (fun E => ex_assign rfl (E.d 4 0)) ?_
      refine QSeq.nil (t' := [_, _, _, _, _, _]) rfl ?_
      obtain rfl := HA0.out
      clear HA0 oe0 oe5
      simp only [pz, Act.put, List.setIfInBounds_toArray, List.set_cons_zero, List.set_cons_succ]
      go_wp2
      go_roundw
      case rel => exact ⟨dn ++ [b], td, _, by rw [HRS.out, List.append_assoc]; rfl, rfl, by omega, ((HDL.out.mod Cx10.out (sN HBR)).mod Cx16.out (by intro k h1 h2; have hb := HBR.out k h1; omega)), Hx15.out, Hx17.out.widen (by intro b h1; (try dsimp only at h1 ⊢); omega) (by intro b h1; (try dsimp only at h1 ⊢); omega), (Hx9.out.mod Cx16.out (by intro k h1 h2; omega)), ((HML.out.trans Cx10.out (by intro k h1 h2; first | exact h2 | omega)).trans Cx16.out (by intro k h1 h2; rcases h2 with h2 | h2 <;> first | exact h2 | omega))⟩
      case measure => simp only [intOf, Int.toNat_natCast]; omega
    | nil =>
      have hdr := HRS.out
      rw [List.append_nil] at hdr
      subst hdr
      clear hlr
      by_cases ht0 : tl.length = 0
      · skip
        have hla : (rowsE [] ++ tl).length = tl.length := rfl
        go_upto_region 6 with (fail)
        refine wp_region_U 62 [18, 19, 20] [0, 1, 2] (fun a0 HA0 => ?_)
        have oe5 := ev HA0 5 rfl
        refine QSeq.pure rfl _ (fun E => ex_move rfl (E.v oe5)) ?_
        refine QSeq.go fun act E => ?_
        refine qc_callF (args := #[.pointer (some ⟨r1, 0, none⟩)]) rfl (wanted_none rfl) rfl Try.func33 (args1 (E.d 0 0)) (Left_Q HRL.out) ?_
        rintro e w2 ⟨rfl, hw2⟩
        obtain rfl : wl = w2 := by first | exact hw2 | exact hw2.symm
        refine ⟨_, rfl, ?_⟩
        clear act E
        refine QSeq.pure rfl (.bool false) (fun E => ex_binE rfl (E.d 1 0) rfl (guard_ints _ _ _ _ _ _) (run_gtr_i _ _ _ Try.underlying3) (congrArg Value.bool (decide_eq_false (by omega)))) ?_
        refine QSeq.nil (t' := [_, _, _]) rfl ?_
        obtain rfl := HA0.out
        clear HA0 oe5
        simp only [pz, Act.put, List.setIfInBounds_toArray, List.set_cons_zero, List.set_cons_succ]
        go_upto_region 11 with (fail)
        refine wp_region_U 62 [41, 42, 43, 44] [0, 1, 2, 3] (fun a0 HA0 => ?_)
        have oe0 := ev HA0 0 rfl
        have oe6 := ev HA0 6 rfl
        refine QSeq.pure rfl _ (fun E => ex_move rfl (E.v oe6)) ?_
        refine QSeq.pure rfl _ (fun E => ex_move rfl (E.v oe0)) ?_
        refine QSeq.go fun act E => ?_
        refine qc_callF (args := #[.pointer (some ⟨p, 0, none⟩)]) rfl (wanted_none rfl) rfl Try.func20 (args1 (E.d 1 0)) (Len_Q HDL.out) ?_
        rintro e w2 ⟨rfl, hw2⟩
        obtain rfl : wl = w2 := by first | exact hw2 | exact hw2.symm
        refine ⟨_, rfl, ?_⟩
        clear act E
        refine QSeq.pure rfl (.bool false) (fun E => ex_binE rfl (E.d 0 2) (E.d 2 0) (guard_ints _ _ _ _ _ _) (run_lss_i _ _ _ Try.underlying3) (congrArg Value.bool (decide_eq_false (by omega)))) ?_
        refine QSeq.nil (t' := [_, _, _, _]) rfl ?_
        obtain rfl := HA0.out
        clear HA0 oe0 oe6
        simp only [pz, Act.put, List.setIfInBounds_toArray, List.set_cons_zero, List.set_cons_succ]
        have HT := hid (show bs = rowsE rs by rw [HBS.out]; have h9 : tl.length = 0 := (by omega); rw [List.eq_nil_of_length_eq_zero h9, List.append_nil])
        have hlb : bs.length = (rowsE rs).length := by rw [HT.out]
        by_cases hss : sy < bs.length
        · skip
          go_upto_region 15 with (fail)
          refine wp_region_U 62 [51, 52, 53, 54, 55] [0, 1, 2, 3, 4] (fun a0 HA0 => ?_)
          have oe0 := ev HA0 0 rfl
          refine QSeq.pure rfl _ (fun E => ex_move rfl (E.v oe0)) ?_
          refine QSeq.go fun act E => ?_
          refine qc_callF (args := #[.pointer (some ⟨p, 0, none⟩)]) rfl (wanted_none rfl) rfl Try.func19 (args1 (E.d 0 0)) (Synced_Q HDL.out) ?_
          rintro e w2 ⟨rfl, hw2⟩
          obtain rfl : wl = w2 := by first | exact hw2 | exact hw2.symm
          refine ⟨_, rfl, ?_⟩
          clear act E
          refine QSeq.pure rfl _ (fun E => ex_move rfl (E.v oe0)) ?_
          refine QSeq.go fun act E => ?_
          refine qc_callF (args := #[.pointer (some ⟨p, 0, none⟩)]) rfl (wanted_none rfl) rfl Try.func20 (args1 (E.d 2 0)) (Len_Q HDL.out) ?_
          rintro e w2 ⟨rfl, hw2⟩
          obtain rfl : wl = w2 := by first | exact hw2 | exact hw2.symm
          refine ⟨_, rfl, ?_⟩
          clear act E
          refine QSeq.pure rfl (.bool true) (fun E => ex_binE rfl (E.d 1 2) (E.d 3 0) (guard_ints _ _ _ _ _ _) (run_lss_i _ _ _ Try.underlying3) (congrArg Value.bool (decide_eq_true (by omega)))) ?_
          refine QSeq.nil (t' := [_, _, _, _, _]) rfl ?_
          obtain rfl := HA0.out
          clear HA0 oe0
          simp only [pz, Act.put, List.setIfInBounds_toArray, List.set_cons_zero, List.set_cons_succ]
          go_upto_region 16 with (fail)
          refine wp_region_U 62 [56, 57, 9] [0, 1, 2] (fun a0 HA0 => ?_)
          have oe0 := ev HA0 0 rfl
          refine QSeq.pure rfl _ (fun E => ex_move rfl (E.v oe0)) ?_
          refine QSeq.call rfl rfl Try.func37 (Sync_Q HDL.out) (fun E => args1 (E.d 0 0)) ?_
          rintro e u16_1 ⟨rfl, qdk, hm⟩
          refine ⟨_, rfl, ?_⟩
          have Hx19 := hid qdk
          have zu16_1 := hm.size
          have Cx20 := hid (show Mod (fun k => (R k)) wl u16_1 from hm)
          clear hm
          clear qdk HDL
          refine QSeq.pure rfl _ (fun E => ex_assign rfl (E.d 1 0)) ?_
          refine QSeq.nil (t' := [_, _, _]) rfl ?_
          obtain rfl := HA0.out
          clear HA0 oe0
          simp only [pz, Act.put, List.setIfInBounds_toArray, List.set_cons_zero, List.set_cons_succ]
          go_upto_region 17 with (fail)
          refine wp_region_U 62 [58, 59] [0, 1] (fun a0 HA0 => ?_)
          have oe9 := ev HA0 9 rfl
          refine QSeq.pure rfl _ (fun E => ex_move rfl (E.v oe9)) ?_
          refine QSeq.pure rfl (.bool false) (fun E => ex_binE rfl (E.d 0 0) rfl (guard_ints _ _ _ _ _ _) (run_neq_i _ _ _ Try.underlying26) (congrArg Value.bool (ne_ff rfl))) ?_
          refine QSeq.nil (t' := [_, _]) rfl ?_
          obtain rfl := HA0.out
          clear HA0 oe9
          simp only [pz, Act.put, List.setIfInBounds_toArray, List.set_cons_zero, List.set_cons_succ]
          go_upto_region 19 with (fail)
          refine wp_region_U 62 [61, 2, 3] [0, 1, 2] (fun a0 HA0 => ?_)
          have oe4 := ev HA0 4 rfl
          refine QSeq.pure rfl _ (fun E => ex_move rfl (E.v oe4)) ?_
          refine QSeq.pure rfl _ (fun E => ex_assign rfl (E.d 0 0)) ?_
          refine QSeq.pure rfl (.int .i64 0) (fun E => ex_assign rfl rfl) ?_
          refine QSeq.nil (t' := [_, _, _]) rfl ?_
          obtain rfl := HA0.out
          clear HA0 oe4
          simp only [pz, Act.put, List.setIfInBounds_toArray, List.set_cons_zero, List.set_cons_succ]
          go_wp2
          have hq := Hx19.out
          rw [HT.out] at hq
          exact bodyPost_ret (results_tmp2 rfl _ _ _) rfl ⟨_, rfl, ⟨_, (HCL.out.mod Cx20.out (by intro h2; first | omega | (have hb := HBR.out _ h2; omega))), ⟨by omega, by have := ((HCL.out.mod Cx20.out (by intro h2; first | omega | (have hb := HBR.out _ h2; omega)))).lt; omega⟩, (HOL.out.mod Cx20.out (by intro k h1 h2; have hb := HBR.out k h2; omega) (by intro k h1 h2; have hb := HBR.out k h2; omega)).widen (by intro b h1; (try dsimp only at h1 ⊢); unfold New; omega) (by intro b h1; (try dsimp only at h1 ⊢); unfold New; omega)⟩, hq, (HML.out.trans Cx20.out (fun _ _ h => h))⟩
        · skip
          go_upto_region 15 with (fail)
          refine wp_region_U 62 [51, 52, 53, 54, 55] [0, 1, 2, 3, 4] (fun a0 HA0 => ?_)
          have oe0 := ev HA0 0 rfl
          refine QSeq.pure rfl _ (fun E => ex_move rfl (E.v oe0)) ?_
          refine QSeq.go fun act E => ?_
          refine qc_callF (args := #[.pointer (some ⟨p, 0, none⟩)]) rfl (wanted_none rfl) rfl Try.func19 (args1 (E.d 0 0)) (Synced_Q HDL.out) ?_
          rintro e w2 ⟨rfl, hw2⟩
          obtain rfl : wl = w2 := by first | exact hw2 | exact hw2.symm
          refine ⟨_, rfl, ?_⟩
          clear act E
          refine QSeq.pure rfl _ (fun E => ex_move rfl (E.v oe0)) ?_
          refine QSeq.go fun act E => ?_
          refine qc_callF (args := #[.pointer (some ⟨p, 0, none⟩)]) rfl (wanted_none rfl) rfl Try.func20 (args1 (E.d 2 0)) (Len_Q HDL.out) ?_
          rintro e w2 ⟨rfl, hw2⟩
          obtain rfl : wl = w2 := by first | exact hw2 | exact hw2.symm
          refine ⟨_, rfl, ?_⟩
          clear act E
          refine QSeq.pure rfl (.bool false) (fun E => ex_binE rfl (E.d 1 2) (E.d 3 0) (guard_ints _ _ _ _ _ _) (run_lss_i _ _ _ Try.underlying3) (congrArg Value.bool (decide_eq_false (by omega)))) ?_
          refine QSeq.nil (t' := [_, _, _, _, _]) rfl ?_
          obtain rfl := HA0.out
          clear HA0 oe0
          simp only [pz, Act.put, List.setIfInBounds_toArray, List.set_cons_zero, List.set_cons_succ]
          go_upto_region 19 with (fail)
          refine wp_region_U 62 [61, 2, 3] [0, 1, 2] (fun a0 HA0 => ?_)
          have oe4 := ev HA0 4 rfl
          refine QSeq.pure rfl _ (fun E => ex_move rfl (E.v oe4)) ?_
          refine QSeq.pure rfl _ (fun E => ex_assign rfl (E.d 0 0)) ?_
          refine QSeq.pure rfl (.int .i64 0) (fun E => ex_assign rfl rfl) ?_
          refine QSeq.nil (t' := [_, _, _]) rfl ?_
          obtain rfl := HA0.out
          clear HA0 oe4
          simp only [pz, Act.put, List.setIfInBounds_toArray, List.set_cons_zero, List.set_cons_succ]
          go_wp2
          have hq := HDL.out
          rw [HT.out] at hq
          rw [show sy = (rowsE rs).length by omega] at hq
          exact bodyPost_ret (results_tmp2 rfl _ _ _) rfl ⟨_, rfl, ⟨_, HCL.out, ⟨by omega, by have := (HCL.out).lt; omega⟩, HOL.out.widen (by intro b h1; (try dsimp only at h1 ⊢); unfold New; omega) (by intro b h1; (try dsimp only at h1 ⊢); unfold New; omega)⟩, hq, HML.out⟩
      · skip
        have hla : (rowsE [] ++ tl).length = tl.length := rfl
        go_upto_region 6 with (fail)
        refine wp_region_U 62 [18, 19, 20] [0, 1, 2] (fun a0 HA0 => ?_)
        have oe5 := ev HA0 5 rfl
        refine QSeq.pure rfl _ (fun E => ex_move rfl (E.v oe5)) ?_
        refine QSeq.go fun act E => ?_
        refine qc_callF (args := #[.pointer (some ⟨r1, 0, none⟩)]) rfl (wanted_none rfl) rfl Try.func33 (args1 (E.d 0 0)) (Left_Q HRL.out) ?_
        rintro e w2 ⟨rfl, hw2⟩
        obtain rfl : wl = w2 := by first | exact hw2 | exact hw2.symm
        refine ⟨_, rfl, ?_⟩
        clear act E
        refine QSeq.pure rfl (.bool true) (fun E => ex_binE rfl (E.d 1 0) rfl (guard_ints _ _ _ _ _ _) (run_gtr_i _ _ _ Try.underlying3) (congrArg Value.bool (decide_eq_true (by omega)))) ?_
        refine QSeq.nil (t' := [_, _, _]) rfl ?_
        obtain rfl := HA0.out
        clear HA0 oe5
        simp only [pz, Act.put, List.setIfInBounds_toArray, List.set_cons_zero, List.set_cons_succ]
        have HSK := hid (show (rRow 65536 (some (rowsE [] ++ tl))).2 = none from HST.out.resolve_left (fun e => ht0 (by rw [e]; rfl)))
        clear HST
        go_upto_region 7 with (fail)
        refine wp_region_U 62 [21, 22, 7] [0, 1, 2] (fun a0 HA0 => ?_)
        have oe5 := ev HA0 5 rfl
        refine QSeq.pure rfl _ (fun E => ex_move rfl (E.v oe5)) ?_
        refine QSeq.call rfl rfl Try.func34 (Row_stuck HRL.out HSK.out) (fun E => args2 (E.d 0 0) rfl) ?_
        rintro e u7_1 ⟨vb, rfl, qel, qrd, hm⟩
        obtain ⟨ao_b, cap_b, rfl⟩ := qel.shape
        refine ⟨_, rfl, ?_⟩
        have Hx21 := hid qel
        have Hx22 := hid qrd
        have zu7_1 := hm.size
        have Cx23 := hid (show Mod (fun k => (New u4_1 u4_2 k)) wl u7_1 from hm)
        clear hm
        clear qel qrd HRL
        refine QSeq.pure rfl _ (fun E => ex_assign rfl (E.d 1 0)) ?_
        refine QSeq.nil (t' := [_, _, _]) rfl ?_
        obtain rfl := HA0.out
        clear HA0 oe5
        simp only [pz, Act.put, List.setIfInBounds_toArray, List.set_cons_zero, List.set_cons_succ]
        clear Hx21
        go_upto_region 8 with (fail)
        refine wp_region_U 62 [23, 24, 25] [0, 1, 2] (fun a0 HA0 => ?_)
        have oe5 := ev HA0 5 rfl
        refine QSeq.pure rfl _ (fun E => ex_move rfl (E.v oe5)) ?_
        refine QSeq.go fun act E => ?_
        refine qc_callF (args := #[.pointer (some ⟨r1, 0, none⟩)]) rfl (wanted_none rfl) rfl Try.func35 (args1 (E.d 0 0)) (OK_Q Hx22.out rfl) ?_
        rintro e w2 ⟨rfl, hw2⟩
        obtain rfl : u7_1 = w2 := by first | exact hw2 | exact hw2.symm
        refine ⟨_, rfl, ?_⟩
        clear act E
        refine QSeq.pure rfl (.bool true) (fun E => ex_not rfl (E.d 1 0)) ?_
        refine QSeq.nil (t' := [_, _, _]) rfl ?_
        obtain rfl := HA0.out
        clear HA0 oe5
        simp only [pz, Act.put, List.setIfInBounds_toArray, List.set_cons_zero, List.set_cons_succ]
        go_upto_region 11 with (fail)
        refine wp_region_U 62 [41, 42, 43, 44] [0, 1, 2, 3] (fun a0 HA0 => ?_)
        have oe0 := ev HA0 0 rfl
        have oe6 := ev HA0 6 rfl
        refine QSeq.pure rfl _ (fun E => ex_move rfl (E.v oe6)) ?_
        refine QSeq.pure rfl _ (fun E => ex_move rfl (E.v oe0)) ?_
        refine QSeq.go fun act E => ?_
        refine qc_callF (args := #[.pointer (some ⟨p, 0, none⟩)]) rfl (wanted_none rfl) rfl Try.func20 (args1 (E.d 1 0)) (Len_Q (HDL.out.mod Cx23.out (sN HBR))) ?_
        rintro e w2 ⟨rfl, hw2⟩
        obtain rfl : u7_1 = w2 := by first | exact hw2 | exact hw2.symm
        refine ⟨_, rfl, ?_⟩
        clear act E
        refine QSeq.pure rfl (.bool true) (fun E => ex_binE rfl (E.d 0 2) (E.d 2 0) (guard_ints _ _ _ _ _ _) (run_lss_i _ _ _ Try.underlying3) (congrArg Value.bool (decide_eq_true (by omega)))) ?_
        refine QSeq.nil (t' := [_, _, _, _]) rfl ?_
        obtain rfl := HA0.out
        clear HA0 oe0 oe6
        simp only [pz, Act.put, List.setIfInBounds_toArray, List.set_cons_zero, List.set_cons_succ]
        go_upto_region 12 with (fail)
        refine wp_region_U 62 [45, 46, 47, 8] [0, 1, 2, 3] (fun a0 HA0 => ?_)
        have oe0 := ev HA0 0 rfl
        have oe6 := ev HA0 6 rfl
        refine QSeq.pure rfl _ (fun E => ex_move rfl (E.v oe0)) ?_
        refine QSeq.pure rfl _ (fun E => ex_move rfl (E.v oe6)) ?_
        refine QSeq.call rfl rfl Try.func36 (Cut_Q (n := (rowsE rs).length) (HDL.out.mod Cx23.out (sN HBR)) (by omega) hN) (fun E => args2 (E.d 0 1) (E.d 1 0)) ?_
        rintro e u12_2 ⟨rfl, qdk, hm⟩
        refine ⟨_, rfl, ?_⟩
        have Hx24 := hid qdk
        have zu12_2 := hm.size
        have Cx25 := hid (show Mod (fun k => (R k)) u7_1 u12_2 from hm)
        clear hm
        clear qdk HDL
        refine QSeq.pure rfl _ (fun E => ex_assign rfl (E.d 2 0)) ?_
        refine QSeq.nil (t' := [_, _, _, _]) rfl ?_
        obtain rfl := HA0.out
        clear HA0 oe0 oe6
        simp only [pz, Act.put, List.setIfInBounds_toArray, List.set_cons_zero, List.set_cons_succ]
        go_upto_region 13 with (fail)
        refine wp_region_U 62 [48, 49] [0, 1] (fun a0 HA0 => ?_)
        have oe8 := ev HA0 8 rfl
        refine QSeq.pure rfl _ (fun E => ex_move rfl (E.v oe8)) ?_
        refine QSeq.pure rfl (.bool false) (fun E => ex_binE rfl (E.d 0 0) rfl (guard_ints _ _ _ _ _ _) (run_neq_i _ _ _ Try.underlying26) (congrArg Value.bool (ne_ff rfl))) ?_
        refine QSeq.nil (t' := [_, _]) rfl ?_
        obtain rfl := HA0.out
        clear HA0 oe8
        simp only [pz, Act.put, List.setIfInBounds_toArray, List.set_cons_zero, List.set_cons_succ]
        have hq := Hx24.out
        rw [show bs.take (rowsE rs).length = rowsE rs by rw [HBS.out]; exact List.take_left] at hq
        obtain ⟨sz, hsz⟩ : ∃ z, z = min sy (rowsE rs).length := ⟨_, rfl⟩
        rw [← hsz] at hq
        have HQ := Lib.hid hq
        clear hq
        have HT := hid (show rowsE rs = rowsE rs from rfl)
        have hlb : (rowsE rs).length = (rowsE rs).length := by rw [HT.out]
        by_cases hss : sz < (rowsE rs).length
        · skip
          go_upto_region 15 with (fail)
          refine wp_region_U 62 [51, 52, 53, 54, 55] [0, 1, 2, 3, 4] (fun a0 HA0 => ?_)
          have oe0 := ev HA0 0 rfl
          refine QSeq.pure rfl _ (fun E => ex_move rfl (E.v oe0)) ?_
          refine QSeq.go fun act E => ?_
          refine qc_callF (args := #[.pointer (some ⟨p, 0, none⟩)]) rfl (wanted_none rfl) rfl Try.func19 (args1 (E.d 0 0)) (Synced_Q HQ.out) ?_
          rintro e w2 ⟨rfl, hw2⟩
          obtain rfl : u12_2 = w2 := by first | exact hw2 | exact hw2.symm
          refine ⟨_, rfl, ?_⟩
          clear act E
          refine QSeq.pure rfl _ (fun E => ex_move rfl (E.v oe0)) ?_
          refine QSeq.go fun act E => ?_
          refine qc_callF (args := #[.pointer (some ⟨p, 0, none⟩)]) rfl (wanted_none rfl) rfl Try.func20 (args1 (E.d 2 0)) (Len_Q HQ.out) ?_
          rintro e w2 ⟨rfl, hw2⟩
          obtain rfl : u12_2 = w2 := by first | exact hw2 | exact hw2.symm
          refine ⟨_, rfl, ?_⟩
          clear act E
          refine QSeq.pure rfl (.bool true) (fun E => ex_binE rfl (E.d 1 2) (E.d 3 0) (guard_ints _ _ _ _ _ _) (run_lss_i _ _ _ Try.underlying3) (congrArg Value.bool (decide_eq_true (by omega)))) ?_
          refine QSeq.nil (t' := [_, _, _, _, _]) rfl ?_
          obtain rfl := HA0.out
          clear HA0 oe0
          simp only [pz, Act.put, List.setIfInBounds_toArray, List.set_cons_zero, List.set_cons_succ]
          go_upto_region 16 with (fail)
          refine wp_region_U 62 [56, 57, 9] [0, 1, 2] (fun a0 HA0 => ?_)
          have oe0 := ev HA0 0 rfl
          refine QSeq.pure rfl _ (fun E => ex_move rfl (E.v oe0)) ?_
          refine QSeq.call rfl rfl Try.func37 (Sync_Q HQ.out) (fun E => args1 (E.d 0 0)) ?_
          rintro e u16_1 ⟨rfl, qdk, hm⟩
          refine ⟨_, rfl, ?_⟩
          have Hx26 := hid qdk
          have zu16_1 := hm.size
          have Cx27 := hid (show Mod (fun k => (R k)) u12_2 u16_1 from hm)
          clear hm
          clear qdk HQ
          refine QSeq.pure rfl _ (fun E => ex_assign rfl (E.d 1 0)) ?_
          refine QSeq.nil (t' := [_, _, _]) rfl ?_
          obtain rfl := HA0.out
          clear HA0 oe0
          simp only [pz, Act.put, List.setIfInBounds_toArray, List.set_cons_zero, List.set_cons_succ]
          go_upto_region 17 with (fail)
          refine wp_region_U 62 [58, 59] [0, 1] (fun a0 HA0 => ?_)
          have oe9 := ev HA0 9 rfl
          refine QSeq.pure rfl _ (fun E => ex_move rfl (E.v oe9)) ?_
          refine QSeq.pure rfl (.bool false) (fun E => ex_binE rfl (E.d 0 0) rfl (guard_ints _ _ _ _ _ _) (run_neq_i _ _ _ Try.underlying26) (congrArg Value.bool (ne_ff rfl))) ?_
          refine QSeq.nil (t' := [_, _]) rfl ?_
          obtain rfl := HA0.out
          clear HA0 oe9
          simp only [pz, Act.put, List.setIfInBounds_toArray, List.set_cons_zero, List.set_cons_succ]
          go_upto_region 19 with (fail)
          refine wp_region_U 62 [61, 2, 3] [0, 1, 2] (fun a0 HA0 => ?_)
          have oe4 := ev HA0 4 rfl
          refine QSeq.pure rfl _ (fun E => ex_move rfl (E.v oe4)) ?_
          refine QSeq.pure rfl _ (fun E => ex_assign rfl (E.d 0 0)) ?_
          refine QSeq.pure rfl (.int .i64 0) (fun E => ex_assign rfl rfl) ?_
          refine QSeq.nil (t' := [_, _, _]) rfl ?_
          obtain rfl := HA0.out
          clear HA0 oe4
          simp only [pz, Act.put, List.setIfInBounds_toArray, List.set_cons_zero, List.set_cons_succ]
          go_wp2
          have hq := Hx26.out
          exact bodyPost_ret (results_tmp2 rfl _ _ _) rfl ⟨_, rfl, ⟨_, (((HCL.out.mod Cx23.out (by intro h2; omega)).mod Cx25.out (by intro h2; first | omega | (have hb := HBR.out _ h2; omega))).mod Cx27.out (by intro h2; first | omega | (have hb := HBR.out _ h2; omega))), ⟨by omega, by have := ((((HCL.out.mod Cx23.out (by intro h2; omega)).mod Cx25.out (by intro h2; first | omega | (have hb := HBR.out _ h2; omega))).mod Cx27.out (by intro h2; first | omega | (have hb := HBR.out _ h2; omega)))).lt; omega⟩, (((HOL.out.mod Cx23.out (by intro k h1 h2; omega) (by intro k h1 h2; omega)).mod Cx25.out (by intro k h1 h2; have hb := HBR.out k h2; omega) (by intro k h1 h2; have hb := HBR.out k h2; omega)).mod Cx27.out (by intro k h1 h2; have hb := HBR.out k h2; omega) (by intro k h1 h2; have hb := HBR.out k h2; omega)).widen (by intro b h1; (try dsimp only at h1 ⊢); unfold New; omega) (by intro b h1; (try dsimp only at h1 ⊢); unfold New; omega)⟩, hq, (((HML.out.trans Cx23.out (by intro k h1 h2; first | exact h2 | omega)).trans Cx25.out (fun _ _ h => h)).trans Cx27.out (fun _ _ h => h))⟩
        · skip
          go_upto_region 15 with (fail)
          refine wp_region_U 62 [51, 52, 53, 54, 55] [0, 1, 2, 3, 4] (fun a0 HA0 => ?_)
          have oe0 := ev HA0 0 rfl
          refine QSeq.pure rfl _ (fun E => ex_move rfl (E.v oe0)) ?_
          refine QSeq.go fun act E => ?_
          refine qc_callF (args := #[.pointer (some ⟨p, 0, none⟩)]) rfl (wanted_none rfl) rfl Try.func19 (args1 (E.d 0 0)) (Synced_Q HQ.out) ?_
          rintro e w2 ⟨rfl, hw2⟩
          obtain rfl : u12_2 = w2 := by first | exact hw2 | exact hw2.symm
          refine ⟨_, rfl, ?_⟩
          clear act E
          refine QSeq.pure rfl _ (fun E => ex_move rfl (E.v oe0)) ?_
          refine QSeq.go fun act E => ?_
          refine qc_callF (args := #[.pointer (some ⟨p, 0, none⟩)]) rfl (wanted_none rfl) rfl Try.func20 (args1 (E.d 2 0)) (Len_Q HQ.out) ?_
          rintro e w2 ⟨rfl, hw2⟩
          obtain rfl : u12_2 = w2 := by first | exact hw2 | exact hw2.symm
          refine ⟨_, rfl, ?_⟩
          clear act E
          refine QSeq.pure rfl (.bool false) (fun E => ex_binE rfl (E.d 1 2) (E.d 3 0) (guard_ints _ _ _ _ _ _) (run_lss_i _ _ _ Try.underlying3) (congrArg Value.bool (decide_eq_false (by omega)))) ?_
          refine QSeq.nil (t' := [_, _, _, _, _]) rfl ?_
          obtain rfl := HA0.out
          clear HA0 oe0
          simp only [pz, Act.put, List.setIfInBounds_toArray, List.set_cons_zero, List.set_cons_succ]
          go_upto_region 19 with (fail)
          refine wp_region_U 62 [61, 2, 3] [0, 1, 2] (fun a0 HA0 => ?_)
          have oe4 := ev HA0 4 rfl
          refine QSeq.pure rfl _ (fun E => ex_move rfl (E.v oe4)) ?_
          refine QSeq.pure rfl _ (fun E => ex_assign rfl (E.d 0 0)) ?_
          refine QSeq.pure rfl (.int .i64 0) (fun E => ex_assign rfl rfl) ?_
          refine QSeq.nil (t' := [_, _, _]) rfl ?_
          obtain rfl := HA0.out
          clear HA0 oe4
          simp only [pz, Act.put, List.setIfInBounds_toArray, List.set_cons_zero, List.set_cons_succ]
          go_wp2
          have hq := HQ.out
          rw [show sz = (rowsE rs).length by omega] at hq
          exact bodyPost_ret (results_tmp2 rfl _ _ _) rfl ⟨_, rfl, ⟨_, ((HCL.out.mod Cx23.out (by intro h2; omega)).mod Cx25.out (by intro h2; first | omega | (have hb := HBR.out _ h2; omega))), ⟨by omega, by have := (((HCL.out.mod Cx23.out (by intro h2; omega)).mod Cx25.out (by intro h2; first | omega | (have hb := HBR.out _ h2; omega)))).lt; omega⟩, ((HOL.out.mod Cx23.out (by intro k h1 h2; omega) (by intro k h1 h2; omega)).mod Cx25.out (by intro k h1 h2; have hb := HBR.out k h2; omega) (by intro k h1 h2; have hb := HBR.out k h2; omega)).widen (by intro b h1; (try dsimp only at h1 ⊢); unfold New; omega) (by intro b h1; (try dsimp only at h1 ⊢); unfold New; omega)⟩, hq, ((HML.out.trans Cx23.out (by intro k h1 h2; first | exact h2 | omega)).trans Cx25.out (fun _ _ h => h))⟩
end Go.Proofs.Ythojipjleajajaa

/- wal.Wal.Put. -/
namespace Go.Proofs.Ythojipjleajajaa
open Go Go.RowKit Go.Gv

set_option maxHeartbeats 4000000 in
theorem Put_A {R1 R2 R3 : Nat → Prop} {N M x p : Nat} {rs : List (List Int)} {s : DS} {v : Value} {b : List Int} {w : World} (hw : WlR R1 w x p rs) (hd : DkR R2 N w p s) (hb : RdR R3 M w v b) (hB1 : ∀ k, R1 k → k < w.heap.size) (hB2 : ∀ k, R2 k → k < w.heap.size) (hB3 : ∀ k, R3 k → k < w.heap.size)
    (h12 : ∀ k, R1 k → R2 k → False) (h13 : ∀ k, R3 k → R1 k → False) (h23 : ∀ k, R3 k → R2 k → False) (hbl : b.length ≤ 65536) (hN : N ≤ 900000) (hrl : rs.length ≤ 900000) (hd1 : (dStep s).dead = true) :
    Calls Try.prog 12 #[.pointer (some ⟨x, 0, none⟩), v] w fun e w' => e = .returned (.int .i64 9) ∧ PutTo R1 R2 (N + (encR b).length) w w' x p rs (dAppend s (encR b)) := by
  obtain ⟨v0, hc, hx, ho0⟩ := hw
  obtain ⟨Q1, hQ1, ho⟩ : ∃ Q : Nat → Prop, (∀ k, Q k → R1 k ∧ k ≠ x) ∧ OwS RwR 22 Q Q w v0 rs := ⟨_, fun _ h => h, ho0⟩
  obtain ⟨ao, cap, rfl⟩ := ho.shape
  obtain ⟨ab, cb, rfl⟩ := hb.shape
  have hxl := hc.lt
  have HWL := Lib.hid hc
  have HOL := Lib.hid ho
  have HQ1 := Lib.hid hQ1
  have HDK := Lib.hid hd
  have HB := Lib.hid hb
  have HBQ := hid (fun k (h : Q1 k) => hB1 k (hQ1 k h).1)
  have HB2 := Lib.hid hB2
  have HB3 := Lib.hid hB3
  have HQ2 := hid (fun k (h : Q1 k) => h12 k (hQ1 k h).1)
  have HQ3 := hid (fun k (h : Q1 k) (h3 : R3 k) => h13 k h3 (hQ1 k h).1)
  have H23 := hid (fun k (h : R2 k) (h3 : R3 k) => h23 k h3 h)
  have HX2 := hid (fun (h : R2 x) => h12 x hx h)
  have HXQ := hid (fun (h : Q1 x) => (hQ1 x h).2 rfl)
  have HX3 := hid (fun (h : R3 x) => h13 x h hx)
  have HX1 := Lib.hid hx
  have hel := encR_len (b := b) (by omega)
  clear hc ho0 ho hQ1 hd hb hB1 hB2 hB3 h12 h13 h23 hx
  go_enter Try.func12, Try.ntmps12
  go_upto_region 1 with (fail)
  have HM0 := hid (Mod.refl (fun k => (k = x) ∨ (Q1 k) ∨ (R2 k)) w)
  go_upto_region 1 with (fail)
  refine wp_region_U 41 [7, 8, 9] [0, 1, 2] (fun a0 HA0 => ?_)
  have oe1 := ev HA0 1 rfl
  refine QSeq.pure rfl _ (fun E => ex_move rfl (E.v oe1)) ?_
  refine QSeq.pure rfl (.int .i64 b.length) (fun E => ex_lenS rfl (E.d 0 0) Try.underlying22) ?_
  refine QSeq.pure rfl (.bool false) (fun E => ex_binE rfl (E.d 1 0) rfl (guard_ints _ _ _ _ _ _) (run_gtr_i _ _ _ Try.underlying3) (congrArg Value.bool (decide_eq_false (by omega)))) ?_
  refine QSeq.nil (t' := [_, _, _]) rfl ?_
  obtain rfl := HA0.out
  clear HA0 oe1
  simp only [pz, Act.put, List.setIfInBounds_toArray, List.set_cons_zero, List.set_cons_succ]
  have HD1 := Lib.hid hd1
  clear hd1
  go_upto_region 3 with (fail)
  generalize ha0 : Act.mk _ _ = a0
  have oe0 : a0.eval (.tmp 0) = .pointer (some ⟨x, 0, none⟩) := by rw [← ha0]; rfl
  have oe1 : a0.eval (.tmp 1) = .slice ab b.length cb := by rw [← ha0]; rfl
  have hsz0 : a0.tmps.size = 41 := by rw [← ha0]; rfl
  have HA0 := hid ha0
  clear ha0
  refine wp_region_Q1 41 hsz0 [10, 11, 12, 13, 14, 15, 16, 17, 18, 5] (fun k => (R2 k)) (fun k j => (k = 3 ∧ ((R2 j)))) (fun _ _ h => h.2) [qi (.pointer (some ⟨x, 0, none⟩)), qi (.pointer (some ⟨x, 0, none⟩)), qi (.pointer (some ⟨x, 0, none⟩)), qi (.pointer (some ⟨p, 0, none⟩)), qv 0, qi (.slice ab b.length cb), qv 1, qv 2, qi (.int .i64 9), qi (.int .i64 9)] ⟨qi_stable, qi_stable, qi_stable, qi_stable, qv_stable, qi_stable, qv_stable, qv_stable, qi_stable, qi_stable, trivial⟩ [4, 6, 7, 8] ⟨?_, ?_, ?_, ?_, ?_, ?_, ?_, ?_, ?_, ?_, trivial⟩ ?_
  · exact stq (fun E => ex_move rfl (E.v oe0))
  · exact stq (fun E => ex_nil rfl (E.d 0))
  · exact stq (fun E => ex_field rfl Try.underlying62 rfl (by kernel_rfl) (E.d 1))
  · exact stq (fun E => ex_load1 rfl Try.underlying23 rfl (E.d 2) (Cs.lit1 (HWL.out.mod E.m (by intro h2; rcases h2 with ⟨h0, h2⟩ | h2 <;> first | omega | (have hb := HB2.out _ h2; omega) | exact HX2.out h2 | exact HXQ.out h2 | exact HX3.out h2)) rfl))
  · exact stepq_chain rfl
  · exact stq (fun E => ex_move rfl (E.v oe1))
  · exact stepq_chain rfl
  · exact stepq_chain rfl
  · exact stepq_chain rfl
  · exact stq (fun E => ex_assign rfl (E.d 8))
  intro u3_0 hr
  have zu3_0 := hr.size
  have Cx1 := hid (hr.new (S := (fun k => (R2 k))))
  have Hx2 := hid (HDK.out.mod hr (by intro k h1 h2; have hb := HB2.out k h1; omega))
  clear HDK
  clear hr
  refine QChain.go fun Z act E => ?_
  refine qc_callF (args := #[]) rfl (wanted_none rfl) rfl Try.func38 args0 (NewWriter_Q _) ?_
  rintro e u3_1a ⟨g1, rfl, qwr1, hm⟩
  have zu3_1a := hm.size
  refine ⟨_, rfl, hm.mono (fun _ _ h => h.elim), (fun _ => rfl), ?_⟩
  intro u3_1 hr
  have zu3_1 := hr.size
  have Hx3 := hid ((qwr1.widen (R' := (fun k => (New u3_0 u3_1a k))) (fun _ h => h) (Nat.le_refl _)).mod hr (by intro k h1 h2; omega))
  have hmr := Mod.after hm hr
  have Hx4 := hid (Hx2.out.mod hmr (by intro k h1 h2; have hb := HB2.out k h1; omega))
  clear Hx2
  clear hmr
  have Cx5 := hid (Cx1.out.go hm hr)
  clear Cx1 hm hr Z act E qwr1
  refine QChain.go fun Z act E => ?_
  refine qc_callF (args := #[.pointer (some ⟨g1, 0, none⟩), .slice ab b.length cb]) rfl (wanted_none rfl) rfl Try.func39 (args2 (chv (v := .pointer (some ⟨g1, 0, none⟩)) (E.d 4)) (E.d 5)) (WRow_W Hx3.out (HB.out.mod Cx5.out (by intro k h1 h2; first | omega | (have hb := HB3.out k h1; omega) | (have hb := HB2.out k h2; omega) | exact HQ2.out k h1 h2 | exact HQ2.out k h2 h1 | exact HQ3.out k h1 h2 | exact HQ3.out k h2 h1 | exact H23.out k h1 h2 | exact H23.out k h2 h1 | (have hb := HB3.out k h1; have hb2 := HB2.out k h2; omega) | exact HX2.out (h2 ▸ h1) | exact HX2.out (h1 ▸ h2) | exact HXQ.out (h2 ▸ h1) | exact HXQ.out (h1 ▸ h2) | exact HX3.out (h2 ▸ h1) | exact HX3.out (h1 ▸ h2))) (sN HB3) (by omega)) ?_
  rintro e u3_2a ⟨rfl, qwr1, hm⟩
  have zu3_2a := hm.size
  refine ⟨_, rfl, hm.mono (by intro k hk h; omega), (fun _ => rfl), ?_⟩
  intro u3_2 hr
  have zu3_2 := hr.size
  have Hx6 := hid ((qwr1.widen (R' := (fun k => (New u3_0 u3_1a k) ∨ (New u3_1 u3_2a k))) (fun _ h => h) (Nat.le_refl _)).mod hr (by intro k h1 h2; omega))
  have hmr := hm.two hr
  have Hx7 := hid (Hx4.out.mod hmr (by intro k h1 h2; have hb := HB2.out k h1; omega))
  clear Hx4
  clear hmr
  have Cx8 := hid (Cx5.out.goM hm hr (by intro k h0 h2; first | omega | exact h2))
  clear Cx5 hm hr Z act E qwr1 Hx3
  refine QChain.go fun Z act E => ?_
  refine qc_callF (args := #[.pointer (some ⟨g1, 0, none⟩)]) rfl (wanted_none rfl) rfl Try.func40 (args1 (chv (v := .pointer (some ⟨g1, 0, none⟩)) (E.d 6))) (WBytes_Q Hx6.out) ?_
  rintro e u3_3a ⟨v_a1, rfl, qa1, hm⟩
  obtain ⟨ao_a1, cap_a1, rfl⟩ := qa1.shape
  have zu3_3a := hm.size
  refine ⟨_, rfl, hm.mono (fun _ _ h => h.elim), (fun _ => rfl), ?_⟩
  intro u3_3 hr
  have zu3_3 := hr.size
  have Hx9 := hid ((qa1.widen (R' := (fun k => (New u3_2 u3_3a k))) (fun _ h => h) (Nat.le_refl _)).mod hr (by intro k h1 h2; omega))
  have hmr := Mod.after hm hr
  have Hx10 := hid (Hx7.out.mod hmr (by intro k h1 h2; have hb := HB2.out k h1; omega))
  have Hx11 := hid (Hx6.out.mod hmr (by intro k h1 h2; omega))
  clear Hx7 Hx6
  clear hmr
  have Cx12 := hid (Cx8.out.go hm hr)
  clear Cx8 hm hr Z act E qa1
  refine QChain.go fun Z act E => ?_
  refine qc_callF (args := #[.pointer (some ⟨p, 0, none⟩), .slice ao_a1 ((encR b).length) cap_a1]) rfl (wanted_none rfl) rfl Try.func21 (args2 (E.d 3) (chv (v := .slice ao_a1 ((encR b).length) cap_a1) (E.d 7))) (Append_W Hx10.out Hx9.out.rd (by intro k h1 h2; have hb := HB2.out k h2; omega) (by omega) (dErr_dead HD1.out)) ?_
  rintro e u3_4a ⟨rfl, qdk, hm⟩
  have zu3_4a := hm.size
  refine ⟨_, rfl, hm.mono (by intro k hk h; first | omega | exact Or.inl ⟨(by have hb := HB2.out k h; omega), ⟨rfl, h⟩⟩), (fun _ => rfl), ?_⟩
  intro u3_4 hr
  have zu3_4 := hr.size
  have Hx13 := hid ((qdk.widen (R' := (fun k => (R2 k) ∨ (New u3_3 u3_4a k))) (fun _ h => h) (Nat.le_refl _)).mod hr (by intro k h1 h2; rcases h1 with h1 | h1 <;> first | omega | (have hb := HB2.out k h1; omega) | exact HX2.out (h2 ▸ h1) | exact HX2.out (h1 ▸ h2) | exact HXQ.out (h2 ▸ h1) | exact HXQ.out (h1 ▸ h2) | exact HX3.out (h2 ▸ h1) | exact HX3.out (h1 ▸ h2)))
  have hmr := hm.two hr
  have Hx14 := hid (Hx11.out.mod hmr (by intro k h1 h2; rcases h2 with h2 | h2 <;> first | omega | (have hb := HB2.out k h2; omega) | exact HX2.out (h2 ▸ h1) | exact HX2.out (h1 ▸ h2) | exact HXQ.out (h2 ▸ h1) | exact HXQ.out (h1 ▸ h2) | exact HX3.out (h2 ▸ h1) | exact HX3.out (h1 ▸ h2)))
  have Hx15 := hid (Hx9.out.mod hmr (by intro k h1 h2; rcases h2 with h2 | h2 <;> first | omega | (have hb := HB2.out k h2; omega) | exact HX2.out (h2 ▸ h1) | exact HX2.out (h1 ▸ h2) | exact HXQ.out (h2 ▸ h1) | exact HXQ.out (h1 ▸ h2) | exact HX3.out (h2 ▸ h1) | exact HX3.out (h1 ▸ h2)))
  clear Hx11 Hx9
  clear hmr
  have Cx16 := hid (Cx12.out.goM hm hr (fun _ _ h => h))
  clear Cx12 hm hr Z act E qdk Hx10
  clear Hx14
  clear Hx15
  refine QChain.nil fun vs hl hzz hrows hne => ?_
  obtain ⟨Z, hYZ, hZb, hV⟩ := hzz
  have f0 := fvi hV hl 0
  have f4 := fvc hV hl 4
  have f5 := fvi hV hl 5
  have f6 := fvc hV hl 6
  have f7 := fvc hV hl 7
  have f8 := fvi hV hl 8
  have f9 := fvi hV hl 9
  rw [show vs = [gw vs 0, gw vs 1, gw vs 2, gw vs 3, gw vs 4, gw vs 5, gw vs 6, gw vs 7, gw vs 8, gw vs 9] from (gw_eta hl).trans rfl]
  have ha0 := HA0.out
  subst ha0
  clear HA0 hV hYZ hZb hsz0 hrows hne oe0 oe1
  simp only [putAll, Act.put, List.setIfInBounds_toArray, List.set_cons_zero, List.set_cons_succ, f0, f4, f5, f6, f7, f8, f9]
  clear hl f0 f4 f5 f6 f7 f8 f9
  go_upto_region 4 with (fail)
  refine wp_region_U 41 [19, 20] [0, 1] (fun a0 HA0 => ?_)
  have oe5 := ev HA0 5 rfl
  refine QSeq.pure rfl _ (fun E => ex_move rfl (E.v oe5)) ?_
  refine QSeq.pure rfl (.bool true) (fun E => ex_binE rfl (E.d 0 0) rfl (guard_ints _ _ _ _ _ _) (run_neq_i _ _ _ Try.underlying26) (congrArg Value.bool (ne_tt (by decide)))) ?_
  refine QSeq.nil (t' := [_, _]) rfl ?_
  obtain rfl := HA0.out
  clear HA0 oe5
  simp only [pz, Act.put, List.setIfInBounds_toArray, List.set_cons_zero, List.set_cons_succ]
  go_upto_region 5 with (fail)
  refine wp_region_U 41 [21, 4] [0, 1] (fun a0 HA0 => ?_)
  have oe5 := ev HA0 5 rfl
  refine QSeq.pure rfl _ (fun E => ex_move rfl (E.v oe5)) ?_
  refine QSeq.pure rfl _ (fun E => ex_assign rfl (E.d 0 0)) ?_
  refine QSeq.nil (t' := [_, _]) rfl ?_
  obtain rfl := HA0.out
  clear HA0 oe5
  simp only [pz, Act.put, List.setIfInBounds_toArray, List.set_cons_zero, List.set_cons_succ]
  go_wp2
  go_ret
  refine ⟨rfl, u3_4, by omega, by omega, Hx13.out.widen (by intro k h1; rcases h1 with h1 | h1 <;> first | exact Or.inl h1 | (right; omega)) (Nat.le_refl _), ⟨_, (HWL.out.mod Cx16.out (by intro h2; first | omega | (have hb := HB2.out _ h2; omega) | exact HX2.out h2 | exact HXQ.out h2 | exact HX3.out h2)), Or.inl HX1.out, (HOL.out.mod Cx16.out (by intro k h1 h2; first | omega | (have hb := HBQ.out k h1; omega) | (have hb := HB2.out k h2; omega) | exact HQ2.out k h1 h2 | exact HQ2.out k h2 h1 | exact HQ3.out k h1 h2 | exact HQ3.out k h2 h1 | exact H23.out k h1 h2 | exact H23.out k h2 h1 | (have hb := HBQ.out k h1; have hb2 := HB2.out k h2; omega) | exact HX2.out (h2 ▸ h1) | exact HX2.out (h1 ▸ h2) | exact HXQ.out (h2 ▸ h1) | exact HXQ.out (h1 ▸ h2) | exact HX3.out (h2 ▸ h1) | exact HX3.out (h1 ▸ h2)) (by intro k h1 h2; first | omega | (have hb := HBQ.out k h1; omega) | (have hb := HB2.out k h2; omega) | exact HQ2.out k h1 h2 | exact HQ2.out k h2 h1 | exact HQ3.out k h1 h2 | exact HQ3.out k h2 h1 | exact H23.out k h1 h2 | exact H23.out k h2 h1 | (have hb := HBQ.out k h1; have hb2 := HB2.out k h2; omega) | exact HX2.out (h2 ▸ h1) | exact HX2.out (h1 ▸ h2) | exact HXQ.out (h2 ▸ h1) | exact HXQ.out (h1 ▸ h2) | exact HX3.out (h2 ▸ h1) | exact HX3.out (h1 ▸ h2))).widen (fun k h1 => ⟨Or.inl (HQ1.out k h1).1, (HQ1.out k h1).2⟩) (fun k h1 => ⟨Or.inl (HQ1.out k h1).1, (HQ1.out k h1).2⟩)⟩, (HM0.out.trans Cx16.out (by intro k h1 h2; first | exact h2 | omega | exact Or.inl h2 | exact Or.inr h2 | exact Or.inr (Or.inl h2) | exact Or.inr (Or.inr h2) | (have hb := HB2.out k h2; omega))).mono (fun k _ h => by rcases h with h | h | h <;> first | exact Or.inl (HQ1.out k h).1 | exact Or.inr h | exact Or.inl (h ▸ HX1.out))⟩
set_option maxHeartbeats 4000000 in
theorem Put_B {R1 R2 R3 : Nat → Prop} {N M x p : Nat} {rs : List (List Int)} {s : DS} {v : Value} {b : List Int} {w : World} (hw : WlR R1 w x p rs) (hd : DkR R2 N w p s) (hb : RdR R3 M w v b) (hB1 : ∀ k, R1 k → k < w.heap.size) (hB2 : ∀ k, R2 k → k < w.heap.size) (hB3 : ∀ k, R3 k → k < w.heap.size)
    (h12 : ∀ k, R1 k → R2 k → False) (h13 : ∀ k, R3 k → R1 k → False) (h23 : ∀ k, R3 k → R2 k → False) (hbl : b.length ≤ 65536) (hN : N ≤ 900000) (hrl : rs.length ≤ 900000) (hd1 : (dStep s).dead = false) (hd2 : (dStep (dAppend s (encR b))).dead = true) :
    Calls Try.prog 12 #[.pointer (some ⟨x, 0, none⟩), v] w fun e w' => e = .returned (.int .i64 9) ∧ PutTo R1 R2 (N + (encR b).length) w w' x p rs (dSync (dAppend s (encR b))) := by
  obtain ⟨v0, hc, hx, ho0⟩ := hw
  obtain ⟨Q1, hQ1, ho⟩ : ∃ Q : Nat → Prop, (∀ k, Q k → R1 k ∧ k ≠ x) ∧ OwS RwR 22 Q Q w v0 rs := ⟨_, fun _ h => h, ho0⟩
  obtain ⟨ao, cap, rfl⟩ := ho.shape
  obtain ⟨ab, cb, rfl⟩ := hb.shape
  have hxl := hc.lt
  have HWL := Lib.hid hc
  have HOL := Lib.hid ho
  have HQ1 := Lib.hid hQ1
  have HDK := Lib.hid hd
  have HB := Lib.hid hb
  have HBQ := hid (fun k (h : Q1 k) => hB1 k (hQ1 k h).1)
  have HB2 := Lib.hid hB2
  have HB3 := Lib.hid hB3
  have HQ2 := hid (fun k (h : Q1 k) => h12 k (hQ1 k h).1)
  have HQ3 := hid (fun k (h : Q1 k) (h3 : R3 k) => h13 k h3 (hQ1 k h).1)
  have H23 := hid (fun k (h : R2 k) (h3 : R3 k) => h23 k h3 h)
  have HX2 := hid (fun (h : R2 x) => h12 x hx h)
  have HXQ := hid (fun (h : Q1 x) => (hQ1 x h).2 rfl)
  have HX3 := hid (fun (h : R3 x) => h13 x h hx)
  have HX1 := Lib.hid hx
  have hel := encR_len (b := b) (by omega)
  clear hc ho0 ho hQ1 hd hb hB1 hB2 hB3 h12 h13 h23 hx
  go_enter Try.func12, Try.ntmps12
  go_upto_region 1 with (fail)
  have HM0 := hid (Mod.refl (fun k => (k = x) ∨ (Q1 k) ∨ (R2 k)) w)
  go_upto_region 1 with (fail)
  refine wp_region_U 41 [7, 8, 9] [0, 1, 2] (fun a0 HA0 => ?_)
  have oe1 := ev HA0 1 rfl
  refine QSeq.pure rfl _ (fun E => ex_move rfl (E.v oe1)) ?_
  refine QSeq.pure rfl (.int .i64 b.length) (fun E => ex_lenS rfl (E.d 0 0) Try.underlying22) ?_
  refine QSeq.pure rfl (.bool false) (fun E => ex_binE rfl (E.d 1 0) rfl (guard_ints _ _ _ _ _ _) (run_gtr_i _ _ _ Try.underlying3) (congrArg Value.bool (decide_eq_false (by omega)))) ?_
  refine QSeq.nil (t' := [_, _, _]) rfl ?_
  obtain rfl := HA0.out
  clear HA0 oe1
  simp only [pz, Act.put, List.setIfInBounds_toArray, List.set_cons_zero, List.set_cons_succ]
  have HD1 := Lib.hid hd1
  clear hd1
  go_upto_region 3 with (fail)
  generalize ha0 : Act.mk _ _ = a0
  have oe0 : a0.eval (.tmp 0) = .pointer (some ⟨x, 0, none⟩) := by rw [← ha0]; rfl
  have oe1 : a0.eval (.tmp 1) = .slice ab b.length cb := by rw [← ha0]; rfl
  have hsz0 : a0.tmps.size = 41 := by rw [← ha0]; rfl
  have HA0 := hid ha0
  clear ha0
  refine wp_region_Q1 41 hsz0 [10, 11, 12, 13, 14, 15, 16, 17, 18, 5] (fun k => (R2 k)) (fun k j => (k = 3 ∧ ((R2 j)))) (fun _ _ h => h.2) [qi (.pointer (some ⟨x, 0, none⟩)), qi (.pointer (some ⟨x, 0, none⟩)), qi (.pointer (some ⟨x, 0, none⟩)), qi (.pointer (some ⟨p, 0, none⟩)), qv 0, qi (.slice ab b.length cb), qv 1, qv 2, qi (.int .i64 0), qi (.int .i64 0)] ⟨qi_stable, qi_stable, qi_stable, qi_stable, qv_stable, qi_stable, qv_stable, qv_stable, qi_stable, qi_stable, trivial⟩ [4, 6, 7, 8] ⟨?_, ?_, ?_, ?_, ?_, ?_, ?_, ?_, ?_, ?_, trivial⟩ ?_
  · exact stq (fun E => ex_move rfl (E.v oe0))
  · exact stq (fun E => ex_nil rfl (E.d 0))
  · exact stq (fun E => ex_field rfl Try.underlying62 rfl (by kernel_rfl) (E.d 1))
  · exact stq (fun E => ex_load1 rfl Try.underlying23 rfl (E.d 2) (Cs.lit1 (HWL.out.mod E.m (by intro h2; rcases h2 with ⟨h0, h2⟩ | h2 <;> first | omega | (have hb := HB2.out _ h2; omega) | exact HX2.out h2 | exact HXQ.out h2 | exact HX3.out h2)) rfl))
  · exact stepq_chain rfl
  · exact stq (fun E => ex_move rfl (E.v oe1))
  · exact stepq_chain rfl
  · exact stepq_chain rfl
  · exact stepq_chain rfl
  · exact stq (fun E => ex_assign rfl (E.d 8))
  intro u3_0 hr
  have zu3_0 := hr.size
  have Cx1 := hid (hr.new (S := (fun k => (R2 k))))
  have Hx2 := hid (HDK.out.mod hr (by intro k h1 h2; have hb := HB2.out k h1; omega))
  clear HDK
  clear hr
  refine QChain.go fun Z act E => ?_
  refine qc_callF (args := #[]) rfl (wanted_none rfl) rfl Try.func38 args0 (NewWriter_Q _) ?_
  rintro e u3_1a ⟨g1, rfl, qwr1, hm⟩
  have zu3_1a := hm.size
  refine ⟨_, rfl, hm.mono (fun _ _ h => h.elim), (fun _ => rfl), ?_⟩
  intro u3_1 hr
  have zu3_1 := hr.size
  have Hx3 := hid ((qwr1.widen (R' := (fun k => (New u3_0 u3_1a k))) (fun _ h => h) (Nat.le_refl _)).mod hr (by intro k h1 h2; omega))
  have hmr := Mod.after hm hr
  have Hx4 := hid (Hx2.out.mod hmr (by intro k h1 h2; have hb := HB2.out k h1; omega))
  clear Hx2
  clear hmr
  have Cx5 := hid (Cx1.out.go hm hr)
  clear Cx1 hm hr Z act E qwr1
  refine QChain.go fun Z act E => ?_
  refine qc_callF (args := #[.pointer (some ⟨g1, 0, none⟩), .slice ab b.length cb]) rfl (wanted_none rfl) rfl Try.func39 (args2 (chv (v := .pointer (some ⟨g1, 0, none⟩)) (E.d 4)) (E.d 5)) (WRow_W Hx3.out (HB.out.mod Cx5.out (by intro k h1 h2; first | omega | (have hb := HB3.out k h1; omega) | (have hb := HB2.out k h2; omega) | exact HQ2.out k h1 h2 | exact HQ2.out k h2 h1 | exact HQ3.out k h1 h2 | exact HQ3.out k h2 h1 | exact H23.out k h1 h2 | exact H23.out k h2 h1 | (have hb := HB3.out k h1; have hb2 := HB2.out k h2; omega) | exact HX2.out (h2 ▸ h1) | exact HX2.out (h1 ▸ h2) | exact HXQ.out (h2 ▸ h1) | exact HXQ.out (h1 ▸ h2) | exact HX3.out (h2 ▸ h1) | exact HX3.out (h1 ▸ h2))) (sN HB3) (by omega)) ?_
  rintro e u3_2a ⟨rfl, qwr1, hm⟩
  have zu3_2a := hm.size
  refine ⟨_, rfl, hm.mono (by intro k hk h; omega), (fun _ => rfl), ?_⟩
  intro u3_2 hr
  have zu3_2 := hr.size
  have Hx6 := hid ((qwr1.widen (R' := (fun k => (New u3_0 u3_1a k) ∨ (New u3_1 u3_2a k))) (fun _ h => h) (Nat.le_refl _)).mod hr (by intro k h1 h2; omega))
  have hmr := hm.two hr
  have Hx7 := hid (Hx4.out.mod hmr (by intro k h1 h2; have hb := HB2.out k h1; omega))
  clear Hx4
  clear hmr
  have Cx8 := hid (Cx5.out.goM hm hr (by intro k h0 h2; first | omega | exact h2))
  clear Cx5 hm hr Z act E qwr1 Hx3
  refine QChain.go fun Z act E => ?_
  refine qc_callF (args := #[.pointer (some ⟨g1, 0, none⟩)]) rfl (wanted_none rfl) rfl Try.func40 (args1 (chv (v := .pointer (some ⟨g1, 0, none⟩)) (E.d 6))) (WBytes_Q Hx6.out) ?_
  rintro e u3_3a ⟨v_a1, rfl, qa1, hm⟩
  obtain ⟨ao_a1, cap_a1, rfl⟩ := qa1.shape
  have zu3_3a := hm.size
  refine ⟨_, rfl, hm.mono (fun _ _ h => h.elim), (fun _ => rfl), ?_⟩
  intro u3_3 hr
  have zu3_3 := hr.size
  have Hx9 := hid ((qa1.widen (R' := (fun k => (New u3_2 u3_3a k))) (fun _ h => h) (Nat.le_refl _)).mod hr (by intro k h1 h2; omega))
  have hmr := Mod.after hm hr
  have Hx10 := hid (Hx7.out.mod hmr (by intro k h1 h2; have hb := HB2.out k h1; omega))
  have Hx11 := hid (Hx6.out.mod hmr (by intro k h1 h2; omega))
  clear Hx7 Hx6
  clear hmr
  have Cx12 := hid (Cx8.out.go hm hr)
  clear Cx8 hm hr Z act E qa1
  refine QChain.go fun Z act E => ?_
  refine qc_callF (args := #[.pointer (some ⟨p, 0, none⟩), .slice ao_a1 ((encR b).length) cap_a1]) rfl (wanted_none rfl) rfl Try.func21 (args2 (E.d 3) (chv (v := .slice ao_a1 ((encR b).length) cap_a1) (E.d 7))) (Append_W Hx10.out Hx9.out.rd (by intro k h1 h2; have hb := HB2.out k h2; omega) (by omega) (dErr_live HD1.out)) ?_
  rintro e u3_4a ⟨rfl, qdk, hm⟩
  have zu3_4a := hm.size
  refine ⟨_, rfl, hm.mono (by intro k hk h; first | omega | exact Or.inl ⟨(by have hb := HB2.out k h; omega), ⟨rfl, h⟩⟩), (fun _ => rfl), ?_⟩
  intro u3_4 hr
  have zu3_4 := hr.size
  have Hx13 := hid ((qdk.widen (R' := (fun k => (R2 k) ∨ (New u3_3 u3_4a k))) (fun _ h => h) (Nat.le_refl _)).mod hr (by intro k h1 h2; rcases h1 with h1 | h1 <;> first | omega | (have hb := HB2.out k h1; omega) | exact HX2.out (h2 ▸ h1) | exact HX2.out (h1 ▸ h2) | exact HXQ.out (h2 ▸ h1) | exact HXQ.out (h1 ▸ h2) | exact HX3.out (h2 ▸ h1) | exact HX3.out (h1 ▸ h2)))
  have hmr := hm.two hr
  have Hx14 := hid (Hx11.out.mod hmr (by intro k h1 h2; rcases h2 with h2 | h2 <;> first | omega | (have hb := HB2.out k h2; omega) | exact HX2.out (h2 ▸ h1) | exact HX2.out (h1 ▸ h2) | exact HXQ.out (h2 ▸ h1) | exact HXQ.out (h1 ▸ h2) | exact HX3.out (h2 ▸ h1) | exact HX3.out (h1 ▸ h2)))
  have Hx15 := hid (Hx9.out.mod hmr (by intro k h1 h2; rcases h2 with h2 | h2 <;> first | omega | (have hb := HB2.out k h2; omega) | exact HX2.out (h2 ▸ h1) | exact HX2.out (h1 ▸ h2) | exact HXQ.out (h2 ▸ h1) | exact HXQ.out (h1 ▸ h2) | exact HX3.out (h2 ▸ h1) | exact HX3.out (h1 ▸ h2)))
  clear Hx11 Hx9
  clear hmr
  have Cx16 := hid (Cx12.out.goM hm hr (fun _ _ h => h))
  clear Cx12 hm hr Z act E qdk Hx10
  clear Hx14
  clear Hx15
  refine QChain.nil fun vs hl hzz hrows hne => ?_
  obtain ⟨Z, hYZ, hZb, hV⟩ := hzz
  have f0 := fvi hV hl 0
  have f4 := fvc hV hl 4
  have f5 := fvi hV hl 5
  have f6 := fvc hV hl 6
  have f7 := fvc hV hl 7
  have f8 := fvi hV hl 8
  have f9 := fvi hV hl 9
  rw [show vs = [gw vs 0, gw vs 1, gw vs 2, gw vs 3, gw vs 4, gw vs 5, gw vs 6, gw vs 7, gw vs 8, gw vs 9] from (gw_eta hl).trans rfl]
  have ha0 := HA0.out
  subst ha0
  clear HA0 hV hYZ hZb hsz0 hrows hne oe0 oe1
  simp only [putAll, Act.put, List.setIfInBounds_toArray, List.set_cons_zero, List.set_cons_succ, f0, f4, f5, f6, f7, f8, f9]
  clear hl f0 f4 f5 f6 f7 f8 f9
  go_upto_region 4 with (fail)
  refine wp_region_U 41 [19, 20] [0, 1] (fun a0 HA0 => ?_)
  have oe5 := ev HA0 5 rfl
  refine QSeq.pure rfl _ (fun E => ex_move rfl (E.v oe5)) ?_
  refine QSeq.pure rfl (.bool false) (fun E => ex_binE rfl (E.d 0 0) rfl (guard_ints _ _ _ _ _ _) (run_neq_i _ _ _ Try.underlying26) (congrArg Value.bool (ne_ff rfl))) ?_
  refine QSeq.nil (t' := [_, _]) rfl ?_
  obtain rfl := HA0.out
  clear HA0 oe5
  simp only [pz, Act.put, List.setIfInBounds_toArray, List.set_cons_zero, List.set_cons_succ]
  have HD2 := Lib.hid hd2
  clear hd2
  go_upto_region 6 with (fail)
  refine wp_region_U 41 [22, 23, 24, 25, 26, 6] [0, 1, 2, 3, 4, 5] (fun a0 HA0 => ?_)
  have oe0 := ev HA0 0 rfl
  refine QSeq.pure rfl _ (fun E => ex_move rfl (E.v oe0)) ?_
  refine QSeq.pure rfl (.pointer (some ⟨x, 0, none⟩)) (fun E => ex_nil rfl (E.d 0 0)) ?_
  refine QSeq.pure rfl (.pointer (some ⟨x, 0, none⟩)) (fun E => ex_field rfl Try.underlying62 rfl (by kernel_rfl) (E.d 1 0)) ?_
  refine QSeq.pure rfl _ (fun E => ex_load1 rfl Try.underlying23 rfl (E.d 2 0) (Cs.lit1 (HWL.out.mod Cx16.out (by intro h2; first | omega | (have hb := HB2.out _ h2; omega) | exact HX2.out h2 | exact HXQ.out h2 | exact HX3.out h2)) rfl)) ?_
  refine QSeq.call rfl rfl Try.func37 (Sync_W Hx13.out (dErr_dead HD2.out)) (fun E => args1 (E.d 3 0)) ?_
  rintro e u6_4 ⟨rfl, qdk, hm⟩
  refine ⟨_, rfl, ?_⟩
  have Hx17 := hid qdk
  have zu6_4 := hm.size
  have Cx18 := hid (show Mod (fun k => (R2 k) ∨ (New u3_3 u3_4a k)) u3_4 u6_4 from hm)
  clear hm
  clear qdk Hx13
  refine QSeq.pure rfl _ (fun E => ex_assign rfl (E.d 4 0)) ?_
  refine QSeq.nil (t' := [_, _, _, _, _, _]) rfl ?_
  obtain rfl := HA0.out
  clear HA0 oe0
  simp only [pz, Act.put, List.setIfInBounds_toArray, List.set_cons_zero, List.set_cons_succ]
  go_upto_region 7 with (fail)
  refine wp_region_U 41 [27, 28] [0, 1] (fun a0 HA0 => ?_)
  have oe6 := ev HA0 6 rfl
  refine QSeq.pure rfl _ (fun E => ex_move rfl (E.v oe6)) ?_
  refine QSeq.pure rfl (.bool true) (fun E => ex_binE rfl (E.d 0 0) rfl (guard_ints _ _ _ _ _ _) (run_neq_i _ _ _ Try.underlying26) (congrArg Value.bool (ne_tt (by decide)))) ?_
  refine QSeq.nil (t' := [_, _]) rfl ?_
  obtain rfl := HA0.out
  clear HA0 oe6
  simp only [pz, Act.put, List.setIfInBounds_toArray, List.set_cons_zero, List.set_cons_succ]
  go_upto_region 8 with (fail)
  refine wp_region_U 41 [29, 4] [0, 1] (fun a0 HA0 => ?_)
  have oe6 := ev HA0 6 rfl
  refine QSeq.pure rfl _ (fun E => ex_move rfl (E.v oe6)) ?_
  refine QSeq.pure rfl _ (fun E => ex_assign rfl (E.d 0 0)) ?_
  refine QSeq.nil (t' := [_, _]) rfl ?_
  obtain rfl := HA0.out
  clear HA0 oe6
  simp only [pz, Act.put, List.setIfInBounds_toArray, List.set_cons_zero, List.set_cons_succ]
  go_wp2
  go_ret
  refine ⟨rfl, u6_4, by omega, by omega, Hx17.out.widen (by intro k h1; rcases h1 with h1 | h1 <;> first | exact Or.inl h1 | (right; omega)) (Nat.le_refl _), ⟨_, ((HWL.out.mod Cx16.out (by intro h2; first | omega | (have hb := HB2.out _ h2; omega) | exact HX2.out h2 | exact HXQ.out h2 | exact HX3.out h2)).mod Cx18.out (by intro h2; rcases h2 with h2 | h2 <;> first | omega | (have hb := HB2.out _ h2; omega) | exact HX2.out h2 | exact HXQ.out h2 | exact HX3.out h2)), Or.inl HX1.out, ((HOL.out.mod Cx16.out (by intro k h1 h2; first | omega | (have hb := HBQ.out k h1; omega) | (have hb := HB2.out k h2; omega) | exact HQ2.out k h1 h2 | exact HQ2.out k h2 h1 | exact HQ3.out k h1 h2 | exact HQ3.out k h2 h1 | exact H23.out k h1 h2 | exact H23.out k h2 h1 | (have hb := HBQ.out k h1; have hb2 := HB2.out k h2; omega) | exact HX2.out (h2 ▸ h1) | exact HX2.out (h1 ▸ h2) | exact HXQ.out (h2 ▸ h1) | exact HXQ.out (h1 ▸ h2) | exact HX3.out (h2 ▸ h1) | exact HX3.out (h1 ▸ h2)) (by intro k h1 h2; first | omega | (have hb := HBQ.out k h1; omega) | (have hb := HB2.out k h2; omega) | exact HQ2.out k h1 h2 | exact HQ2.out k h2 h1 | exact HQ3.out k h1 h2 | exact HQ3.out k h2 h1 | exact H23.out k h1 h2 | exact H23.out k h2 h1 | (have hb := HBQ.out k h1; have hb2 := HB2.out k h2; omega) | exact HX2.out (h2 ▸ h1) | exact HX2.out (h1 ▸ h2) | exact HXQ.out (h2 ▸ h1) | exact HXQ.out (h1 ▸ h2) | exact HX3.out (h2 ▸ h1) | exact HX3.out (h1 ▸ h2))).mod Cx18.out (by intro k h1 h2; rcases h2 with h2 | h2 <;> first | omega | (have hb := HBQ.out k h1; omega) | (have hb := HB2.out k h2; omega) | exact HQ2.out k h1 h2 | exact HQ2.out k h2 h1 | exact HQ3.out k h1 h2 | exact HQ3.out k h2 h1 | exact H23.out k h1 h2 | exact H23.out k h2 h1 | (have hb := HBQ.out k h1; have hb2 := HB2.out k h2; omega) | exact HX2.out (h2 ▸ h1) | exact HX2.out (h1 ▸ h2) | exact HXQ.out (h2 ▸ h1) | exact HXQ.out (h1 ▸ h2) | exact HX3.out (h2 ▸ h1) | exact HX3.out (h1 ▸ h2)) (by intro k h1 h2; rcases h2 with h2 | h2 <;> first | omega | (have hb := HBQ.out k h1; omega) | (have hb := HB2.out k h2; omega) | exact HQ2.out k h1 h2 | exact HQ2.out k h2 h1 | exact HQ3.out k h1 h2 | exact HQ3.out k h2 h1 | exact H23.out k h1 h2 | exact H23.out k h2 h1 | (have hb := HBQ.out k h1; have hb2 := HB2.out k h2; omega) | exact HX2.out (h2 ▸ h1) | exact HX2.out (h1 ▸ h2) | exact HXQ.out (h2 ▸ h1) | exact HXQ.out (h1 ▸ h2) | exact HX3.out (h2 ▸ h1) | exact HX3.out (h1 ▸ h2))).widen (fun k h1 => ⟨Or.inl (HQ1.out k h1).1, (HQ1.out k h1).2⟩) (fun k h1 => ⟨Or.inl (HQ1.out k h1).1, (HQ1.out k h1).2⟩)⟩, ((HM0.out.trans Cx16.out (by intro k h1 h2; first | exact h2 | omega | exact Or.inl h2 | exact Or.inr h2 | exact Or.inr (Or.inl h2) | exact Or.inr (Or.inr h2) | (have hb := HB2.out k h2; omega))).trans Cx18.out (by intro k h1 h2; rcases h2 with h2 | h2 <;> first | exact h2 | omega | exact Or.inl h2 | exact Or.inr h2 | exact Or.inr (Or.inl h2) | exact Or.inr (Or.inr h2) | (have hb := HB2.out k h2; omega))).mono (fun k _ h => by rcases h with h | h | h <;> first | exact Or.inl (HQ1.out k h).1 | exact Or.inr h | exact Or.inl (h ▸ HX1.out))⟩
set_option maxHeartbeats 4000000 in
theorem Put_C {R1 R2 R3 : Nat → Prop} {N M x p : Nat} {rs : List (List Int)} {s : DS} {v : Value} {b : List Int} {w : World} (hw : WlR R1 w x p rs) (hd : DkR R2 N w p s) (hb : RdR R3 M w v b) (hB1 : ∀ k, R1 k → k < w.heap.size) (hB2 : ∀ k, R2 k → k < w.heap.size) (hB3 : ∀ k, R3 k → k < w.heap.size)
    (h12 : ∀ k, R1 k → R2 k → False) (h13 : ∀ k, R3 k → R1 k → False) (h23 : ∀ k, R3 k → R2 k → False) (hbl : b.length ≤ 65536) (hN : N ≤ 900000) (hrl : rs.length ≤ 900000) (hd1 : (dStep s).dead = false) (hd2 : (dStep (dAppend s (encR b))).dead = false) :
    Calls Try.prog 12 #[.pointer (some ⟨x, 0, none⟩), v] w fun e w' => e = .returned (.int .i64 0) ∧ PutTo R1 R2 (N + (encR b).length) w w' x p (rs ++ [b]) (dSync (dAppend s (encR b))) := by
  obtain ⟨v0, hc, hx, ho0⟩ := hw
  obtain ⟨Q1, hQ1, ho⟩ : ∃ Q : Nat → Prop, (∀ k, Q k → R1 k ∧ k ≠ x) ∧ OwS RwR 22 Q Q w v0 rs := ⟨_, fun _ h => h, ho0⟩
  obtain ⟨ao, cap, rfl⟩ := ho.shape
  obtain ⟨ab, cb, rfl⟩ := hb.shape
  have hxl := hc.lt
  have HWL := Lib.hid hc
  have HOL := Lib.hid ho
  have HQ1 := Lib.hid hQ1
  have HDK := Lib.hid hd
  have HB := Lib.hid hb
  have HBQ := hid (fun k (h : Q1 k) => hB1 k (hQ1 k h).1)
  have HB2 := Lib.hid hB2
  have HB3 := Lib.hid hB3
  have HQ2 := hid (fun k (h : Q1 k) => h12 k (hQ1 k h).1)
  have HQ3 := hid (fun k (h : Q1 k) (h3 : R3 k) => h13 k h3 (hQ1 k h).1)
  have H23 := hid (fun k (h : R2 k) (h3 : R3 k) => h23 k h3 h)
  have HX2 := hid (fun (h : R2 x) => h12 x hx h)
  have HXQ := hid (fun (h : Q1 x) => (hQ1 x h).2 rfl)
  have HX3 := hid (fun (h : R3 x) => h13 x h hx)
  have HX1 := Lib.hid hx
  have hel := encR_len (b := b) (by omega)
  clear hc ho0 ho hQ1 hd hb hB1 hB2 hB3 h12 h13 h23 hx
  go_enter Try.func12, Try.ntmps12
  go_upto_region 1 with (fail)
  have HM0 := hid (Mod.refl (fun k => (k = x) ∨ (Q1 k) ∨ (R2 k)) w)
  go_upto_region 1 with (fail)
  refine wp_region_U 41 [7, 8, 9] [0, 1, 2] (fun a0 HA0 => ?_)
  have oe1 := ev HA0 1 rfl
  refine QSeq.pure rfl _ (fun E => ex_move rfl (E.v oe1)) ?_
  refine QSeq.pure rfl (.int .i64 b.length) (fun E => ex_lenS rfl (E.d 0 0) Try.underlying22) ?_
  refine QSeq.pure rfl (.bool false) (fun E => ex_binE rfl (E.d 1 0) rfl (guard_ints _ _ _ _ _ _) (run_gtr_i _ _ _ Try.underlying3) (congrArg Value.bool (decide_eq_false (by omega)))) ?_
  refine QSeq.nil (t' := [_, _, _]) rfl ?_
  obtain rfl := HA0.out
  clear HA0 oe1
  simp only [pz, Act.put, List.setIfInBounds_toArray, List.set_cons_zero, List.set_cons_succ]
  have HD1 := Lib.hid hd1
  clear hd1
  go_upto_region 3 with (fail)
  generalize ha0 : Act.mk _ _ = a0
  have oe0 : a0.eval (.tmp 0) = .pointer (some ⟨x, 0, none⟩) := by rw [← ha0]; rfl
  have oe1 : a0.eval (.tmp 1) = .slice ab b.length cb := by rw [← ha0]; rfl
  have hsz0 : a0.tmps.size = 41 := by rw [← ha0]; rfl
  have HA0 := hid ha0
  clear ha0
  refine wp_region_Q1 41 hsz0 [10, 11, 12, 13, 14, 15, 16, 17, 18, 5] (fun k => (R2 k)) (fun k j => (k = 3 ∧ ((R2 j)))) (fun _ _ h => h.2) [qi (.pointer (some ⟨x, 0, none⟩)), qi (.pointer (some ⟨x, 0, none⟩)), qi (.pointer (some ⟨x, 0, none⟩)), qi (.pointer (some ⟨p, 0, none⟩)), qv 0, qi (.slice ab b.length cb), qv 1, qv 2, qi (.int .i64 0), qi (.int .i64 0)] ⟨qi_stable, qi_stable, qi_stable, qi_stable, qv_stable, qi_stable, qv_stable, qv_stable, qi_stable, qi_stable, trivial⟩ [4, 6, 7, 8] ⟨?_, ?_, ?_, ?_, ?_, ?_, ?_, ?_, ?_, ?_, trivial⟩ ?_
  · exact stq (fun E => ex_move rfl (E.v oe0))
  · exact stq (fun E => ex_nil rfl (E.d 0))
  · exact stq (fun E => ex_field rfl Try.underlying62 rfl (by kernel_rfl) (E.d 1))
  · exact stq (fun E => ex_load1 rfl Try.underlying23 rfl (E.d 2) (Cs.lit1 (HWL.out.mod E.m (by intro h2; rcases h2 with ⟨h0, h2⟩ | h2 <;> first | omega | (have hb := HB2.out _ h2; omega) | exact HX2.out h2 | exact HXQ.out h2 | exact HX3.out h2)) rfl))
  · exact stepq_chain rfl
  · exact stq (fun E => ex_move rfl (E.v oe1))
  · exact stepq_chain rfl
  · exact stepq_chain rfl
  · exact stepq_chain rfl
  · exact stq (fun E => ex_assign rfl (E.d 8))
  intro u3_0 hr
  have zu3_0 := hr.size
  have Cx1 := hid (hr.new (S := (fun k => (R2 k))))
  have Hx2 := hid (HDK.out.mod hr (by intro k h1 h2; have hb := HB2.out k h1; omega))
  clear HDK
  clear hr
  refine QChain.go fun Z act E => ?_
  refine qc_callF (args := #[]) rfl (wanted_none rfl) rfl Try.func38 args0 (NewWriter_Q _) ?_
  rintro e u3_1a ⟨g1, rfl, qwr1, hm⟩
  have zu3_1a := hm.size
  refine ⟨_, rfl, hm.mono (fun _ _ h => h.elim), (fun _ => rfl), ?_⟩
  intro u3_1 hr
  have zu3_1 := hr.size
  have Hx3 := hid ((qwr1.widen (R' := (fun k => (New u3_0 u3_1a k))) (fun _ h => h) (Nat.le_refl _)).mod hr (by intro k h1 h2; omega))
  have hmr := Mod.after hm hr
  have Hx4 := hid (Hx2.out.mod hmr (by intro k h1 h2; have hb := HB2.out k h1; omega))
  clear Hx2
  clear hmr
  have Cx5 := hid (Cx1.out.go hm hr)
  clear Cx1 hm hr Z act E qwr1
  refine QChain.go fun Z act E => ?_
  refine qc_callF (args := #[.pointer (some ⟨g1, 0, none⟩), .slice ab b.length cb]) rfl (wanted_none rfl) rfl Try.func39 (args2 (chv (v := .pointer (some ⟨g1, 0, none⟩)) (E.d 4)) (E.d 5)) (WRow_W Hx3.out (HB.out.mod Cx5.out (by intro k h1 h2; first | omega | (have hb := HB3.out k h1; omega) | (have hb := HB2.out k h2; omega) | exact HQ2.out k h1 h2 | exact HQ2.out k h2 h1 | exact HQ3.out k h1 h2 | exact HQ3.out k h2 h1 | exact H23.out k h1 h2 | exact H23.out k h2 h1 | (have hb := HB3.out k h1; have hb2 := HB2.out k h2; omega) | exact HX2.out (h2 ▸ h1) | exact HX2.out (h1 ▸ h2) | exact HXQ.out (h2 ▸ h1) | exact HXQ.out (h1 ▸ h2) | exact HX3.out (h2 ▸ h1) | exact HX3.out (h1 ▸ h2))) (sN HB3) (by omega)) ?_
  rintro e u3_2a ⟨rfl, qwr1, hm⟩
  have zu3_2a := hm.size
  refine ⟨_, rfl, hm.mono (by intro k hk h; omega), (fun _ => rfl), ?_⟩
  intro u3_2 hr
  have zu3_2 := hr.size
  have Hx6 := hid ((qwr1.widen (R' := (fun k => (New u3_0 u3_1a k) ∨ (New u3_1 u3_2a k))) (fun _ h => h) (Nat.le_refl _)).mod hr (by intro k h1 h2; omega))
  have hmr := hm.two hr
  have Hx7 := hid (Hx4.out.mod hmr (by intro k h1 h2; have hb := HB2.out k h1; omega))
  clear Hx4
  clear hmr
  have Cx8 := hid (Cx5.out.goM hm hr (by intro k h0 h2; first | omega | exact h2))
  clear Cx5 hm hr Z act E qwr1 Hx3
  refine QChain.go fun Z act E => ?_
  refine qc_callF (args := #[.pointer (some ⟨g1, 0, none⟩)]) rfl (wanted_none rfl) rfl Try.func40 (args1 (chv (v := .pointer (some ⟨g1, 0, none⟩)) (E.d 6))) (WBytes_Q Hx6.out) ?_
  rintro e u3_3a ⟨v_a1, rfl, qa1, hm⟩
  obtain ⟨ao_a1, cap_a1, rfl⟩ := qa1.shape
  have zu3_3a := hm.size
  refine ⟨_, rfl, hm.mono (fun _ _ h => h.elim), (fun _ => rfl), ?_⟩
  intro u3_3 hr
  have zu3_3 := hr.size
  have Hx9 := hid ((qa1.widen (R' := (fun k => (New u3_2 u3_3a k))) (fun _ h => h) (Nat.le_refl _)).mod hr (by intro k h1 h2; omega))
  have hmr := Mod.after hm hr
  have Hx10 := hid (Hx7.out.mod hmr (by intro k h1 h2; have hb := HB2.out k h1; omega))
  have Hx11 := hid (Hx6.out.mod hmr (by intro k h1 h2; omega))
  clear Hx7 Hx6
  clear hmr
  have Cx12 := hid (Cx8.out.go hm hr)
  clear Cx8 hm hr Z act E qa1
  refine QChain.go fun Z act E => ?_
  refine qc_callF (args := #[.pointer (some ⟨p, 0, none⟩), .slice ao_a1 ((encR b).length) cap_a1]) rfl (wanted_none rfl) rfl Try.func21 (args2 (E.d 3) (chv (v := .slice ao_a1 ((encR b).length) cap_a1) (E.d 7))) (Append_W Hx10.out Hx9.out.rd (by intro k h1 h2; have hb := HB2.out k h2; omega) (by omega) (dErr_live HD1.out)) ?_
  rintro e u3_4a ⟨rfl, qdk, hm⟩
  have zu3_4a := hm.size
  refine ⟨_, rfl, hm.mono (by intro k hk h; first | omega | exact Or.inl ⟨(by have hb := HB2.out k h; omega), ⟨rfl, h⟩⟩), (fun _ => rfl), ?_⟩
  intro u3_4 hr
  have zu3_4 := hr.size
  have Hx13 := hid ((qdk.widen (R' := (fun k => (R2 k) ∨ (New u3_3 u3_4a k))) (fun _ h => h) (Nat.le_refl _)).mod hr (by intro k h1 h2; rcases h1 with h1 | h1 <;> first | omega | (have hb := HB2.out k h1; omega) | exact HX2.out (h2 ▸ h1) | exact HX2.out (h1 ▸ h2) | exact HXQ.out (h2 ▸ h1) | exact HXQ.out (h1 ▸ h2) | exact HX3.out (h2 ▸ h1) | exact HX3.out (h1 ▸ h2)))
  have hmr := hm.two hr
  have Hx14 := hid (Hx11.out.mod hmr (by intro k h1 h2; rcases h2 with h2 | h2 <;> first | omega | (have hb := HB2.out k h2; omega) | exact HX2.out (h2 ▸ h1) | exact HX2.out (h1 ▸ h2) | exact HXQ.out (h2 ▸ h1) | exact HXQ.out (h1 ▸ h2) | exact HX3.out (h2 ▸ h1) | exact HX3.out (h1 ▸ h2)))
  have Hx15 := hid (Hx9.out.mod hmr (by intro k h1 h2; rcases h2 with h2 | h2 <;> first | omega | (have hb := HB2.out k h2; omega) | exact HX2.out (h2 ▸ h1) | exact HX2.out (h1 ▸ h2) | exact HXQ.out (h2 ▸ h1) | exact HXQ.out (h1 ▸ h2) | exact HX3.out (h2 ▸ h1) | exact HX3.out (h1 ▸ h2)))
  clear Hx11 Hx9
  clear hmr
  have Cx16 := hid (Cx12.out.goM hm hr (fun _ _ h => h))
  clear Cx12 hm hr Z act E qdk Hx10
  clear Hx14
  clear Hx15
  refine QChain.nil fun vs hl hzz hrows hne => ?_
  obtain ⟨Z, hYZ, hZb, hV⟩ := hzz
  have f0 := fvi hV hl 0
  have f4 := fvc hV hl 4
  have f5 := fvi hV hl 5
  have f6 := fvc hV hl 6
  have f7 := fvc hV hl 7
  have f8 := fvi hV hl 8
  have f9 := fvi hV hl 9
  rw [show vs = [gw vs 0, gw vs 1, gw vs 2, gw vs 3, gw vs 4, gw vs 5, gw vs 6, gw vs 7, gw vs 8, gw vs 9] from (gw_eta hl).trans rfl]
  have ha0 := HA0.out
  subst ha0
  clear HA0 hV hYZ hZb hsz0 hrows hne oe0 oe1
  simp only [putAll, Act.put, List.setIfInBounds_toArray, List.set_cons_zero, List.set_cons_succ, f0, f4, f5, f6, f7, f8, f9]
  clear hl f0 f4 f5 f6 f7 f8 f9
  go_upto_region 4 with (fail)
  refine wp_region_U 41 [19, 20] [0, 1] (fun a0 HA0 => ?_)
  have oe5 := ev HA0 5 rfl
  refine QSeq.pure rfl _ (fun E => ex_move rfl (E.v oe5)) ?_
  refine QSeq.pure rfl (.bool false) (fun E => ex_binE rfl (E.d 0 0) rfl (guard_ints _ _ _ _ _ _) (run_neq_i _ _ _ Try.underlying26) (congrArg Value.bool (ne_ff rfl))) ?_
  refine QSeq.nil (t' := [_, _]) rfl ?_
  obtain rfl := HA0.out
  clear HA0 oe5
  simp only [pz, Act.put, List.setIfInBounds_toArray, List.set_cons_zero, List.set_cons_succ]
  have HD2 := Lib.hid hd2
  clear hd2
  go_upto_region 6 with (fail)
  refine wp_region_U 41 [22, 23, 24, 25, 26, 6] [0, 1, 2, 3, 4, 5] (fun a0 HA0 => ?_)
  have oe0 := ev HA0 0 rfl
  refine QSeq.pure rfl _ (fun E => ex_move rfl (E.v oe0)) ?_
  refine QSeq.pure rfl (.pointer (some ⟨x, 0, none⟩)) (fun E => ex_nil rfl (E.d 0 0)) ?_
  refine QSeq.pure rfl (.pointer (some ⟨x, 0, none⟩)) (fun E => ex_field rfl Try.underlying62 rfl (by kernel_rfl) (E.d 1 0)) ?_
  refine QSeq.pure rfl _ (fun E => ex_load1 rfl Try.underlying23 rfl (E.d 2 0) (Cs.lit1 (HWL.out.mod Cx16.out (by intro h2; first | omega | (have hb := HB2.out _ h2; omega) | exact HX2.out h2 | exact HXQ.out h2 | exact HX3.out h2)) rfl)) ?_
  refine QSeq.call rfl rfl Try.func37 (Sync_W Hx13.out (dErr_live HD2.out)) (fun E => args1 (E.d 3 0)) ?_
  rintro e u6_4 ⟨rfl, qdk, hm⟩
  refine ⟨_, rfl, ?_⟩
  have Hx17 := hid qdk
  have zu6_4 := hm.size
  have Cx18 := hid (show Mod (fun k => (R2 k) ∨ (New u3_3 u3_4a k)) u3_4 u6_4 from hm)
  clear hm
  clear qdk Hx13
  refine QSeq.pure rfl _ (fun E => ex_assign rfl (E.d 4 0)) ?_
  refine QSeq.nil (t' := [_, _, _, _, _, _]) rfl ?_
  obtain rfl := HA0.out
  clear HA0 oe0
  simp only [pz, Act.put, List.setIfInBounds_toArray, List.set_cons_zero, List.set_cons_succ]
  go_upto_region 7 with (fail)
  refine wp_region_U 41 [27, 28] [0, 1] (fun a0 HA0 => ?_)
  have oe6 := ev HA0 6 rfl
  refine QSeq.pure rfl _ (fun E => ex_move rfl (E.v oe6)) ?_
  refine QSeq.pure rfl (.bool false) (fun E => ex_binE rfl (E.d 0 0) rfl (guard_ints _ _ _ _ _ _) (run_neq_i _ _ _ Try.underlying26) (congrArg Value.bool (ne_ff rfl))) ?_
  refine QSeq.nil (t' := [_, _]) rfl ?_
  obtain rfl := HA0.out
  clear HA0 oe6
  simp only [pz, Act.put, List.setIfInBounds_toArray, List.set_cons_zero, List.set_cons_succ]
  have HNB := hid (show OwR (fun k => New w w k) 900000 u6_4 (.slice none 0 0) [] from ⟨Own.nil _ _ _ _, (fun g h => by cases h), Nat.zero_le _⟩)
  go_upto_region 9 with (fail)
  generalize ha0 : Act.mk _ _ = a0
  have oe0 : a0.eval (.tmp 0) = .pointer (some ⟨x, 0, none⟩) := by rw [← ha0]; rfl
  have oe1 : a0.eval (.tmp 1) = .slice ab b.length cb := by rw [← ha0]; rfl
  have hsz0 : a0.tmps.size = 41 := by rw [← ha0]; rfl
  have HA0 := hid ha0
  clear ha0
  refine wp_region_Q1 41 hsz0 [30, 31, 32, 33, 34, 35, 36, 37, 38, 39, 40, 52] (fun k => (Q1 k) ∨ (k = x)) (fun k j => (k = 2 ∧ ((Q1 j))) ∨ (k = 3 ∧ ((j = x)))) (by intro k j h; (try dsimp only at h ⊢); rcases h with ⟨-, h⟩ | ⟨-, h⟩; (exact Or.inl (h)); (exact Or.inr (h))) [qi (.pointer (some ⟨x, 0, none⟩)), qi (.pointer (some ⟨x, 0, none⟩)), qi (.pointer (some ⟨x, 0, none⟩)), qi (.pointer (some ⟨x, 1, none⟩)), qi (.slice ao rs.length cap), qi (.slice ab b.length cb), qv 0, qv 1, qv 2, qi (.pointer (some ⟨x, 0, none⟩)), qi (.pointer (some ⟨x, 1, none⟩)), qv 3] ⟨qi_stable, qi_stable, qi_stable, qi_stable, qi_stable, qi_stable, qv_stable, qv_stable, qv_stable, qi_stable, qi_stable, qv_stable, trivial⟩ [6, 7, 8, 11] ⟨?_, ?_, ?_, ?_, ?_, ?_, ?_, ?_, ?_, ?_, ?_, ?_, trivial⟩ ?_
  · exact stq (fun E => ex_move rfl (E.v oe0))
  · exact stq (fun E => ex_move rfl (E.v oe0))
  · exact stq (fun E => ex_nil rfl (E.d 1))
  · exact stq (fun E => ex_field rfl Try.underlying62 rfl (by kernel_rfl) (E.d 2))
  · refine stepq_env rfl rfl rfl fun _ _ _ _ _ _ hm0 _ _ hd hub _ => ?_
    have h3 := hd ⟨3, .data⟩ (by simp) rfl _ rfl
    refine qe_run rfl (wanted_none rfl) (ex_load1 rfl Try.underlying33 rfl h3 (Cs.lit1 (((HWL.out.mod Cx16.out (by intro h2; first | omega | (have hb := HB2.out _ h2; omega) | exact HX2.out h2 | exact HXQ.out h2 | exact HX3.out h2)).mod Cx18.out (by intro h2; rcases h2 with h2 | h2 <;> first | omega | (have hb := HB2.out _ h2; omega) | exact HX2.out h2 | exact HXQ.out h2 | exact HX3.out h2)).mod hm0 (by intro h2; have hu := hub 3 11 rfl (by kernel_rfl); rcases h2 with ⟨h0, kk, hk, h2⟩ | h2 <;> first | omega | (rcases h2 with ⟨hkk, h2⟩ | ⟨hkk, h2⟩ <;> first | omega | (have hb := HBQ.out _ h2; omega) | exact HX2.out h2 | exact HXQ.out h2 | exact HX3.out h2))) rfl)) QE.refl ?_
    rfl
  · exact stq (fun E => ex_move rfl (E.v oe1))
  · exact stepq_chain rfl
  · exact stepq_chain rfl
  · exact stepq_chain rfl
  · exact stq (fun E => ex_nil rfl (E.d 0))
  · exact stq (fun E => ex_field rfl Try.underlying62 rfl (by kernel_rfl) (E.d 9))
  · exact stepq_chain rfl
  intro u9_0 hr
  have zu9_0 := hr.size
  have Cx19 := hid (hr.new (S := (fun k => (Q1 k) ∨ (k = x))))
  have Hx20 := hid (((HWL.out.mod Cx16.out (by intro h2; first | omega | (have hb := HB2.out _ h2; omega) | exact HX2.out h2 | exact HXQ.out h2 | exact HX3.out h2)).mod Cx18.out (by intro h2; rcases h2 with h2 | h2 <;> first | omega | (have hb := HB2.out _ h2; omega) | exact HX2.out h2 | exact HXQ.out h2 | exact HX3.out h2)).mod hr (by intro h2; omega))
  clear HWL
  have Hx21 := hid (((HOL.out.mod Cx16.out (by intro k h1 h2; first | omega | (have hb := HBQ.out k h1; omega) | (have hb := HB2.out k h2; omega) | exact HQ2.out k h1 h2 | exact HQ2.out k h2 h1 | exact HQ3.out k h1 h2 | exact HQ3.out k h2 h1 | exact H23.out k h1 h2 | exact H23.out k h2 h1 | (have hb := HBQ.out k h1; have hb2 := HB2.out k h2; omega) | exact HX2.out (h2 ▸ h1) | exact HX2.out (h1 ▸ h2) | exact HXQ.out (h2 ▸ h1) | exact HXQ.out (h1 ▸ h2) | exact HX3.out (h2 ▸ h1) | exact HX3.out (h1 ▸ h2)) (by intro k h1 h2; first | omega | (have hb := HBQ.out k h1; omega) | (have hb := HB2.out k h2; omega) | exact HQ2.out k h1 h2 | exact HQ2.out k h2 h1 | exact HQ3.out k h1 h2 | exact HQ3.out k h2 h1 | exact H23.out k h1 h2 | exact H23.out k h2 h1 | (have hb := HBQ.out k h1; have hb2 := HB2.out k h2; omega) | exact HX2.out (h2 ▸ h1) | exact HX2.out (h1 ▸ h2) | exact HXQ.out (h2 ▸ h1) | exact HXQ.out (h1 ▸ h2) | exact HX3.out (h2 ▸ h1) | exact HX3.out (h1 ▸ h2))).mod Cx18.out (by intro k h1 h2; rcases h2 with h2 | h2 <;> first | omega | (have hb := HBQ.out k h1; omega) | (have hb := HB2.out k h2; omega) | exact HQ2.out k h1 h2 | exact HQ2.out k h2 h1 | exact HQ3.out k h1 h2 | exact HQ3.out k h2 h1 | exact H23.out k h1 h2 | exact H23.out k h2 h1 | (have hb := HBQ.out k h1; have hb2 := HB2.out k h2; omega) | exact HX2.out (h2 ▸ h1) | exact HX2.out (h1 ▸ h2) | exact HXQ.out (h2 ▸ h1) | exact HXQ.out (h1 ▸ h2) | exact HX3.out (h2 ▸ h1) | exact HX3.out (h1 ▸ h2)) (by intro k h1 h2; rcases h2 with h2 | h2 <;> first | omega | (have hb := HBQ.out k h1; omega) | (have hb := HB2.out k h2; omega) | exact HQ2.out k h1 h2 | exact HQ2.out k h2 h1 | exact HQ3.out k h1 h2 | exact HQ3.out k h2 h1 | exact H23.out k h1 h2 | exact H23.out k h2 h1 | (have hb := HBQ.out k h1; have hb2 := HB2.out k h2; omega) | exact HX2.out (h2 ▸ h1) | exact HX2.out (h1 ▸ h2) | exact HXQ.out (h2 ▸ h1) | exact HXQ.out (h1 ▸ h2) | exact HX3.out (h2 ▸ h1) | exact HX3.out (h1 ▸ h2))).mod hr (by intro k h1 h2; have hb := HBQ.out k h1; omega) (by intro k h1 h2; have hb := HBQ.out k h1; omega))
  clear HOL
  clear hr
  refine QChain.go fun Z act E => ?_
  refine qc_appR rfl (wanted_none rfl) rfl rfl (E.d 5) (HNB.out.mod Cx19.out (by intro k h1 h2; rcases h2 with h2 | h2 <;> first | omega | (have hb := HBQ.out k h2; omega) | exact HX2.out (h2 ▸ h1) | exact HX2.out (h1 ▸ h2) | exact HXQ.out (h2 ▸ h1) | exact HXQ.out (h1 ▸ h2) | exact HX3.out (h2 ▸ h1) | exact HX3.out (h1 ▸ h2))) (((HB.out.mod Cx16.out (by intro k h1 h2; first | omega | (have hb := HB3.out k h1; omega) | (have hb := HB2.out k h2; omega) | exact HQ2.out k h1 h2 | exact HQ2.out k h2 h1 | exact HQ3.out k h1 h2 | exact HQ3.out k h2 h1 | exact H23.out k h1 h2 | exact H23.out k h2 h1 | (have hb := HB3.out k h1; have hb2 := HB2.out k h2; omega) | exact HX2.out (h2 ▸ h1) | exact HX2.out (h1 ▸ h2) | exact HXQ.out (h2 ▸ h1) | exact HXQ.out (h1 ▸ h2) | exact HX3.out (h2 ▸ h1) | exact HX3.out (h1 ▸ h2))).mod Cx18.out (by intro k h1 h2; rcases h2 with h2 | h2 <;> first | omega | (have hb := HB3.out k h1; omega) | (have hb := HB2.out k h2; omega) | exact HQ2.out k h1 h2 | exact HQ2.out k h2 h1 | exact HQ3.out k h1 h2 | exact HQ3.out k h2 h1 | exact H23.out k h1 h2 | exact H23.out k h2 h1 | (have hb := HB3.out k h1; have hb2 := HB2.out k h2; omega) | exact HX2.out (h2 ▸ h1) | exact HX2.out (h1 ▸ h2) | exact HXQ.out (h2 ▸ h1) | exact HXQ.out (h1 ▸ h2) | exact HX3.out (h2 ▸ h1) | exact HX3.out (h1 ▸ h2))).mod Cx19.out (by intro k h1 h2; rcases h2 with h2 | h2 <;> first | omega | (have hb := HB3.out k h1; omega) | (have hb := HBQ.out k h2; omega) | exact HQ2.out k h1 h2 | exact HQ2.out k h2 h1 | exact HQ3.out k h1 h2 | exact HQ3.out k h2 h1 | exact H23.out k h1 h2 | exact H23.out k h2 h1 | (have hb := HB3.out k h1; have hb2 := HBQ.out k h2; omega) | exact HX2.out (h2 ▸ h1) | exact HX2.out (h1 ▸ h2) | exact HXQ.out (h2 ▸ h1) | exact HXQ.out (h1 ▸ h2) | exact HX3.out (h2 ▸ h1) | exact HX3.out (h1 ▸ h2))) (by simpa using (show b.length ≤ 900000 by omega)) ?_
  intro ao11 cap11 u9_1a qnb hm
  have zu9_1a := hm.size
  refine ⟨hm.mono (by intro k hk h; omega), (fun _ => rfl), ?_⟩
  intro u9_1 hr
  have zu9_1 := hr.size
  have Hx22 := hid ((qnb.widen (R' := (fun k => (New w w k) ∨ (New u9_0 u9_1a k))) (fun _ h => h) (Nat.le_refl _)).mod hr (by intro k h1 h2; omega))
  have hmr := hm.two hr
  have Hx23 := hid (Hx20.out.mod hmr (by intro h2; omega))
  have Hx24 := hid (Hx21.out.mod hmr (by intro k h1 h2; have hb := HBQ.out k h1; omega) (by intro k h1 h2; have hb := HBQ.out k h1; omega))
  clear Hx20 Hx21
  clear hmr
  have Cx25 := hid (Cx19.out.goM hm hr (by intro k h0 h2; first | omega | exact Or.inl h2 | exact Or.inr (h2)))
  clear Cx19 hm hr Z act E qnb HNB
  refine QChain.go fun Z act E => ?_
  have ea36 : act.eval (.tmp 36) = .slice ao11 (([] : List Int).length + b.length) cap11 := (chv (v := .slice ao11 (([] : List Int).length + b.length) cap11) (E.d 6))
  refine qc_rows rfl (wanted_none rfl) rfl Try.underlying33 (by decide) (C := #[.slice ao11 (([] : List Int).length + b.length) cap11]) (by simp only [List.map_toArray, List.map_cons, List.map_nil, ea36]; kernel_rfl) ?_
  intro u9_2a qrow hm
  have zl9_7 := qrow.lt
  have zu9_2a := hm.size
  refine ⟨hm.mono (fun _ _ h => h.elim), (fun _ => rfl), ?_⟩
  intro u9_2 hr
  have zu9_2 := hr.size
  have Hx26 := hid (qrow.mod hr (by intro h2; omega))
  have hmr := Mod.after hm hr
  have Hx27 := hid (Hx23.out.mod hmr (by intro h2; omega))
  have Hx28 := hid (Hx24.out.mod hmr (by intro k h1 h2; have hb := HBQ.out k h1; omega) (by intro k h1 h2; have hb := HBQ.out k h1; omega))
  have Hx29 := hid (Hx22.out.mod hmr (by intro k h1 h2; omega))
  clear Hx23 Hx24 Hx22
  clear hmr
  have Cx30 := hid (Cx25.out.go hm hr)
  clear Cx25 hm hr Z act E qrow ea36
  refine QChain.go fun Z act E => ?_
  refine qc_appS (A := RwR) (e := 22) rfl (wanted_none rfl) rfl (.slice none 0 0) 24 Try.underlying33 info_Rw (by rfl) (of_decide_eq_true (by kernel_rfl)) (E.d 4) (chv (v := .slice (some ⟨u9_1.heap.size, 0, none⟩) 1 1) (E.d 7)) (Hx28.out) (RdS.single (R := (fun k => (New w w k) ∨ (New u9_0 u9_1a k) ∨ (k = u9_1.heap.size))) Hx26.out (RwR.mk (b := b) (Hx29.out.rd.widen (R' := (fun k => (New w w k) ∨ (New u9_0 u9_1a k) ∨ (k = u9_1.heap.size))) (by intro k h1; rcases h1 with h1 | h1 <;> first | exact Or.inl h1 | exact Or.inr (Or.inl h1)) (Nat.le_refl _)) (by omega)) (by right; right; rfl)) (by intro k h1 h2; have hb := HBQ.out k h2; omega) (by simp only [List.length_cons, List.length_nil]; omega) (by rw [maxLen_val]; simp only [List.length_cons, List.length_nil]; omega) ?_
  intro ao15 cap15 u9_3a qout hm
  have zu9_3a := hm.size
  refine ⟨hm.mono (by intro k hk h; first | omega | exact Or.inl ⟨(by have hb := HBQ.out k h; omega), Or.inl ⟨rfl, h⟩⟩), (fun _ => rfl), ?_⟩
  intro u9_3 hr
  have zu9_3 := hr.size
  have Hx31 := hid ((qout.widen (R' := (fun k => (Q1 k) ∨ (New u9_2 u9_3a k))) (E' := (fun k => (Q1 k) ∨ (New w w k) ∨ (New u9_0 u9_1a k) ∨ (k = u9_1.heap.size))) (fun _ h => h) (by intro k h1; rcases h1 with h1 | (h1 | h1 | h1) <;> first | omega | exact h1.elim | exact Or.inl h1 | exact Or.inr (Or.inl h1) | exact Or.inr (Or.inr (Or.inl h1)) | exact Or.inr (Or.inr (Or.inr (h1))))).mod hr (by intro k h1 h2; rcases h1 with h1 | h1 <;> first | omega | (have hb := HBQ.out k h1; omega) | exact HX2.out (h2 ▸ h1) | exact HX2.out (h1 ▸ h2) | exact HXQ.out (h2 ▸ h1) | exact HXQ.out (h1 ▸ h2) | exact HX3.out (h2 ▸ h1) | exact HX3.out (h1 ▸ h2)) (by intro k h1 h2; rcases h1 with h1 | h1 | h1 | h1 <;> first | omega | (have hb := HBQ.out k h1; omega) | exact HX2.out (h2 ▸ h1) | exact HX2.out (h1 ▸ h2) | exact HXQ.out (h2 ▸ h1) | exact HXQ.out (h1 ▸ h2) | exact HX3.out (h2 ▸ h1) | exact HX3.out (h1 ▸ h2)))
  have hmr := hm.two hr
  have Hx32 := hid (Hx27.out.mod hmr (by intro h2; rcases h2 with h2 | h2 <;> first | omega | (have hb := HBQ.out _ h2; omega) | exact HX2.out h2 | exact HXQ.out h2 | exact HX3.out h2))
  have Hx33 := hid (Hx29.out.mod hmr (by intro k h1 h2; rcases h2 with h2 | h2 <;> first | omega | (have hb := HBQ.out k h2; omega) | exact HX2.out (h2 ▸ h1) | exact HX2.out (h1 ▸ h2) | exact HXQ.out (h2 ▸ h1) | exact HXQ.out (h1 ▸ h2) | exact HX3.out (h2 ▸ h1) | exact HX3.out (h1 ▸ h2)))
  have Hx34 := hid (Hx26.out.mod hmr (by intro h2; rcases h2 with h2 | h2 <;> first | omega | (have hb := HBQ.out _ h2; omega) | exact HX2.out h2 | exact HXQ.out h2 | exact HX3.out h2))
  clear Hx27 Hx29 Hx26
  clear hmr
  have Cx35 := hid (Cx30.out.goM hm hr (by intro k h0 h2; first | omega | exact Or.inl h2 | exact Or.inr (h2)))
  clear Cx30 hm hr Z act E qout Hx28
  refine QChain.go fun Z act E => ?_
  refine qc_store rfl (wanted_none rfl) rfl Hx32.out (off := 1) (vs := [Value.slice ao15 (rs.length + 1) cap15]) (by kernel_rfl) one1 (by simp) (E.d 10) (ec (chv (v := .slice ao15 (rs.length + 1) cap15) (E.d 8))) ?_
  intro u9_4a qc0 hm
  have qwl := qc0.eqv (b := #[Value.pointer (some ⟨p, 0, none⟩), Value.slice ao15 (rs.length + 1) cap15]) rfl
  clear qc0
  have zu9_4a := hm.size
  refine ⟨hm.mono (by intro k hk h; omega), (fun _ => rfl), ?_⟩
  intro u9_4 hr
  have zu9_4 := hr.size
  have Hx36 := hid (qwl.mod hr (by intro h2; omega))
  have hmr := hm.two hr
  have Hx37 := hid (Hx31.out.mod hmr (by intro k h1 h2; rcases h1 with h1 | h1 <;> rcases h2 with h2 | h2 <;> first | omega | (have hb := HBQ.out k h1; omega) | exact HX2.out (h2 ▸ h1) | exact HX2.out (h1 ▸ h2) | exact HXQ.out (h2 ▸ h1) | exact HXQ.out (h1 ▸ h2) | exact HX3.out (h2 ▸ h1) | exact HX3.out (h1 ▸ h2)) (by intro k h1 h2; rcases h1 with h1 | h1 | h1 | h1 <;> rcases h2 with h2 | h2 <;> first | omega | (have hb := HBQ.out k h1; omega) | exact HX2.out (h2 ▸ h1) | exact HX2.out (h1 ▸ h2) | exact HXQ.out (h2 ▸ h1) | exact HXQ.out (h1 ▸ h2) | exact HX3.out (h2 ▸ h1) | exact HX3.out (h1 ▸ h2)))
  have Hx38 := hid (Hx33.out.mod hmr (by intro k h1 h2; omega))
  have Hx39 := hid (Hx34.out.mod hmr (by intro h2; omega))
  clear Hx31 Hx33 Hx34
  clear hmr
  have Cx40 := hid (Cx35.out.goM hm hr (by intro k h0 h2; first | omega | exact Or.inl h2 | exact Or.inr (h2)))
  clear Cx35 hm hr Z act E qwl Hx32
  refine QChain.nil fun vs hl hzz hrows hne => ?_
  obtain ⟨Z, hYZ, hZb, hV⟩ := hzz
  have f0 := fvi hV hl 0
  have f1 := fvi hV hl 1
  have f5 := fvi hV hl 5
  have f6 := fvc hV hl 6
  have f7 := fvc hV hl 7
  have f8 := fvc hV hl 8
  rw [show vs = [gw vs 0, gw vs 1, gw vs 2, gw vs 3, gw vs 4, gw vs 5, gw vs 6, gw vs 7, gw vs 8, gw vs 9, gw vs 10, gw vs 11] from (gw_eta hl).trans rfl]
  have ha0 := HA0.out
  subst ha0
  clear HA0 hV hYZ hZb hsz0 hrows hne oe0 oe1
  simp only [putAll, Act.put, List.setIfInBounds_toArray, List.set_cons_zero, List.set_cons_succ, List.set_nil, f0, f1, f5, f6, f7, f8]
  clear hl f0 f1 f5 f6 f7 f8
  go_upto_region 10 with (fail)
  refine wp_region_U 41 [4] [0] (fun a0 HA0 => ?_)
  refine QSeq.pure rfl (.int .i64 0) (fun E => ex_assign rfl rfl) ?_
  refine QSeq.nil (t' := [_]) rfl ?_
  obtain rfl := HA0.out
  clear HA0
  simp only [pz, Act.put, List.setIfInBounds_toArray, List.set_cons_zero, List.set_cons_succ]
  go_wp2
  go_ret
  refine ⟨rfl, u6_4, by omega, by omega, (Hx17.out.mod Cx40.out (by intro k h1 h2; rcases h1 with h1 | h1 <;> rcases h2 with h2 | h2 <;> first | omega | (have hb := HB2.out k h1; omega) | (have hb := HBQ.out k h2; omega) | exact HQ2.out k h1 h2 | exact HQ2.out k h2 h1 | exact HQ3.out k h1 h2 | exact HQ3.out k h2 h1 | exact H23.out k h1 h2 | exact H23.out k h2 h1 | (have hb := HB2.out k h1; have hb2 := HBQ.out k h2; omega) | exact HX2.out (h2 ▸ h1) | exact HX2.out (h1 ▸ h2) | exact HXQ.out (h2 ▸ h1) | exact HXQ.out (h1 ▸ h2) | exact HX3.out (h2 ▸ h1) | exact HX3.out (h1 ▸ h2))).widen (by intro k h1; rcases h1 with h1 | h1 <;> first | exact Or.inl h1 | (right; omega)) (Nat.le_refl _), ⟨_, Hx36.out, Or.inl HX1.out, Hx37.out.widen (by intro k h1; rcases h1 with h1 | h1 <;> first | exact ⟨Or.inl (HQ1.out k h1).1, (HQ1.out k h1).2⟩ | exact ⟨Or.inr (by omega), by omega⟩) (by intro k h1; rcases h1 with h1 | h1 | h1 | h1 <;> first | exact ⟨Or.inl (HQ1.out k h1).1, (HQ1.out k h1).2⟩ | exact ⟨Or.inr (by omega), by omega⟩)⟩, (((HM0.out.trans Cx16.out (by intro k h1 h2; first | exact h2 | omega | exact Or.inl h2 | exact Or.inr h2 | exact Or.inr (Or.inl h2) | exact Or.inr (Or.inr h2) | (have hb := HB2.out k h2; omega))).trans Cx18.out (by intro k h1 h2; rcases h2 with h2 | h2 <;> first | exact h2 | omega | exact Or.inl h2 | exact Or.inr h2 | exact Or.inr (Or.inl h2) | exact Or.inr (Or.inr h2) | (have hb := HB2.out k h2; omega))).trans Cx40.out (by intro k h1 h2; rcases h2 with h2 | h2 <;> first | exact h2 | omega | exact Or.inl h2 | exact Or.inr h2 | exact Or.inr (Or.inl h2) | exact Or.inr (Or.inr h2) | (have hb := HBQ.out k h2; omega))).mono (fun k _ h => by rcases h with h | h | h <;> first | exact Or.inl (HQ1.out k h).1 | exact Or.inr h | exact Or.inl (h ▸ HX1.out))⟩
end Go.Proofs.Ythojipjleajajaa

/- The contracts of a disk and the log on it, told of both as one object. -/
namespace Go.Proofs.Ythojipjleajajaa
open Go Go.RowKit Go.Gv

section
variable {R R3 : Nat → Prop} {N M x p : Nat} {rs rs' : List (List Int)} {s : DS} {b bs : List Int} {sy : Nat} {w : World} {v : Value}
theorem Open_D (h : DkR R N w p ⟨bs, sy, 0, false, false⟩) (hB : ∀ k, R k → k < w.heap.size) (hN : N ≤ 900000) (hP : Parse bs rs) :
    Calls Try.prog 9 #[.pointer (some ⟨p, 0, none⟩)] w fun e w' => ∃ x, e = .returned (.tuple #[.pointer (some ⟨x, 0, none⟩), .int .i64 0]) ∧ LgR (fun k => R k ∨ New w w' k) N w' x p rs ⟨rowsE rs, (rowsE rs).length, 0, false, false⟩ ∧ Mod R w w' :=
  (Open_Q h hB hN hP).mono fun e w' ⟨x, he, hw, hd, hm⟩ => ⟨x, he, ⟨New w w', R, fun _ h => .inr h, fun _ h => .inl h, fun k h1 h2 => by have := hB k h2; unfold New at h1; omega, hw, hd⟩, hm⟩
theorem Open_L (h : LgR R N w x p rs ⟨bs, sy, 0, false, false⟩) (hB : ∀ k, R k → k < w.heap.size) (hN : N ≤ 900000) (hP : Parse bs rs') :
    Calls Try.prog 9 #[.pointer (some ⟨p, 0, none⟩)] w fun e w' => ∃ x', e = .returned (.tuple #[.pointer (some ⟨x', 0, none⟩), .int .i64 0]) ∧ LgR (fun k => R k ∨ New w w' k) N w' x' p rs' ⟨rowsE rs', (rowsE rs').length, 0, false, false⟩ ∧ Mod R w w' := by
  obtain ⟨R1, R2, h1, h2, h3, h4, h5⟩ := h
  exact (Open_D h5 (fun k hk => hB k (h2 k hk)) hN hP).mono fun e w' ⟨x', he, hl, hm⟩ => ⟨x', he, hl.widen (fun k hk => hk.imp (h2 k) id) (Nat.le_refl _), hm.mono (fun k _ hk => h2 k hk)⟩
theorem Put_L (h : LgR R N w x p rs s) (hb : RdR R3 M w v b) (hB : ∀ k, R k → k < w.heap.size) (hB3 : ∀ k, R3 k → k < w.heap.size) (h3 : ∀ k, R3 k → R k → False) (hbl : b.length ≤ 65536) (hN : N ≤ 900000) (hrl : rs.length ≤ 900000) :
    Calls Try.prog 12 #[.pointer (some ⟨x, 0, none⟩), v] w fun e w' => e = .returned (.int .i64 (putE s b)) ∧ LgR (fun k => R k ∨ New w w' k) (N + b.length + 10) w' x p (putL rs s b) (putS s b) ∧ Mod R w w' := by
  obtain ⟨R1, R2, h1, h2, h12, h4, h5⟩ := h
  have hel := encR_len (b := b) (by omega)
  have fin : ∀ (E : Int) (rs' : List (List Int)) (s' : DS), putE s b = E → putL rs s b = rs' → putS s b = s' → (Calls Try.prog 12 #[.pointer (some ⟨x, 0, none⟩), v] w fun e w' => e = .returned (.int .i64 E) ∧ PutTo R1 R2 (N + (encR b).length) w w' x p rs' s') →
      Calls Try.prog 12 #[.pointer (some ⟨x, 0, none⟩), v] w fun e w' => e = .returned (.int .i64 (putE s b)) ∧ LgR (fun k => R k ∨ New w w' k) (N + b.length + 10) w' x p (putL rs s b) (putS s b) ∧ Mod R w w' := by
    intro E rs' s' e1 e2 e3 hc
    rw [e1, e2, e3]
    refine hc.mono fun e w' ⟨he, wm, z1, z2, hd, hw, hm⟩ => ⟨he, ⟨_, _, ?_, ?_, ?_, hw, hd.widen (fun _ h => h) (by omega)⟩, hm.mono fun k _ hk => hk.elim (h1 k) (h2 k)⟩
    · intro k hk; rcases hk with hk | hk
      · exact .inl (h1 k hk)
      · exact .inr ⟨by omega, hk.2⟩
    · intro k hk; rcases hk with hk | hk
      · exact .inl (h2 k hk)
      · exact .inr ⟨hk.1, by omega⟩
    · intro k hk hq
      rcases hk with hk | hk <;> rcases hq with hq | hq
      · exact h12 k hk hq
      · have := hB k (h1 k hk); omega
      · have := hB k (h2 k hq); omega
      · omega
  by_cases hd1 : (dStep s).dead = true
  · have e1 : putE s b = 9 := by unfold putE; rw [if_pos hd1]
    exact fin 9 rs _ e1 (by unfold putL; rw [e1, if_neg (by decide)]) (by unfold putS; rw [if_pos hd1]) (Put_A h4 h5 hb (fun k hk => hB k (h1 k hk)) (fun k hk => hB k (h2 k hk)) hB3 h12 (fun k a c => h3 k a (h1 k c)) (fun k a c => h3 k a (h2 k c)) hbl hN hrl hd1)
  · have hd1' : (dStep s).dead = false := by simpa using hd1
    by_cases hd2 : (dStep (dAppend s (encR b))).dead = true
    · have e1 : putE s b = 9 := by unfold putE; rw [if_neg hd1]; exact dErr_dead hd2
      exact fin 9 rs _ e1 (by unfold putL; rw [e1, if_neg (by decide)]) (by unfold putS; rw [if_neg hd1]) (Put_B h4 h5 hb (fun k hk => hB k (h1 k hk)) (fun k hk => hB k (h2 k hk)) hB3 h12 (fun k a c => h3 k a (h1 k c)) (fun k a c => h3 k a (h2 k c)) hbl hN hrl hd1' hd2)
    · have hd2' : (dStep (dAppend s (encR b))).dead = false := by simpa using hd2
      have e1 : putE s b = 0 := by unfold putE; rw [if_neg hd1]; exact dErr_live hd2'
      exact fin 0 (rs ++ [b]) _ e1 (by unfold putL; rw [e1, if_pos rfl]) (by unfold putS; rw [if_neg hd1]) (Put_C h4 h5 hb (fun k hk => hB k (h1 k hk)) (fun k hk => hB k (h2 k hk)) hB3 h12 (fun k a c => h3 k a (h1 k c)) (fun k a c => h3 k a (h2 k c)) hbl hN hrl hd1' hd2')
/-- a put on a disk that stops nowhere -/
theorem Put_LC (h : LgR R N w x p rs ⟨bs, sy, 0, false, false⟩) (hb : RdR R3 M w v b) (hB : ∀ k, R k → k < w.heap.size) (hB3 : ∀ k, R3 k → k < w.heap.size) (h3 : ∀ k, R3 k → R k → False) (hbl : b.length ≤ 65536) (hN : N ≤ 900000) (hrl : rs.length ≤ 900000) (hbs : bs = rowsE rs) :
    Calls Try.prog 12 #[.pointer (some ⟨x, 0, none⟩), v] w fun e w' => e = .returned (.int .i64 0) ∧ LgR (fun k => R k ∨ New w w' k) (N + b.length + 10) w' x p (rs ++ [b]) ⟨rowsE (rs ++ [b]), (rowsE (rs ++ [b])).length, 0, false, false⟩ ∧ Mod R w w' := by
  have K := Put_L h hb hB hB3 h3 hbl hN hrl
  subst hbs
  rw [show putL rs ⟨rowsE rs, sy, 0, false, false⟩ b = rs ++ [b] from rfl, show putE ⟨rowsE rs, sy, 0, false, false⟩ b = 0 from rfl, show putS ⟨rowsE rs, sy, 0, false, false⟩ b = ⟨rowsE rs ++ encR b, (rowsE rs ++ encR b).length, 0, false, false⟩ from rfl, ← rowsE_snoc] at K
  exact K
theorem Records_L (h : LgR R N w x p rs s) (hB : ∀ k, R k → k < w.heap.size) (hl : rs.length ≤ 1000000) :
    Calls Try.prog 14 #[.pointer (some ⟨x, 0, none⟩)] w fun e w' => ∃ v, e = .returned v ∧ OwS RwR 22 (New w w') (New w w') w' v rs ∧ Mod (fun _ => False) w w' := by
  obtain ⟨R1, R2, h1, h2, h12, h4, h5⟩ := h
  exact Records_Q h4 (fun k hk => hB k (h1 k hk)) hl
theorem WLen_L (h : LgR R N w x p rs s) : Calls Try.prog 13 #[.pointer (some ⟨x, 0, none⟩)] w fun e w' => e = .returned (.int .i64 (rs.length : Nat)) ∧ w = w' := by
  obtain ⟨R1, R2, h1, h2, h12, h4, h5⟩ := h
  exact WLen_Q h4
theorem Synced_L (h : LgR R N w x p rs s) (hs : s.sy = sy) : Calls Try.prog 19 #[.pointer (some ⟨p, 0, none⟩)] w fun e w' => e = .returned (.int .i64 (sy : Nat)) ∧ w = w' := by
  obtain ⟨R1, R2, h1, h2, h12, h4, h5⟩ := h
  subst hs; exact Synced_R h5
theorem Dead_L (h : LgR R N w x p rs s) {d : Bool} (hs : s.dead = d) : Calls Try.prog 31 #[.pointer (some ⟨p, 0, none⟩)] w fun e w' => e = .returned (.bool d) ∧ w = w' := by
  obtain ⟨R1, R2, h1, h2, h12, h4, h5⟩ := h
  subst hs; exact Dead_R h5
theorem Read_L (h : LgR R N w x p rs s) (hN : N ≤ 900000) (hs : s.b = bs) : Calls Try.prog 17 #[.pointer (some ⟨p, 0, none⟩)] w fun e w' => ∃ v', e = .returned v' ∧ OwR (New w w') 900000 w' v' bs ∧ Mod (fun _ => False) w w' := by
  obtain ⟨R1, R2, h1, h2, h12, h4, h5⟩ := h
  subst hs
  exact (Read_R h5 (by omega)).mono fun e w' ⟨v', he, ho, hm⟩ => ⟨v', he, ho.widen (fun _ h => h) hN, hm⟩
theorem Crash_L {keep : Int} (h : LgR R N w x p rs s) (hN : N ≤ 900000) (hk : -9223372036854775808 ≤ keep ∧ keep ≤ 9223372036854775807) :
    Calls Try.prog 22 #[.pointer (some ⟨p, 0, none⟩), .int .i64 keep] w fun e w' => e = .returned (.tuple #[]) ∧ LgR R N w' x p rs ⟨(dCrash s keep.toNat).b, (dCrash s keep.toNat).sy, 0, false, false⟩ ∧ Mod R w w' := by
  obtain ⟨R1, R2, h1, h2, h12, h4, h5⟩ := h
  exact (Crash_R h5 (by omega) hk).mono fun e w' ⟨he, hd, hm⟩ => ⟨he, ⟨R1, R2, h1, h2, h12, h4.mod hm h12, hd⟩, hm.mono fun k _ hk => h2 k hk⟩
theorem Fuse_L {n : Int} (h : LgR R N w x p rs s) (hk : -9223372036854775808 ≤ n ∧ n ≤ 9223372036854775807) :
    Calls Try.prog 25 #[.pointer (some ⟨p, 0, none⟩), .int .i64 n] w fun e w' => e = .returned (.tuple #[]) ∧ LgR R N w' x p rs (dFuse s n.toNat) ∧ Mod R w w' := by
  obtain ⟨R1, R2, h1, h2, h12, h4, h5⟩ := h
  exact (Fuse_R h5 hk).mono fun e w' ⟨he, hd, hm⟩ => ⟨he, ⟨R1, R2, h1, h2, h12, h4.mod hm h12, hd⟩, hm.mono fun k _ hk => h2 k hk⟩
end
end Go.Proofs.Ythojipjleajajaa

/- Bytes that are written out: rows of one's own; a row that is marked. -/
namespace Go.Proofs.Ythojipjleajajaa
open Go Go.RowKit Go.Gv

section
variable {ops : Array Oper} {i : Nat} {o : Oper} {a : Act} {w : World}
theorem qc_bytes {KQ : Value → World → Prop} {ts T8 : TypeId} {n : Nat} {parts : Array (Nat × Operand)} (ho : ops[i]? = some o) (hw : Region.wanted o (yielded ops a.tmps) = true) (hop : o.op = .buildSlice ts n parts) (hu : Try.prog.underlying ts = some (.slice T8)) (hie : (Try.prog.info? T8).map (fun i => (i.size, i.zero)) = some (1, some (.int .u8 0))) (hn : n ≠ 0 ∧ n ≤ 1000) {C : Array Value}
    (hf : Instr.fill (fun i => some (i * 1, 1)) ((Array.range (n * 1)).map (#[Value.int .u8 0][· % 1]!)) (parts.map fun (i, x) => (i, a.eval x)).toList = some C)
    (h : ∀ w', Cs w' w.heap.size C T8 → Mod (fun _ => False) w w' → KQ (.slice (some ⟨w.heap.size, 0, none⟩) n n) w') {Q : Exit → Act → World → Prop} : wpOp Try.prog ops Q i (fun a' w' => ∃ v, a' = a.put o.dst v ∧ KQ v w') a w :=
  qc_run ho hw (ex_lit hop hu hie hn hf) (h _ (Cs.new _ _ _) ((Mod.refl _ _).alloc _))
end
/-- a row's conversion to its own type marks it -/
theorem qc_mark {ops : Array Oper} {i : Nat} {o : Oper} {a : Act} {w : World} {Q : Exit → Act → World → Prop} {KQ : Value → World → Prop} {ts T8 : TypeId} {x : Operand} {C : Array Value} {g : Nat} (hop : ops[i]? = some o) (hw : Region.wanted o (yielded ops a.tmps) = true) (ho : o.op = .convert ts ts x) (hu : Try.prog.underlying ts = some (.slice T8)) (he : Try.prog.underlying T8 = some (.int .u8))
    (hx : a.eval x = .slice (some ⟨g, 0, none⟩) C.size C.size) (hb : Cs w g C T8) (h : ∀ w' m', w'.heap[g]? = some (.cells C T8 m') → Mod (fun k => k = g) w w' → KQ (.slice (some ⟨g, 0, none⟩) C.size C.size) w') : wpOp Try.prog ops Q i (fun a' w' => ∃ v, a' = a.put o.dst v ∧ KQ v w') a w := by
  have hlt := (Array.getElem?_eq_some_iff.1 hb).1
  have hsh : w.shape? g = some (T8, C.size) := by unfold World.shape?; rw [hb]
  obtain ⟨m', hblk⟩ : ∃ m', (w.freeze ⟨g, C.size, none⟩ 1).heap[g]? = some (.cells C T8 m') := by
    unfold World.freeze
    rw [if_neg (by decide)]
    rw [Array.getElem?_modify, if_pos rfl, hb]
    exact ⟨_, rfl⟩
  refine qc_run hop hw (v := .slice (some ⟨g, 0, none⟩) C.size C.size) (w' := w.freeze ⟨g, C.size, none⟩ 1) ?_ (h _ m' hblk ⟨by unfold World.freeze; rw [if_neg (by decide)], by unfold World.freeze; rw [if_neg (by decide)], by unfold World.freeze; rw [if_neg (by decide)], by unfold World.freeze; rw [if_neg (by decide)]; simp, fun k hk hn => ?_⟩)
  · unfold execOp
    simp [ho, hx, convert, run_underlying hu, run_underlying he, markStringish, hsh]
  · unfold World.freeze
    rw [if_neg (by decide)]
    rw [Array.getElem?_modify, if_neg (fun e => hn (e.symm))]
theorem RdR_marked {w : World} {g : Nat} {C : Array Value} {T8 : TypeId} {m : Nat × Nat} {bs : List Int} (h : w.heap[g]? = some (.cells C T8 m)) (hC : C = (bs.map bv).toArray) (hb : Bytes bs) (hl : bs.length ≤ 1000000) : RdR (fun k => k = g) bs.length w (.slice (some ⟨g, 0, none⟩) bs.length bs.length) bs := by
  subst hC
  refine ⟨⟨hb, Rd.mk (Nat.le_refl _) (by rw [maxLen_val]; omega) (by simp) fun j u hu => ?_⟩, fun _ g' hg' => by cases hg'; rfl, Nat.le_refl _⟩
  rw [Nat.zero_add]
  simp [World.cell?, h]
  simpa using hu
end Go.Proofs.Ythojipjleajajaa

/- Slices of things as arguments: whatever a reading gives of them; rows, calls, numbers, truths. -/
namespace Go.Proofs.Ythojipjleajajaa
open Go Go.RowKit Go.Gv Go.ChangeShapes Go.WideShapes Go.ChangeAt Go.Deep

/-- whatever reads as a T reads as one of A -/
def Reads {α : Type} (A : Rep α) (T : TypeId) : Prop := ∀ (H : Type) (enc : TypeId × Value → H) (W : World) (fuel : Nat) (cs : List Value) (x : DataW H × List MemPlace), DataW.trod enc Try.prog W 0 (fun _ => true) true fuel T cs = some x → ∃ a, A.rd (fun k => k < W.heap.size) W cs a
theorem all_list {α : Type} {P : List Value → α → Prop} : ∀ (css : List (List Value)), (∀ cs ∈ css, ∃ a, P cs a) → ∃ l : List α, l.length = css.length ∧ ∀ (i : Nat) cs a, css[i]? = some cs → l[i]? = some a → P cs a
  | [], _ => ⟨[], rfl, fun i cs a h => by simp at h⟩
  | c :: r, h => by
    obtain ⟨a, ha⟩ := h c (by simp)
    obtain ⟨l, h1, h2⟩ := all_list r fun cs hcs => h cs (by simp [hcs])
    refine ⟨a :: l, by simp [h1], fun i cs b hi hb => ?_⟩
    cases i with
    | zero => simp at hi hb; subst hi hb; exact ha
    | succ i => simp at hi hb; exact h2 i cs b hi hb
theorem trod_slice {α : Type} {A : Rep α} {t e : TypeId} {H : Type} {enc : TypeId × Value → H} {W : World} {fuel : Nat} {v : Value} {x : DataW H × List MemPlace} (hr : Reads A e) (ht : Try.prog.underlying t = some (.slice e)) (hce : Try.prog.cellsOf e = A.sz)
    (h : DataW.trod enc Try.prog W 0 (fun _ => true) true fuel t [v] = some x) : ∃ l : List α, RdS A (fun k => k < W.heap.size) W v l := by
  haveI : Inhabited {cs : List Value // cs.length = A.sz} := ⟨⟨List.replicate A.sz undef, by simp⟩⟩
  have hsh : ∃ ao n cap, v = .slice ao n cap ∧ n ≤ cap ∧ cap ≤ maxLen ∧ (ao = none → cap = 0) := by
    rcases open_slice ht h with ⟨hcs, _⟩ | ⟨a, len, cap, m, n, D, Pl, hcs, _, hl, hm, hmm, _, hel⟩
    · simp at hcs; subst hcs; exact ⟨none, 0, 0, rfl, Nat.le_refl _, Nat.zero_le _, fun _ => rfl⟩
    · simp at hcs; subst hcs; simp only [if_true] at hmm; subst hmm; exact ⟨some a, len, _, rfl, hl, hm, fun h => by cases h⟩
  obtain ⟨raws, h1, h2⟩ := trod_list (fun a : {cs : List Value // cs.length = A.sz} => a.1) (fun a => ∃ y, A.rd (fun k => k < W.heap.size) W a.1 y) ht hce A.pos (fun a => a.2)
    (fun fuel cs x hx => by obtain ⟨a, ha⟩ := hr H enc W fuel cs x hx; exact ⟨⟨cs, A.len ha⟩, rfl, a, ha⟩) h
  obtain ⟨l, hl, hP⟩ := all_list (P := fun cs a => A.rd (fun k => k < W.heap.size) W cs a) (raws.map (·.1)) (fun cs hcs => by obtain ⟨a, ha, rfl⟩ := List.mem_map.1 hcs; exact h2 a ha)
  have hl' : l.length = raws.length := by simpa using hl
  refine ⟨l, raws.map (·.1), by simp [hl'], hP, ?_, ?_⟩
  · have hcl : ∀ cs ∈ raws.map (·.1), cs.length = A.sz := fun cs hcs => by obtain ⟨a, _, rfl⟩ := List.mem_map.1 hcs; exact a.2
    have hfl := flat_len hcl
    rcases h1 with ⟨rfl, ao, cap, rfl⟩ | ⟨g, o, cap, hg, rfl, h0, hc, hm, hcell⟩
    · obtain ⟨ao', n', cap', e', g1, g2, g3⟩ := hsh
      cases e'
      obtain rfl : l = [] := List.eq_nil_of_length_eq_zero (by simpa using hl')
      exact Rd.zero _ _ _ _ g2 g3
    · rw [hl']
      refine Rd.mk hc hm (by rw [hfl]; simp) fun j u hu => ?_
      have hj := (List.getElem?_eq_some_iff.1 hu).1
      rw [hfl] at hj
      simp only [List.length_map] at hj
      have hq : j / A.sz < raws.length := Nat.div_lt_of_lt_mul (by rw [Nat.mul_comm]; exact hj)
      have hmod := Nat.mod_lt j A.pos
      have hdm := Nat.div_add_mod j A.sz
      have hgt := flat_get hcl (j / A.sz) raws[j / A.sz].1 (by simp [List.getElem?_eq_getElem hq]) (j % A.sz) (raws[j / A.sz].1[j % A.sz]'(by rw [raws[j / A.sz].2]; exact hmod)) (List.getElem?_eq_getElem _)
      rw [show j / A.sz * A.sz + j % A.sz = j by rw [Nat.mul_comm]; exact hdm] at hgt
      rw [hgt] at hu
      have := hcell (j / A.sz) hq (j % A.sz) u (by rw [List.getElem?_eq_getElem (by rw [raws[j / A.sz].2]; exact hmod)]; exact hu)
      rw [show o + j / A.sz * A.sz + j % A.sz = o + j by rw [Nat.add_assoc, Nat.mul_comm, hdm]] at this
      exact this
  · intro h0 g hg
    rcases h1 with ⟨rfl, ao, cap, rfl⟩ | ⟨g', o, cap, hg', rfl, _⟩
    · simp at hl'; rw [hl'] at h0; simp at h0
    · simp [Value.ownBlock] at hg; subst hg; exact hg'
theorem slice_arg {α : Type} {A : Rep α} {t e : TypeId} (hr : Reads A e) (ht : Try.prog.underlying t = some (.slice e)) (hce : Try.prog.cellsOf e = A.sz) {H : Type} {enc : TypeId × Value → H} {W : World} {v : Value} {d : DataW H} {p : List MemPlace}
    (h : DataW.Trod enc Try.prog W 0 (fun _ => true) true t v d p) {base : Nat} (hv : Value.okWide Try.prog W .any base t v) : ∃ l : List α, RdS A (fun k => k < W.heap.size) W v l := by
  obtain ⟨a0, len0, cap0, rfl⟩ := okWide_slice ht hv
  obtain ⟨fuel, hf⟩ := h
  exact trod_slice hr ht hce hf
theorem RdR_keepY {R : Nat → Prop} {N : Nat} {w w' : World} {v : Value} {bs : List Int} (h : RdR R N w v bs) (hk : ∀ p u, R p.block → w.cell? p = some u → w'.cell? p = some u) : RdR R N w' v bs :=
  ⟨⟨h.1.1, h.1.2.keepc fun h0 g hg p u hp hc => hk p u (hp ▸ h.2.1 h0 g hg) hc⟩, h.2⟩
theorem RdR_tightY {R : Nat → Prop} {N : Nat} {w : World} {v : Value} {bs : List Int} (h : RdR R N w v bs) : RdR (fun k => R k ∧ k < w.heap.size) N w v bs :=
  ⟨h.1, fun h0 g hg => ⟨h.2.1 h0 g hg, h.1.2.lt (by decide) h0 hg⟩, h.2.2⟩
/-- a call of a log's play -/
structure Ac where
  d : Int
  n : Int
  b : List Int
def Ac.OK (a : Ac) : Prop := (-9223372036854775808 ≤ a.d ∧ a.d ≤ 9223372036854775807) ∧ (-9223372036854775808 ≤ a.n ∧ a.n ≤ 9223372036854775807)
def AcR : Rep Ac where
  sz := 3
  pos := by decide
  rd R w cs a := ∃ v, cs = [.int .i64 a.d, .int .i64 a.n, v] ∧ a.OK ∧ RdR R a.b.length w v a.b
  len h := by obtain ⟨v, rfl, _⟩ := h; rfl
  one h := by
    obtain ⟨v, rfl, _, h0⟩ := h
    obtain ⟨_, _, e⟩ := h0.shape
    subst e
    intro u hu
    simp only [List.mem_cons, List.not_mem_nil, or_false] at hu
    rcases hu with rfl | rfl | rfl <;> rfl
  keep h hk := by obtain ⟨v, rfl, ho, h0⟩ := h; exact ⟨v, rfl, ho, RdR_keepY h0 hk⟩
  wid h hs := by obtain ⟨v, rfl, ho, h0⟩ := h; exact ⟨v, rfl, ho, h0.widen hs (Nat.le_refl _)⟩
  tight h := by obtain ⟨v, rfl, ho, h0⟩ := h; exact ⟨v, rfl, ho, RdR_tightY h0⟩
theorem reads_ac : Reads AcR 52 := by
  intro H enc W fuel cs x h
  obtain ⟨xs, n, _, rfl, hl, hn, hf⟩ := DataW.trod_struct Try.underlying52 h
  rw [show Try.prog.cellsOf 52 = 3 from by kernel_rfl] at hl
  have f0 : DataW.trod enc Try.prog W 0 (fun _ => true) true n 3 ((cs.drop 0).take (Try.prog.cellsOf 3)) = xs[0]? := hf 0 _ rfl
  have f1 : DataW.trod enc Try.prog W 0 (fun _ => true) true n 3 ((cs.drop 1).take (Try.prog.cellsOf 3)) = xs[1]? := hf 1 _ rfl
  have f3 : DataW.trod enc Try.prog W 0 (fun _ => true) true n 22 ((cs.drop 2).take (Try.prog.cellsOf 22)) = xs[2]? := hf 2 _ rfl
  have hxs : xs.length = 3 := hn
  rw [List.getElem?_eq_getElem (by omega)] at f0 f1 f3
  rw [show Try.prog.cellsOf 3 = 1 from by kernel_rfl] at f0 f1
  rw [show Try.prog.cellsOf 22 = 1 from by kernel_rfl] at f3
  match cs, hl with
  | [c0, c1, c2], _ =>
    simp only [List.drop_zero, List.drop_succ_cons, List.take_succ_cons, List.take_zero] at f0 f1 f3
    obtain ⟨q0, e0, _, w0⟩ := DataW.trod_int Try.underlying3 f0
    obtain ⟨q1, e1, _, w1⟩ := DataW.trod_int Try.underlying3 f1
    obtain ⟨b3, r3⟩ := trod_bytes f3
    simp at e0 e1
    subst e0 e1
    exact ⟨⟨q0, q1, b3⟩, c2, rfl, ⟨i64_bd w0, i64_bd w1⟩, r3⟩
end Go.Proofs.Ythojipjleajajaa

/- Short contracts for the statements about logs. -/
namespace Go.Proofs.Ythojipjleajajaa
open Go Go.RowKit Go.Gv

section
variable {R R2 R3 : Nat → Prop} {N M x p : Nat} {rs : List (List Int)} {s : DS} {b bs cs : List Int} {w : World} {v v2 : Value}
theorem Cut_W {n : Nat} (hr : RdR R N w v bs) (hn : n ≤ 100000) (e : cs = bs.take n) :
    Calls Try.prog 11 #[v, .int .i64 n] w fun e w' => ∃ v', e = .returned v' ∧ OwR (New w w') 900000 w' v' cs ∧ Mod (fun _ => False) w w' := by
  subst e
  exact (Cut_R n hr (by omega)).mono fun e w' ⟨v', he, ho, hm⟩ => ⟨v', he, ho.widen (fun _ h => h) (by omega), hm⟩
theorem Rows_T (hs : RdS RwR R w v rs) (ht : RdS RwR R2 w v2 rs) (hB : ∀ k, R k → k < w.heap.size) (hB2 : ∀ k, R2 k → k < w.heap.size) :
    Calls Try.prog 18 #[v, v2] w fun e w' => e = .returned (.bool true) ∧ Mod (fun _ => False) w w' := by
  have K := Rows_W hs ht hB hB2
  rw [decide_eq_true rfl] at K
  exact K
theorem Same_T (ha : RdR R N w v bs) (hb : RdR R2 M w v2 bs) : Calls Try.prog 15 #[v, v2] w fun e w' => e = .returned (.bool true) ∧ Mod (fun _ => False) w w' := by
  have K := Same_R ha hb
  rw [decide_eq_true rfl] at K
  exact K
end
theorem Parse.nil : Parse [] [] := Parse.whole Fit.nil
end Go.Proofs.Ythojipjleajajaa

/- gavellaw08: the document's own example. -/
namespace Go.Proofs.Ythojipjleajajaa
open Go Go.RowKit Go.Gv

set_option maxHeartbeats 4000000 in
theorem wakes08 (w : World) : Calls Try.prog 16 #[] w fun e w' => e = .returned (.bool true) ∧ Mod (fun _ => False) w w' := by
 go_enter Try.func16, Try.ntmps16
 go_upto_region 1 with (fail)
 have HM0 := hid (Mod.refl (fun _ => False) w)
 go_upto_region 1 with (fail)
 refine wp_region_U 43 [6, 1] [0, 1] (fun a0 HA0 => ?_)
 refine QSeq.call rfl rfl Try.func8 (New_R _) (fun E => args0) ?_
 rintro e u1_0 ⟨p, rfl, qdk, hm⟩
 refine ⟨_, rfl, ?_⟩
 have Hx1 := hid qdk
 have zu1_0 := hm.size
 have Cx2 := hid (show Mod (fun _ => False) w u1_0 from hm)
 clear hm
 clear qdk
 refine QSeq.pure rfl _ (fun E => ex_assign rfl (E.d 0 0)) ?_
 refine QSeq.nil (t' := [_, _]) rfl ?_
 obtain rfl := HA0.out
 clear HA0
 simp only [pz, Act.put, List.setIfInBounds_toArray, List.set_cons_zero, List.set_cons_succ]
 go_upto_region 2 with (fail)
 refine wp_region_U 43 [7, 8] [0, 1] (fun a0 HA0 => ?_)
 have oe1 := ev HA0 1 rfl
 refine QSeq.pure rfl _ (fun E => ex_move rfl (E.v oe1)) ?_
 refine QSeq.pure rfl (.bool false) (fun E => ex_bin rfl (E.d 0 0) rfl (guard_ptr _ _ _ _ _ _ _) (run_eql_nil _ Try.underlying23 (by kernel_rfl) _)) ?_
 refine QSeq.nil (t' := [_, _]) rfl ?_
 obtain rfl := HA0.out
 clear HA0 oe1
 simp only [pz, Act.put, List.setIfInBounds_toArray, List.set_cons_zero, List.set_cons_succ]
 go_upto_region 4 with (fail)
 refine wp_region_U 43 [10, 11, 9, 12, 13, 2, 3] [0, 1, 2, 3, 4, 5, 6] (fun a0 HA0 => ?_)
 have oe1 := ev HA0 1 rfl
 refine QSeq.pure rfl _ (fun E => ex_move rfl (E.v oe1)) ?_
 refine QSeq.call rfl rfl Try.func9 (Open_D Hx1.out (by intro k h1; omega) (by omega) Parse.nil) (fun E => args1 (E.d 0 0)) ?_
 rintro e u4_1 ⟨x, rfl, qlg, hm⟩
 refine ⟨_, rfl, ?_⟩
 have Hx3 := hid (qlg.widen (R' := (fun k => (New w u1_0 k) ∨ (New u1_0 u4_1 k))) (fun _ h => h) (Nat.le_refl _))
 have zu4_1 := hm.size
 have Cx4 := hid (show Mod (fun k => (New w u1_0 k)) u1_0 u4_1 from hm)
 clear hm
 clear qlg
 clear Hx1
 refine QSeq.pure rfl _ (fun E => ex_move rfl (E.d 1 0)) ?_
 refine QSeq.pure rfl (.pointer (some ⟨x, 0, none⟩)) (fun E => ex_extract rfl (E.d 2 0) rfl) ?_
 refine QSeq.pure rfl (.int .i64 0) (fun E => ex_extract rfl (E.d 2 1) rfl) ?_
 refine QSeq.pure rfl _ (fun E => ex_assign rfl (E.d 3 1)) ?_
 refine QSeq.pure rfl _ (fun E => ex_assign rfl (E.d 4 1)) ?_
 refine QSeq.nil (t' := [_, _, _, _, _, _, _]) rfl ?_
 obtain rfl := HA0.out
 clear HA0 oe1
 simp only [pz, Act.put, List.setIfInBounds_toArray, List.set_cons_zero, List.set_cons_succ]
 go_upto_region 5 with (fail)
 refine wp_region_U 43 [14, 15, 16, 17, 18, 19, 20, 21, 22, 23, 24, 25, 26] [0, 1, 2, 3, 4, 5, 6, 7, 8, 9, 10, 11, 12] (fun a0 HA0 => ?_)
 have oe2 := ev HA0 2 rfl
 have oe3 := ev HA0 3 rfl
 refine QSeq.pure rfl _ (fun E => ex_move rfl (E.v oe3)) ?_
 refine QSeq.pure rfl (.bool false) (fun E => ex_binE rfl (E.d 0 0) rfl (guard_ints _ _ _ _ _ _) (run_neq_i _ _ _ Try.underlying26) (congrArg Value.bool (show _ = false from rfl))) ?_
 refine QSeq.pure rfl _ (fun E => ex_move rfl (E.d 1 0)) ?_
 refine QSeq.pureG rfl (.pointer (some ⟨x, 0, none⟩)) (fun E => ((wanted_of rfl rfl (E.sz 16 (by decide)) (E.d 2 0)).trans rfl)) (fun E => ex_move rfl (E.v oe2)) ?_
 refine QSeq.pureG rfl (.bool false) (fun E => ((wanted_of rfl rfl (E.sz 16 (by decide)) (E.d 2 1)).trans rfl)) (fun E => ex_bin rfl (E.d 3 0) rfl (guard_ptr _ _ _ _ _ _ _) (run_eql_nil _ Try.underlying25 (by kernel_rfl) _)) ?_
 refine QSeq.pure rfl (.bool false) (fun E => ex_pick rfl (E.d 2 2) rfl (E.d 4 0)) ?_
 refine QSeq.pure rfl _ (fun E => ex_move rfl (E.d 5 0)) ?_
 refine QSeq.pureG rfl (.pointer (some ⟨x, 0, none⟩)) (fun E => ((wanted_of rfl rfl (E.sz 20 (by decide)) (E.d 6 0)).trans rfl)) (fun E => ex_move rfl (E.v oe2)) ?_
 refine QSeq.go fun act E => ?_
 refine qc_bytes rfl ((wanted_of rfl rfl (E.sz 20 (by decide)) (E.d 6 1)).trans rfl) rfl Try.underlying22 (by kernel_rfl) (by decide) (C := #[.int .u8 97]) (by simp only [List.map_toArray, List.map_cons, List.map_nil, Act.eval]; kernel_rfl) ?_
 intro u5_8 qlit hm
 have zl5_8 := qlit.lt
 have Hx5 := hid qlit
 have zu5_8 := hm.size
 have Cx6 := hid (show Mod (fun _ => False) u4_1 u5_8 from hm)
 clear hm
 clear act E qlit
 refine QSeq.go fun act E => ?_
 refine qc_mark (C := #[.int .u8 97]) rfl ((wanted_of rfl rfl (E.sz 20 (by decide)) (E.d 6 2)).trans rfl) rfl Try.underlying22 Try.underlying5 (E.d 8 0) Hx5.out ?_
 intro u5_9 mk hmk hm
 have qrow := RdR_marked (bs := [97]) hmk rfl (by intro y hy; simp at hy; omega) (by decide)
 clear hmk
 clear Hx5
 have Hx7 := hid qrow
 have zu5_9 := hm.size
 have HMu5_9 := hid hm
 have Cx8 := hid (Mod.goS (S' := (fun _ => False)) Cx6.out hm (fun _ h => h) (by intro k h0 h2; omega))
 clear hm Cx6
 clear act E qrow
 refine QSeq.go fun act E => ?_
 refine qc_callF (args := #[.pointer (some ⟨x, 0, none⟩), .slice (some ⟨u4_1.heap.size, 0, none⟩) 1 1]) rfl ((wanted_of rfl rfl (E.sz 20 (by decide)) (E.d 6 3)).trans rfl) rfl Try.func12 (args2 (E.d 7 2) (E.d 9 0)) (Put_LC (Hx3.out.mod Cx8.out (fun _ _ h => h)) Hx7.out (by intro k h1; omega) (by intro k h1; omega) (by intro k h1 h2; omega) (by decide) (by decide) (by decide) rfl) ?_
 rintro e u5_10 ⟨rfl, qlg, hm⟩
 refine ⟨_, rfl, ?_⟩
 have Hx9 := hid (qlg.widen (R' := (fun k => (New w u1_0 k) ∨ (New u1_0 u4_1 k) ∨ (New u5_9 u5_10 k))) (by intro k h1; omega) (Nat.le_refl _))
 have zu5_10 := hm.size
 have HMu5_10 := hid hm
 have Cx10 := hid (Mod.goS (S' := (fun k => (New w u1_0 k) ∨ (New u1_0 u4_1 k))) Cx8.out hm (fun _ h => h.elim) (by intro k h0 h2; rcases h2 with h2 | h2; exact Or.inl h2; exact Or.inr (h2)))
 clear hm Cx8
 clear act E qlg Hx3
 refine QSeq.pureG rfl (.bool false) (fun E => ((wanted_of rfl rfl (E.sz 20 (by decide)) (E.d 6 4)).trans rfl)) (fun E => ex_binE rfl (E.d 10 0) rfl (guard_ints _ _ _ _ _ _) (run_neq_i _ _ _ Try.underlying26) (congrArg Value.bool (show _ = false from rfl))) ?_
 refine QSeq.pure rfl (.bool false) (fun E => ex_pick rfl (E.d 6 5) rfl (E.d 11 0)) ?_
 have Hx11 := hid (Hx7.out.mod HMu5_10.out (by intro k h1 h2; omega))
 clear Hx7 HMu5_9 HMu5_10
 refine QSeq.nil (t' := [_, _, _, _, _, _, _, _, _, _, _, _, _]) rfl ?_
 obtain rfl := HA0.out
 clear HA0 oe2 oe3
 simp only [pz, Act.put, List.setIfInBounds_toArray, List.set_cons_zero, List.set_cons_succ]
 clear Hx11
 go_upto_region 7 with (fail)
 refine wp_region_U 43 [28, 29, 27, 30, 31, 4, 5] [0, 1, 2, 3, 4, 5, 6] (fun a0 HA0 => ?_)
 have oe1 := ev HA0 1 rfl
 refine QSeq.pure rfl _ (fun E => ex_move rfl (E.v oe1)) ?_
 refine QSeq.call rfl rfl Try.func9 (Open_L Hx9.out (by intro k h1; omega) (by decide) (Parse.whole (by intro b hb; simp at hb; subst hb; decide))) (fun E => args1 (E.d 0 0)) ?_
 rintro e u7_1 ⟨y, rfl, qlg, hm⟩
 refine ⟨_, rfl, ?_⟩
 have Hx12 := hid (qlg.widen (R' := (fun k => (New w u1_0 k) ∨ (New u1_0 u4_1 k) ∨ (New u5_9 u5_10 k) ∨ (New u5_10 u7_1 k))) (by intro k h1; omega) (Nat.le_refl _))
 have zu7_1 := hm.size
 have Cx13 := hid (show Mod (fun k => (New w u1_0 k) ∨ (New u1_0 u4_1 k) ∨ (New u5_9 u5_10 k)) u5_10 u7_1 from hm)
 clear hm
 clear qlg Hx9
 refine QSeq.pure rfl _ (fun E => ex_move rfl (E.d 1 0)) ?_
 refine QSeq.pure rfl (.pointer (some ⟨y, 0, none⟩)) (fun E => ex_extract rfl (E.d 2 0) rfl) ?_
 refine QSeq.pure rfl (.int .i64 0) (fun E => ex_extract rfl (E.d 2 1) rfl) ?_
 refine QSeq.pure rfl _ (fun E => ex_assign rfl (E.d 3 1)) ?_
 refine QSeq.pure rfl _ (fun E => ex_assign rfl (E.d 4 1)) ?_
 refine QSeq.nil (t' := [_, _, _, _, _, _, _]) rfl ?_
 obtain rfl := HA0.out
 clear HA0 oe1
 simp only [pz, Act.put, List.setIfInBounds_toArray, List.set_cons_zero, List.set_cons_succ]
 go_upto_region 8 with (fail)
 refine wp_region_U 43 [32, 33, 34, 35, 36, 37, 38, 39, 40, 41, 42, 0] [0, 1, 2, 3, 4, 5, 6, 7, 8, 9, 10, 11] (fun a0 HA0 => ?_)
 have oe4 := ev HA0 4 rfl
 have oe5 := ev HA0 5 rfl
 refine QSeq.pure rfl _ (fun E => ex_move rfl (E.v oe5)) ?_
 refine QSeq.pure rfl (.bool true) (fun E => ex_binE rfl (E.d 0 0) rfl (guard_ints _ _ _ _ _ _) (run_eql_i _ _ _ Try.underlying26) (congrArg Value.bool (show _ = true from rfl))) ?_
 refine QSeq.pure rfl _ (fun E => ex_move rfl (E.d 1 0)) ?_
 refine QSeq.pureG rfl (.pointer (some ⟨y, 0, none⟩)) (fun E => ((wanted_of rfl rfl (E.sz 34 (by decide)) (E.d 2 0)).trans rfl)) (fun E => ex_move rfl (E.v oe4)) ?_
 refine QSeq.pureG rfl (.bool true) (fun E => ((wanted_of rfl rfl (E.sz 34 (by decide)) (E.d 2 1)).trans rfl)) (fun E => ex_bin rfl (E.d 3 0) rfl (guard_ptr _ _ _ _ _ _ _) (run_neq_nil _ Try.underlying25 (by kernel_rfl) _)) ?_
 refine QSeq.pure rfl (.bool true) (fun E => ex_pick rfl (E.d 2 2) (E.d 4 0) rfl) ?_
 refine QSeq.pure rfl _ (fun E => ex_move rfl (E.d 5 0)) ?_
 refine QSeq.pureG rfl (.pointer (some ⟨y, 0, none⟩)) (fun E => ((wanted_of rfl rfl (E.sz 38 (by decide)) (E.d 6 0)).trans rfl)) (fun E => ex_move rfl (E.v oe4)) ?_
 refine QSeq.go fun act E => ?_
 refine qc_callF (args := #[.pointer (some ⟨y, 0, none⟩)]) rfl ((wanted_of rfl rfl (E.sz 38 (by decide)) (E.d 6 1)).trans rfl) rfl Try.func13 (args1 (E.d 7 0)) (WLen_L Hx12.out) ?_
 rintro e w2 ⟨rfl, hw2⟩
 obtain rfl : u7_1 = w2 := by first | exact hw2 | exact hw2.symm
 refine ⟨_, rfl, ?_⟩
 clear act E
 refine QSeq.pureG rfl (.bool true) (fun E => ((wanted_of rfl rfl (E.sz 38 (by decide)) (E.d 6 2)).trans rfl)) (fun E => ex_binE rfl (E.d 8 0) rfl (guard_ints _ _ _ _ _ _) (run_eql_i _ _ _ Try.underlying3) (congrArg Value.bool (show _ = true from rfl))) ?_
 refine QSeq.pure rfl (.bool true) (fun E => ex_pick rfl (E.d 6 3) (E.d 9 0) rfl) ?_
 refine QSeq.pure rfl _ (fun E => ex_assign rfl (E.d 10 0)) ?_
 refine QSeq.nil (t' := [_, _, _, _, _, _, _, _, _, _, _, _]) rfl ?_
 obtain rfl := HA0.out
 clear HA0 oe4 oe5
 simp only [pz, Act.put, List.setIfInBounds_toArray, List.set_cons_zero, List.set_cons_succ]
 go_wp2
 go_ret
 exact ⟨rfl, ((((HM0.out.trans Cx2.out (fun _ _ h => h.elim)).trans Cx4.out (by intro k h1 h2; omega)).trans Cx10.out (by intro k h1 h2; omega)).trans Cx13.out (by intro k h1 h2; omega))⟩
end Go.Proofs.Ythojipjleajajaa

/- The document's own disk: each method, as a function of what the disk holds. -/
namespace Go.Proofs.Ythojipjleajajaa
open Go Go.RowKit Go.Gv

/-- the document's disk: its fuse's number counts where it is armed -/
def RkR (R : Nat → Prop) (N : Nat) (w : World) (p : Nat) (s : DS) : Prop :=
  ∃ (v : Value) (f : Int), Cs w p #[v, .int .i64 s.sy, .bool s.dead, .bool s.lit, .int .i64 f] 47 ∧ R p ∧ OwR (fun k => R k ∧ k ≠ p) N w v s.b ∧ s.sy ≤ s.b.length ∧ (s.lit = true → f = s.fu) ∧ (0 ≤ f ∧ f ≤ 9223372036854775807)
section
variable {R R' S : Nat → Prop} {N M : Nat} {w w' : World} {p : Nat} {s : DS}
theorem RkR.mod (h : RkR R N w p s) (hm : Mod S w w') (hs : ∀ k, R k → S k → False) : RkR R N w' p s := by
  obtain ⟨v, f, h1, h2, h3, h4⟩ := h
  exact ⟨v, f, h1.mod hm (hs p h2), h2, h3.mod hm (fun k hk => hs k hk.1), h4⟩
theorem RkR.widen (h : RkR R N w p s) (hs : ∀ k, R k → R' k) (hM : N ≤ M) : RkR R' M w p s := by
  obtain ⟨v, f, h1, h2, h3, h4⟩ := h
  exact ⟨v, f, h1, hs p h2, h3.widen (fun k hk => ⟨hs k hk.1, hk.2⟩) hM, h4⟩
theorem RkR.len (h : RkR R N w p s) : s.b.length ≤ N := by obtain ⟨v, f, h1, h2, h3, h4⟩ := h; exact h3.2.2
/-- the cells were turned, the bytes are where they were -/
theorem RkR.turn {v : Value} {f' : Int} {s' : DS} (h1 : Cs w' p #[v, .int .i64 s'.sy, .bool s'.dead, .bool s'.lit, .int .i64 f'] 47) (h2 : R p) (h3 : OwR (fun k => R k ∧ k ≠ p) N w v s.b) (hm : Mod (fun k => k = p) w w') (hb : s'.b = s.b) (hsy : s'.sy ≤ s.b.length) (hf : s'.lit = true → f' = s'.fu) (hf2 : 0 ≤ f' ∧ f' ≤ 9223372036854775807) : RkR R N w' p s' ∧ Mod R w w' := by
  refine ⟨⟨v, f', h1, h2, ?_, by rw [hb]; exact hsy, hf, hf2⟩, hm.mono fun k _ hk => by subst hk; exact h2⟩
  rw [hb]
  exact h3.mod hm (fun k hk e => hk.2 e)
theorem stopped_R (h : RkR R N w p s) :
    Calls Try.prog 42 #[.pointer (some ⟨p, 0, none⟩)] w fun e w' => e = .returned (.bool (dStep s).dead) ∧ RkR R N w' p (dStep s) ∧ Mod R w w' := by
  obtain ⟨v, f, h1, h2, h3, h4, h5, h6⟩ := h
  obtain ⟨b, sy, fu, lit, dead⟩ := s
  dsimp only at *
  have c2 : w.cell? ⟨p, 2, none⟩ = some (.bool dead) := (h1.cell 2).trans rfl
  have f2 := h1.frozen 2
  have c3 : w.cell? ⟨p, 3, none⟩ = some (.bool lit) := (h1.cell 3).trans rfl
  have c4 : w.cell? ⟨p, 4, none⟩ = some (.int .i64 f) := (h1.cell 4).trans rfl
  have f4 := h1.frozen 4
  have H1 := Lib.hid h1
  have H2 := Lib.hid h2
  have H3 := Lib.hid h3
  clear h1 h3
  have run : ∀ (s' : DS), dStep ⟨b, sy, fu, lit, dead⟩ = s' → Calls Try.prog 42 #[.pointer (some ⟨p, 0, none⟩)] w (fun e w' => e = .returned (.bool s'.dead) ∧ RkR R N w' p s' ∧ Mod R w w') → Calls Try.prog 42 #[.pointer (some ⟨p, 0, none⟩)] w (fun e w' => e = .returned (.bool (dStep ⟨b, sy, fu, lit, dead⟩).dead) ∧ RkR R N w' p (dStep ⟨b, sy, fu, lit, dead⟩) ∧ Mod R w w') := by
    intro s' e hh; rw [e]; exact hh
  cases lit with
  | false =>
    refine run ⟨b, sy, fu, false, dead⟩ (by simp [dStep, dEnds]) ?_
    clear run
    have H6 := Lib.hid h6
    clear h5 h6
    cases dead
    all_goals
      go_enter Try.func42, Try.ntmps42
      go_wp2
      go_ret
      exact ⟨rfl, ⟨v, f, H1.out, H2.out, H3.out, h4, (fun h => by cases h), H6.out⟩, Mod.refl _ _⟩
  | true =>
    have hf := h5 rfl
    subst hf
    clear h5
    cases dead <;> by_cases h0 : fu = 0
    · subst h0
      refine run ⟨b, sy, 0, true, true⟩ (by simp [dStep, dEnds]) ?_
      clear run
      go_enter Try.func42, Try.ntmps42
      go_wp2
      go_ret
      exact ⟨rfl, RkR.turn (s := ⟨b, sy, 0, true, false⟩) (s' := ⟨b, sy, 0, true, true⟩) (f' := 0) (H1.out.set 2 (.bool true)) H2.out H3.out ((Mod.refl (fun k => k = p) w).setCell (fun _ => rfl) _) rfl h4 (fun _ => rfl) (by decide)⟩
    · refine run ⟨b, sy, (fu - 1), true, false⟩ (by simp [dStep, dEnds, h0]) ?_
      clear run
      have hn : ((fu - 1 : Nat) : Int) = (fu : Int) - 1 := by omega
      have HN := Lib.hid hn
      have H6 := Lib.hid h6
      have hfu : (fu : Int) ≠ 0 := by omega
      clear hn
      go_enter Try.func42, Try.ntmps42
      go_wp2
      go_ret
      have h6 := H6.out
      exact ⟨rfl, RkR.turn (s := ⟨b, sy, fu, true, false⟩) (s' := ⟨b, sy, fu - 1, true, false⟩) (f' := (fu : Int) - 1) (H1.out.set 4 _) H2.out H3.out ((Mod.refl (fun k => k = p) w).setCell (fun _ => rfl) _) rfl h4 (fun _ => HN.out.symm) (by omega)⟩
    · subst h0
      refine run ⟨b, sy, 0, true, true⟩ (by simp [dStep, dEnds]) ?_
      clear run
      go_enter Try.func42, Try.ntmps42
      go_wp2
      go_ret
      exact ⟨rfl, RkR.turn (s := ⟨b, sy, 0, true, true⟩) (s' := ⟨b, sy, 0, true, true⟩) (f' := 0) (H1.out.set 2 (.bool true)) H2.out H3.out ((Mod.refl (fun k => k = p) w).setCell (fun _ => rfl) _) rfl h4 (fun _ => rfl) (by decide)⟩
    · refine run ⟨b, sy, fu, true, true⟩ (by simp [dStep, dEnds, h0]) ?_
      clear run
      have hfu : (fu : Int) ≠ 0 := by omega
      have H6 := Lib.hid h6
      go_enter Try.func42, Try.ntmps42
      go_wp2
      go_ret
      exact ⟨rfl, ⟨v, fu, H1.out, H2.out, H3.out, h4, (fun _ => rfl), H6.out⟩, Mod.refl _ _⟩
end
end Go.Proofs.Ythojipjleajajaa

/- The document's disk: its methods. -/
namespace Go.Proofs.Ythojipjleajajaa
open Go Go.RowKit Go.Gv

theorem stopped_E {R : Nat → Prop} {N p : Nat} {s : DS} {d : Bool} {w : World} (h : RkR R N w p s) (hd : (dStep s).dead = d) :
    Calls Try.prog 42 #[.pointer (some ⟨p, 0, none⟩)] w fun e w' => e = .returned (.bool d) ∧ RkR R N w' p (dStep s) ∧ Mod R w w' := by
  subst hd; exact stopped_R h
theorem OwR_cut3 {R : Nat → Prop} {N : Nat} {w : World} {ao : Option Addr} {n cap : Nat} {bs : List Int} (h : OwR R N w (.slice ao n cap) bs) (k : Nat) (hk : k ≤ bs.length) : OwR R N w (.slice ao k k) (bs.take k) := by
  obtain ⟨h1, h2, h3⟩ := h
  exact ⟨OwnB.cut3 h1 k hk, fun g hg => h2 g (by cases ao <;> exact hg), by rw [List.length_take]; omega⟩
/-- p's cells, its bytes, told apart -/
structure RkO (R Q : Nat → Prop) (N : Nat) (w : World) (p : Nat) (ao : Option Addr) (cap : Nat) (f : Int) (s : DS) : Prop where
  kc : Cs w p #[.slice ao s.b.length cap, .int .i64 s.sy, .bool s.dead, .bool s.lit, .int .i64 f] 47
  kq : ∀ k, Q k → R k ∧ k ≠ p
  kp : R p
  ko : OwR Q N w (.slice ao s.b.length cap) s.b
  ks : s.sy ≤ s.b.length
  kf : s.lit = true → f = s.fu
  kg : 0 ≤ f ∧ f ≤ 9223372036854775807
  kl : s.b.length ≤ cap ∧ cap ≤ 9223372036854775807
theorem RkR.open {R : Nat → Prop} {N p : Nat} {s : DS} {w : World} (h : RkR R N w p s) : ∃ (Q : Nat → Prop) (ao : Option Addr) (cap : Nat) (f : Int), RkO R Q N w p ao cap f s := by
  obtain ⟨v, f, h1, h2, h3, h4, h5, h6⟩ := h
  obtain ⟨ao, cap, rfl⟩ := h3.shape
  have hl := h3.rd.1.len
  rw [maxLen_val] at hl
  exact ⟨_, ao, cap, f, h1, fun _ h => h, h2, h3, h4, h5, h6, hl.2⟩
theorem RkO.shut {R Q R' Q' : Nat → Prop} {N M p : Nat} {s s' : DS} {w w' : World} {ao : Option Addr} {cap : Nat} {f f' : Int} {v : Value} (h : RkO R Q N w p ao cap f s) (hc : Cs w' p #[v, .int .i64 s'.sy, .bool s'.dead, .bool s'.lit, .int .i64 f'] 47) (ho : OwR Q' 900000 w' v s'.b) (hM : s'.b.length ≤ M) (hq : ∀ k, Q' k → R' k ∧ k ≠ p) (hr : R' p) (hsy : s'.sy ≤ s'.b.length) (hf : s'.lit = true → f' = s'.fu) (hg : 0 ≤ f' ∧ f' ≤ 9223372036854775807) : RkR R' M w' p s' :=
  ⟨v, f', hc, hr, ⟨ho.1, fun g hg => hq g (ho.2.1 g hg), hM⟩, hsy, hf, hg⟩
theorem RAppend_A {R R3 : Nat → Prop} {N M p : Nat} {s : DS} {v : Value} {cs : List Int} {w : World} (h : RkR R N w p s) (hb : RdR R3 M w v cs) (hB : ∀ k, R k → k < w.heap.size) (hB3 : ∀ k, R3 k → k < w.heap.size) (hs : ∀ k, R3 k → R k → False) (hd : (dStep s).dead = true) :
    Calls Try.prog 23 #[.pointer (some ⟨p, 0, none⟩), v] w fun e w' => e = .returned (.int .i64 9) ∧ RkR R N w' p (dStep s) ∧ Mod R w w' := by
  obtain ⟨ac, cc, rfl⟩ := hb.shape
  have HDK := Lib.hid h
  have HB := Lib.hid hb
  have HBR := Lib.hid hB
  have HB3 := Lib.hid hB3
  have HR3 := hid (fun k (h : R k) (h3 : R3 k) => hs k h3 h)
  have HD := Lib.hid hd
  clear h hb hB hB3 hs hd
  go_enter Try.func23, Try.ntmps23
  go_upto_region 1 with (fail)
  have HM0 := hid (Mod.refl (fun k => (R k)) w)
  go_upto_region 1 with (fail)
  refine wp_region_U 27 [5, 6] [0, 1] (fun a0 HA0 => ?_)
  have oe0 := ev HA0 0 rfl
  refine QSeq.pure rfl _ (fun E => ex_move rfl (E.v oe0)) ?_
  refine QSeq.call rfl rfl Try.func42 (stopped_E HDK.out HD.out) (fun E => args1 (E.d 0 0)) ?_
  rintro e u1_1 ⟨rfl, qdk, hm⟩
  refine ⟨_, rfl, ?_⟩
  have Hx1 := hid qdk
  have zu1_1 := hm.size
  have Cx2 := hid (show Mod (fun k => (R k)) w u1_1 from hm)
  clear hm
  clear qdk HDK
  refine QSeq.nil (t' := [_, _]) rfl ?_
  obtain rfl := HA0.out
  clear HA0 oe0
  simp only [pz, Act.put, List.setIfInBounds_toArray, List.set_cons_zero, List.set_cons_succ]
  go_upto_region 2 with (fail)
  refine wp_region_U 27 [4] [0] (fun a0 HA0 => ?_)
  refine QSeq.pure rfl (.int .i64 9) (fun E => ex_assign rfl rfl) ?_
  refine QSeq.nil (t' := [_]) rfl ?_
  obtain rfl := HA0.out
  clear HA0
  simp only [pz, Act.put, List.setIfInBounds_toArray, List.set_cons_zero, List.set_cons_succ]
  go_wp2
  go_ret
  exact ⟨rfl, Hx1.out, (HM0.out.trans Cx2.out (fun _ _ h => h))⟩
theorem dAppend_is {s : DS} {cs : List Int} (hd : (dStep s).dead = false) : dAppend s cs = { dStep s with b := s.b ++ cs } := by unfold dAppend; rw [if_neg (by rw [hd]; decide)]
set_option maxHeartbeats 4000000 in
theorem RAppend_C {R R3 : Nat → Prop} {N M p : Nat} {s : DS} {v : Value} {cs : List Int} {w : World} (h : RkR R N w p s) (hb : RdR R3 M w v cs) (hB : ∀ k, R k → k < w.heap.size) (hB3 : ∀ k, R3 k → k < w.heap.size) (hs : ∀ k, R3 k → R k → False) (hd : (dStep s).dead = false) (hN : N + M ≤ 900000) :
    Calls Try.prog 23 #[.pointer (some ⟨p, 0, none⟩), v] w fun e w' => e = .returned (.int .i64 0) ∧ RkR (fun k => R k ∨ New w w' k) (N + M) w' p (dAppend s cs) ∧ Mod R w w' := by
  have HA := Lib.hid (dAppend_is (cs := cs) hd)
  obtain ⟨ac, cc, rfl⟩ := hb.shape
  have HDK := Lib.hid h
  have HB := Lib.hid hb
  have HBR := Lib.hid hB
  have HB3 := Lib.hid hB3
  have HR3 := hid (fun k (h : R k) (h3 : R3 k) => hs k h3 h)
  have HD := Lib.hid hd
  clear h hb hB hB3 hs hd
  go_enter Try.func23, Try.ntmps23
  go_upto_region 1 with (fail)
  have HM0 := hid (Mod.refl (fun k => (R k)) w)
  go_upto_region 1 with (fail)
  refine wp_region_U 27 [5, 6] [0, 1] (fun a0 HA0 => ?_)
  have oe0 := ev HA0 0 rfl
  refine QSeq.pure rfl _ (fun E => ex_move rfl (E.v oe0)) ?_
  refine QSeq.call rfl rfl Try.func42 (stopped_E HDK.out HD.out) (fun E => args1 (E.d 0 0)) ?_
  rintro e u1_1 ⟨rfl, qdk, hm⟩
  refine ⟨_, rfl, ?_⟩
  have Hx1 := hid qdk
  have zu1_1 := hm.size
  have Cx2 := hid (show Mod (fun k => (R k)) w u1_1 from hm)
  clear hm
  clear qdk HDK
  refine QSeq.nil (t' := [_, _]) rfl ?_
  obtain rfl := HA0.out
  clear HA0 oe0
  simp only [pz, Act.put, List.setIfInBounds_toArray, List.set_cons_zero, List.set_cons_succ]
  have hq := Hx1.out
  have hsb : (dStep s).b = s.b := rfl
  obtain ⟨t, ht⟩ : ∃ t, t = dStep s := ⟨_, rfl⟩
  rw [← ht] at hq hsb
  have HTT := Lib.hid ht
  clear ht
  clear Hx1
  obtain ⟨Q, aob, capb, fb, hk⟩ := RkR.open hq
  have HK := Lib.hid hk
  have HRD := hid hk.kc
  have hpl := hk.kc.lt
  have hlN : t.b.length ≤ N := hk.ko.2.2
  have HRB := hid (hk.ko.widen (M := 900000) (fun _ h => h) (by omega))
  have HBQ := hid (fun k (h : Q k) => HBR.out k (hk.kq k h).1)
  have HXQ := hid (fun (h : Q p) => (hk.kq p h).2 rfl)
  have HX3 := hid (fun (h : R3 p) => HR3.out p hk.kp h)
  have HQ3 := hid (fun k (h : Q k) (h3 : R3 k) => HR3.out k (hk.kq k h).1 h3)
  clear hq
  have hcapb := hk.kl
  have hsyb := hk.ks
  clear hk
  have hq := OwR_cut3 HRB.out t.b.length (Nat.le_refl _)
  rw [List.take_length] at hq
  have HRC := Lib.hid hq
  clear hq
  go_upto_region 3 with (fail)
  generalize ha0 : Act.mk _ _ = a0
  have oe0 : a0.eval (.tmp 0) = .pointer (some ⟨p, 0, none⟩) := by rw [← ha0]; rfl
  have oe1 : a0.eval (.tmp 1) = .slice ac cs.length cc := by rw [← ha0]; rfl
  have hsz0 : a0.tmps.size = 27 := by rw [← ha0]; rfl
  have HA0 := hid ha0
  clear ha0
  refine wp_region_Q1 27 hsz0 [7, 8, 9, 10, 11, 12, 13, 14, 15, 16, 17, 18, 19, 20, 21, 22, 23, 24, 25, 26, 47] (fun k => (Q k) ∨ (k = p)) (fun k j => (k = 0 ∧ ((Q j))) ∨ (k = 1 ∧ ((j = p)))) (by intro k j h; (try dsimp only at h ⊢); rcases h with ⟨-, h⟩ | ⟨-, h⟩; (exact Or.inl (h)); (exact Or.inr (h))) [qi (.pointer (some ⟨p, 0, none⟩)), qi (.pointer (some ⟨p, 0, none⟩)), qi (.pointer (some ⟨p, 0, none⟩)), qi (.pointer (some ⟨p, 0, none⟩)), qi (.slice aob t.b.length capb), qi (.pointer (some ⟨p, 0, none⟩)), qi (.pointer (some ⟨p, 0, none⟩)), qi (.pointer (some ⟨p, 0, none⟩)), qi (.slice aob t.b.length capb), qi (.int .i64 t.b.length), qi (.pointer (some ⟨p, 0, none⟩)), qi (.pointer (some ⟨p, 0, none⟩)), qi (.pointer (some ⟨p, 0, none⟩)), qi (.slice aob t.b.length capb), qi (.int .i64 t.b.length), qi (.slice aob t.b.length t.b.length), qi (.slice ac cs.length cc), qv 0, qi (.pointer (some ⟨p, 0, none⟩)), qi (.pointer (some ⟨p, 0, none⟩)), qv 1] ⟨qi_stable, qi_stable, qi_stable, qi_stable, qi_stable, qi_stable, qi_stable, qi_stable, qi_stable, qi_stable, qi_stable, qi_stable, qi_stable, qi_stable, qi_stable, qi_stable, qi_stable, qv_stable, qi_stable, qi_stable, qv_stable, trivial⟩ [17, 20] ⟨?_, ?_, ?_, ?_, ?_, ?_, ?_, ?_, ?_, ?_, ?_, ?_, ?_, ?_, ?_, ?_, ?_, ?_, ?_, ?_, ?_, trivial⟩ ?_
  · exact stq (fun E => ex_move rfl (E.v oe0))
  · exact stq (fun E => ex_move rfl (E.v oe0))
  · exact stq (fun E => ex_nil rfl (E.d 1))
  · exact stq (fun E => ex_field rfl Try.underlying47 rfl (by kernel_rfl) (E.d 2))
  · refine stepq_env rfl rfl rfl fun _ _ _ _ _ _ hm0 _ _ hd hub _ => ?_
    have h3 := hd ⟨3, .data⟩ (by simp) rfl _ rfl
    refine qe_run rfl (wanted_none rfl) (ex_load1 rfl Try.underlying22 rfl h3 (Cs.lit1 (HRD.out.mod hm0 (by intro h2; have hu := hub 1 20 rfl (by kernel_rfl); rcases h2 with ⟨h0, kk, hk, h2⟩ | h2 <;> first | omega | (rcases h2 with ⟨hkk, h2⟩ | ⟨hkk, h2⟩ <;> first | omega | (have hb := HBQ.out _ h2; omega) | exact HXQ.out h2 | exact HX3.out h2))) rfl)) QE.refl ?_
    rfl
  · exact stq (fun E => ex_move rfl (E.v oe0))
  · exact stq (fun E => ex_nil rfl (E.d 5))
  · exact stq (fun E => ex_field rfl Try.underlying47 rfl (by kernel_rfl) (E.d 6))
  · refine stepq_env rfl rfl rfl fun _ _ _ _ _ _ hm0 _ _ hd hub _ => ?_
    have h7 := hd ⟨7, .data⟩ (by simp) rfl _ rfl
    refine qe_run rfl (wanted_none rfl) (ex_load1 rfl Try.underlying22 rfl h7 (Cs.lit1 (HRD.out.mod hm0 (by intro h2; have hu := hub 1 20 rfl (by kernel_rfl); rcases h2 with ⟨h0, kk, hk, h2⟩ | h2 <;> first | omega | (rcases h2 with ⟨hkk, h2⟩ | ⟨hkk, h2⟩ <;> first | omega | (have hb := HBQ.out _ h2; omega) | exact HXQ.out h2 | exact HX3.out h2))) rfl)) QE.refl ?_
    rfl
  · exact stq (fun E => ex_lenS rfl (E.d 8) Try.underlying22)
  · exact stq (fun E => ex_move rfl (E.v oe0))
  · exact stq (fun E => ex_nil rfl (E.d 10))
  · exact stq (fun E => ex_field rfl Try.underlying47 rfl (by kernel_rfl) (E.d 11))
  · refine stepq_env rfl rfl rfl fun _ _ _ _ _ _ hm0 _ _ hd hub _ => ?_
    have h12 := hd ⟨12, .data⟩ (by simp) rfl _ rfl
    refine qe_run rfl (wanted_none rfl) (ex_load1 rfl Try.underlying22 rfl h12 (Cs.lit1 (HRD.out.mod hm0 (by intro h2; have hu := hub 1 20 rfl (by kernel_rfl); rcases h2 with ⟨h0, kk, hk, h2⟩ | h2 <;> first | omega | (rcases h2 with ⟨hkk, h2⟩ | ⟨hkk, h2⟩ <;> first | omega | (have hb := HBQ.out _ h2; omega) | exact HXQ.out h2 | exact HX3.out h2))) rfl)) QE.refl ?_
    rfl
  · exact stq (fun E => ex_lenS rfl (E.d 13) Try.underlying22)
  · exact stq (fun E => ex_sliceTo3 (i := t.b.length) (m := t.b.length) (s := 1) rfl Try.underlying22 (by kernel_rfl) (E.d 4) (E.d 9) (E.d 14) (by omega) (by omega))
  · exact stq (fun E => ex_move rfl (E.v oe1))
  · exact stepq_chain rfl
  · exact stq (fun E => ex_nil rfl (E.d 0))
  · exact stq (fun E => ex_field rfl Try.underlying47 rfl (by kernel_rfl) (E.d 18))
  · exact stepq_chain rfl
  intro u3_0 hr
  have zu3_0 := hr.size
  have Cx3 := hid (hr.new (S := (fun k => (Q k) ∨ (k = p))))
  have Hx4 := hid (HRD.out.mod hr (by intro h2; omega))
  clear HRD
  have Hx5 := hid (HRC.out.mod hr (by intro k h1 h2; have hb := HBQ.out k h1; omega))
  clear HRC
  clear hr
  refine QChain.go fun Z act E => ?_
  refine qc_appR rfl (wanted_none rfl) rfl (E.d 15) (E.d 16) Hx5.out ((HB.out.mod Cx2.out (by intro k h1 h2; first | omega | (have hb := HB3.out k h1; omega) | (have hb := HBR.out k h2; omega) | exact HR3.out k h1 h2 | exact HR3.out k h2 h1 | exact HQ3.out k h1 h2 | exact HQ3.out k h2 h1 | (have hb := HB3.out k h1; have hb2 := HBR.out k h2; omega) | exact HXQ.out (h2 ▸ h1) | exact HXQ.out (h1 ▸ h2) | exact HX3.out (h2 ▸ h1) | exact HX3.out (h1 ▸ h2))).mod Cx3.out (by intro k h1 h2; rcases h2 with h2 | h2 <;> first | omega | (have hb := HB3.out k h1; omega) | (have hb := HBQ.out k h2; omega) | exact HR3.out k h1 h2 | exact HR3.out k h2 h1 | exact HQ3.out k h1 h2 | exact HQ3.out k h2 h1 | (have hb := HB3.out k h1; have hb2 := HBQ.out k h2; omega) | exact HXQ.out (h2 ▸ h1) | exact HXQ.out (h1 ▸ h2) | exact HX3.out (h2 ▸ h1) | exact HX3.out (h1 ▸ h2))) (by rw [List.length_append]; have := HB.out.2.2; omega) ?_
  intro ao2 cap2 u3_1a qrb hm
  have zu3_1a := hm.size
  refine ⟨hm.mono (by intro k hk h; first | omega | exact Or.inl ⟨(by have hb := HBQ.out k h; omega), Or.inl ⟨rfl, h⟩⟩), (fun _ => rfl), ?_⟩
  intro u3_1 hr
  have zu3_1 := hr.size
  have Hx6 := hid ((qrb.widen (R' := (fun k => (Q k) ∨ (New u3_0 u3_1a k))) (fun _ h => h) (Nat.le_refl _)).mod hr (by intro k h1 h2; rcases h1 with h1 | h1 <;> first | omega | (have hb := HBQ.out k h1; omega) | exact HXQ.out (h2 ▸ h1) | exact HXQ.out (h1 ▸ h2) | exact HX3.out (h2 ▸ h1) | exact HX3.out (h1 ▸ h2)))
  have hmr := hm.two hr
  have Hx7 := hid (Hx4.out.mod hmr (by intro h2; rcases h2 with h2 | h2 <;> first | omega | (have hb := HBQ.out _ h2; omega) | exact HXQ.out h2 | exact HX3.out h2))
  clear Hx4
  clear hmr
  have Cx8 := hid (Cx3.out.goM hm hr (by intro k h0 h2; first | omega | exact Or.inl h2 | exact Or.inr (h2)))
  clear Cx3 hm hr Z act E qrb Hx5
  refine QChain.go fun Z act E => ?_
  refine qc_store rfl (wanted_none rfl) rfl Hx7.out (off := 0) (vs := [Value.slice ao2 (t.b.length + cs.length) cap2]) (by kernel_rfl) one1 (by simp) (E.d 19) (ec (chv (v := .slice ao2 (t.b.length + cs.length) cap2) (E.d 17))) ?_
  intro u3_2a qc0 hm
  have qrd := qc0.eqv (b := #[Value.slice ao2 (t.b.length + cs.length) cap2, .int .i64 (t.sy : Nat), .bool t.dead, .bool t.lit, .int .i64 fb]) rfl
  clear qc0
  have zu3_2a := hm.size
  refine ⟨hm.mono (by intro k hk h; omega), (fun _ => rfl), ?_⟩
  intro u3_2 hr
  have zu3_2 := hr.size
  have Hx9 := hid (qrd.mod hr (by intro h2; omega))
  have hmr := hm.two hr
  have Hx10 := hid (Hx6.out.mod hmr (by intro k h1 h2; rcases h1 with h1 | h1 <;> rcases h2 with h2 | h2 <;> first | omega | (have hb := HBQ.out k h1; omega) | exact HXQ.out (h2 ▸ h1) | exact HXQ.out (h1 ▸ h2) | exact HX3.out (h2 ▸ h1) | exact HX3.out (h1 ▸ h2)))
  clear Hx6
  clear hmr
  have Cx11 := hid (Cx8.out.goM hm hr (by intro k h0 h2; first | omega | exact Or.inl h2 | exact Or.inr (h2)))
  clear Cx8 hm hr Z act E qrd Hx7
  refine QChain.nil fun vs hl hzz hrows hne => ?_
  obtain ⟨Z, hYZ, hZb, hV⟩ := hzz
  have f0 := fvi hV hl 0
  have f1 := fvi hV hl 1
  have f5 := fvi hV hl 5
  have f9 := fvi hV hl 9
  have f10 := fvi hV hl 10
  have f14 := fvi hV hl 14
  have f16 := fvi hV hl 16
  have f17 := fvc hV hl 17
  rw [show vs = [gw vs 0, gw vs 1, gw vs 2, gw vs 3, gw vs 4, gw vs 5, gw vs 6, gw vs 7, gw vs 8, gw vs 9, gw vs 10, gw vs 11, gw vs 12, gw vs 13, gw vs 14, gw vs 15, gw vs 16, gw vs 17, gw vs 18, gw vs 19, gw vs 20] from (gw_eta hl).trans rfl]
  have ha0 := HA0.out
  subst ha0
  clear HA0 hV hYZ hZb hsz0 hrows hne oe0 oe1
  simp only [putAll, Act.put, List.setIfInBounds_toArray, List.set_cons_zero, List.set_cons_succ, List.set_nil, f0, f1, f5, f9, f10, f14, f16, f17]
  clear hl f0 f1 f5 f9 f10 f14 f16 f17
  go_upto_region 4 with (fail)
  refine wp_region_U 27 [4] [0] (fun a0 HA0 => ?_)
  refine QSeq.pure rfl (.int .i64 0) (fun E => ex_assign rfl rfl) ?_
  refine QSeq.nil (t' := [_]) rfl ?_
  obtain rfl := HA0.out
  clear HA0
  simp only [pz, Act.put, List.setIfInBounds_toArray, List.set_cons_zero, List.set_cons_succ]
  go_wp2
  go_ret
  refine ⟨rfl, RkO.shut (s' := dAppend s cs) HK.out (by rw [HA.out, ← HTT.out]; exact Hx9.out) (by rw [HA.out]; show OwR _ _ _ _ (s.b ++ cs); rw [← hsb]; exact Hx10.out) (by rw [HA.out, ← hsb]; have h9 := HB.out.2.2; show (t.b ++ cs).length ≤ _; rw [List.length_append]; omega) (by intro k h1; rcases h1 with h1 | h1 <;> first | exact ⟨Or.inl (HK.out.kq k h1).1, (HK.out.kq k h1).2⟩ | exact ⟨Or.inr (by omega), by omega⟩) (Or.inl HK.out.kp) (by rw [HA.out, ← HTT.out, ← hsb]; show t.sy ≤ (t.b ++ cs).length; rw [List.length_append]; have := HK.out.ks; omega) (by rw [HA.out, ← HTT.out]; exact HK.out.kf) HK.out.kg, ((HM0.out.trans Cx2.out (fun _ _ h => h)).trans Cx11.out (by intro k h1 h2; rcases h2 with h2 | h2 <;> first | exact h2 | omega | (have hb := HBQ.out k h2; omega) | exact (HK.out.kq k h2).1 | exact (h2 ▸ HK.out.kp)))⟩
set_option maxHeartbeats 4000000 in
theorem RSync_A {R : Nat → Prop} {N p : Nat} {s : DS} {w : World} (h : RkR R N w p s) (hB : ∀ k, R k → k < w.heap.size) (hd : (dStep s).dead = true) (hN : N ≤ 900000) :
    Calls Try.prog 45 #[.pointer (some ⟨p, 0, none⟩)] w fun e w' => e = .returned (.int .i64 9) ∧ RkR R N w' p (dStep s) ∧ Mod R w w' := by
  have HDK := Lib.hid h
  have HBR := Lib.hid hB
  have HD := Lib.hid hd
  clear h hB hd
  go_enter Try.func45, Try.ntmps45
  go_upto_region 1 with (fail)
  have HM0 := hid (Mod.refl (fun k => (R k)) w)
  go_upto_region 1 with (fail)
  refine wp_region_U 13 [3, 4] [0, 1] (fun a0 HA0 => ?_)
  have oe0 := ev HA0 0 rfl
  refine QSeq.pure rfl _ (fun E => ex_move rfl (E.v oe0)) ?_
  refine QSeq.call rfl rfl Try.func42 (stopped_E HDK.out HD.out) (fun E => args1 (E.d 0 0)) ?_
  rintro e u1_1 ⟨rfl, qdk, hm⟩
  refine ⟨_, rfl, ?_⟩
  have Hx1 := hid qdk
  have zu1_1 := hm.size
  have Cx2 := hid (show Mod (fun k => (R k)) w u1_1 from hm)
  clear hm
  clear qdk HDK
  refine QSeq.nil (t' := [_, _]) rfl ?_
  obtain rfl := HA0.out
  clear HA0 oe0
  simp only [pz, Act.put, List.setIfInBounds_toArray, List.set_cons_zero, List.set_cons_succ]
  go_upto_region 2 with (fail)
  refine wp_region_U 13 [2] [0] (fun a0 HA0 => ?_)
  refine QSeq.pure rfl (.int .i64 9) (fun E => ex_assign rfl rfl) ?_
  refine QSeq.nil (t' := [_]) rfl ?_
  obtain rfl := HA0.out
  clear HA0
  simp only [pz, Act.put, List.setIfInBounds_toArray, List.set_cons_zero, List.set_cons_succ]
  go_wp2
  go_ret
  exact ⟨rfl, Hx1.out, (HM0.out.trans Cx2.out (fun _ _ h => h))⟩
set_option maxHeartbeats 4000000 in
theorem RSync_C {R : Nat → Prop} {N p : Nat} {s : DS} {w : World} (h : RkR R N w p s) (hB : ∀ k, R k → k < w.heap.size) (hd : (dStep s).dead = false) (hN : N ≤ 900000) :
    Calls Try.prog 45 #[.pointer (some ⟨p, 0, none⟩)] w fun e w' => e = .returned (.int .i64 0) ∧ RkR R N w' p (dSync s) ∧ Mod R w w' := by
  have HDK := Lib.hid h
  have HBR := Lib.hid hB
  have HD := Lib.hid hd
  clear h hB hd
  go_enter Try.func45, Try.ntmps45
  go_upto_region 1 with (fail)
  have HM0 := hid (Mod.refl (fun k => (R k)) w)
  go_upto_region 1 with (fail)
  refine wp_region_U 13 [3, 4] [0, 1] (fun a0 HA0 => ?_)
  have oe0 := ev HA0 0 rfl
  refine QSeq.pure rfl _ (fun E => ex_move rfl (E.v oe0)) ?_
  refine QSeq.call rfl rfl Try.func42 (stopped_E HDK.out HD.out) (fun E => args1 (E.d 0 0)) ?_
  rintro e u1_1 ⟨rfl, qdk, hm⟩
  refine ⟨_, rfl, ?_⟩
  have Hx1 := hid qdk
  have zu1_1 := hm.size
  have Cx2 := hid (show Mod (fun k => (R k)) w u1_1 from hm)
  clear hm
  clear qdk HDK
  refine QSeq.nil (t' := [_, _]) rfl ?_
  obtain rfl := HA0.out
  clear HA0 oe0
  simp only [pz, Act.put, List.setIfInBounds_toArray, List.set_cons_zero, List.set_cons_succ]
  have hq := Hx1.out
  obtain ⟨t, ht⟩ : ∃ t, t = dStep s := ⟨_, rfl⟩
  rw [← ht] at hq
  have HTT := Lib.hid ht
  have HA := hid (show dSync s = { t with sy := t.b.length } by rw [ht]; unfold dSync; rw [if_neg (by rw [HD.out]; decide)]; rfl)
  clear ht
  clear Hx1
  obtain ⟨Q, aob, capb, fb, hk⟩ := RkR.open hq
  have HK := Lib.hid hk
  have HRD := hid hk.kc
  have hpl := hk.kc.lt
  have hlN : t.b.length ≤ N := hk.ko.2.2
  have HRB := hid (hk.ko.widen (M := 900000) (fun _ h => h) (by omega))
  have HBQ := hid (fun k (h : Q k) => HBR.out k (hk.kq k h).1)
  have HXQ := hid (fun (h : Q p) => (hk.kq p h).2 rfl)
  clear hq
  have hcapb := hk.kl
  have hsyb := hk.ks
  clear hk
  go_upto_region 3 with (fail)
  refine wp_region_U 13 [5, 6, 7, 8, 9, 10, 11, 12, 21] [0, 1, 2, 3, 4, 5, 6, 7, 8] (fun a0 HA0 => ?_)
  have oe0 := ev HA0 0 rfl
  refine QSeq.pure rfl _ (fun E => ex_move rfl (E.v oe0)) ?_
  refine QSeq.pure rfl _ (fun E => ex_move rfl (E.v oe0)) ?_
  refine QSeq.pure rfl (.pointer (some ⟨p, 0, none⟩)) (fun E => ex_nil rfl (E.d 1 0)) ?_
  refine QSeq.pure rfl (.pointer (some ⟨p, 0, none⟩)) (fun E => ex_field rfl Try.underlying47 rfl (by kernel_rfl) (E.d 2 0)) ?_
  refine QSeq.pure rfl _ (fun E => ex_load1 rfl Try.underlying22 rfl (E.d 3 0) (Cs.lit1 HRD.out rfl)) ?_
  refine QSeq.pure rfl (.int .i64 t.b.length) (fun E => ex_lenS rfl (E.d 4 0) Try.underlying22) ?_
  refine QSeq.pure rfl (.pointer (some ⟨p, 0, none⟩)) (fun E => ex_nil rfl (E.d 0 5)) ?_
  refine QSeq.pure rfl (.pointer (some ⟨p, 1, none⟩)) (fun E => ex_field rfl Try.underlying47 rfl (by kernel_rfl) (E.d 6 0)) ?_
  refine QSeq.go fun act E => ?_
  refine qc_store rfl (wanted_none rfl) rfl HRD.out (off := 1) (vs := [Value.int .i64 t.b.length]) (by kernel_rfl) one1 (by simp) (E.d 7 0) (ec (E.d 5 2)) ?_
  intro u3_8 qc0 hm
  have qrd := qc0.eqv (b := #[.slice aob t.b.length capb, Value.int .i64 t.b.length, .bool t.dead, .bool t.lit, .int .i64 fb]) rfl
  clear qc0
  have Hx3 := hid qrd
  have zu3_8 := hm.size
  have Cx4 := hid (show Mod (fun k => (k = p)) u1_1 u3_8 from hm)
  clear hm
  clear act E qrd HRD
  refine QSeq.nil (t' := [_, _, _, _, _, _, _, _, _]) rfl ?_
  obtain rfl := HA0.out
  clear HA0 oe0
  simp only [pz, Act.put, List.setIfInBounds_toArray, List.set_cons_zero, List.set_cons_succ, List.set_nil]
  go_upto_region 4 with (fail)
  refine wp_region_U 13 [2] [0] (fun a0 HA0 => ?_)
  refine QSeq.pure rfl (.int .i64 0) (fun E => ex_assign rfl rfl) ?_
  refine QSeq.nil (t' := [_]) rfl ?_
  obtain rfl := HA0.out
  clear HA0
  simp only [pz, Act.put, List.setIfInBounds_toArray, List.set_cons_zero, List.set_cons_succ]
  go_wp2
  go_ret
  rw [HA.out]
  exact ⟨rfl, RkO.shut (s' := { t with sy := t.b.length }) HK.out Hx3.out (HRB.out.mod Cx4.out (by intro k h1 h2; first | omega | (have hb := HBQ.out k h1; omega) | exact HXQ.out (h2 ▸ h1) | exact HXQ.out (h1 ▸ h2))) hlN HK.out.kq HK.out.kp (Nat.le_refl _) HK.out.kf HK.out.kg, ((HM0.out.trans Cx2.out (fun _ _ h => h)).trans Cx4.out (by intro k h1 h2; first | exact h2 | omega | exact (HK.out.kq k h2).1 | exact (h2 ▸ HK.out.kp)))⟩
theorem stopped_U {p : Nat} {v : Value} {a f : Int} {w : World} (hc : Cs w p #[v, .int .i64 a, .bool false, .bool false, .int .i64 f] 47) :
    Calls Try.prog 42 #[.pointer (some ⟨p, 0, none⟩)] w fun e w' => e = .returned (.bool false) ∧ w = w' := by
  have c2 : w.cell? ⟨p, 2, none⟩ = some (.bool false) := (hc.cell 2).trans rfl
  have c3 : w.cell? ⟨p, 3, none⟩ = some (.bool false) := (hc.cell 3).trans rfl
  have c4 : w.cell? ⟨p, 4, none⟩ = some (.int .i64 f) := (hc.cell 4).trans rfl
  clear hc
  go_enter Try.func42, Try.ntmps42
  go_wp2
  go_ret
  exact ⟨rfl, rfl⟩
set_option maxHeartbeats 4000000 in
theorem RCut_Q {R : Nat → Prop} {N p n sy : Nat} {b : List Int} {w : World} (h : RkR R N w p ⟨b, sy, 0, false, false⟩) (hB : ∀ k, R k → k < w.heap.size) (hn : n ≤ b.length) (hN : N ≤ 900000) :
    Calls Try.prog 44 #[.pointer (some ⟨p, 0, none⟩), .int .i64 (n : Nat)] w fun e w' => e = .returned (.int .i64 0) ∧ RkR R N w' p ⟨b.take n, min sy n, 0, false, false⟩ ∧ Mod R w w' := by
  have HBR := Lib.hid hB
  have hq := h
  clear h hB
  obtain ⟨t, ht⟩ : ∃ t : DS, t = ⟨b, sy, 0, false, false⟩ := ⟨_, rfl⟩
  rw [← ht] at hq
  have htb : t.b = b := by rw [ht]
  have hts : t.sy = sy := by rw [ht]
  have hnt : n ≤ t.b.length := by rw [htb]; exact hn
  obtain ⟨Q, aob, capb, fb, hk⟩ := RkR.open hq
  have HK := Lib.hid hk
  have HRD := hid hk.kc
  have hpl := hk.kc.lt
  have hlN : t.b.length ≤ N := hk.ko.2.2
  have HRB := hid (hk.ko.widen (M := 900000) (fun _ h => h) (by omega))
  have HBQ := hid (fun k (h : Q k) => HBR.out k (hk.kq k h).1)
  have HXQ := hid (fun (h : Q p) => (hk.kq p h).2 rfl)
  clear hq
  have hcapb := hk.kl
  have hsyb := hk.ks
  clear hk
  have hq := HRD.out
  rw [show t.dead = false by rw [ht], show t.lit = false by rw [ht]] at hq
  have HRD2 := Lib.hid hq
  clear hq
  go_enter Try.func44, Try.ntmps44
  go_upto_region 1 with (fail)
  have HM0 := hid (Mod.refl (fun k => (R k)) w)
  go_upto_region 1 with (fail)
  refine wp_region_U 57 [5, 6, 7, 8, 9, 10, 11, 12, 13, 14, 15, 16, 17, 18, 19, 20, 21] [0, 1, 2, 3, 4, 5, 6, 7, 8, 9, 10, 11, 12, 13, 14, 15, 16] (fun a0 HA0 => ?_)
  have oe0 := ev HA0 0 rfl
  refine QSeq.pure rfl _ (fun E => ex_move rfl (E.v oe0)) ?_
  refine QSeq.pure rfl (.pointer (some ⟨p, 0, none⟩)) (fun E => ex_nil rfl (E.d 0 0)) ?_
  refine QSeq.pure rfl (.pointer (some ⟨p, 2, none⟩)) (fun E => ex_field rfl Try.underlying47 rfl (by kernel_rfl) (E.d 1 0)) ?_
  refine QSeq.pure rfl _ (fun E => ex_load1 rfl Try.underlying4 rfl (E.d 2 0) (Cs.lit1 HRD2.out rfl)) ?_
  refine QSeq.pure rfl _ (fun E => ex_move rfl (E.d 3 0)) ?_
  refine QSeq.pureG rfl (.pointer (some ⟨p, 0, none⟩)) (fun E => ((wanted_of rfl rfl (E.sz 9 (by decide)) (E.d 4 0)).trans rfl)) (fun E => ex_move rfl (E.v oe0)) ?_
  refine QSeq.pureG rfl (.pointer (some ⟨p, 0, none⟩)) (fun E => ((wanted_of rfl rfl (E.sz 9 (by decide)) (E.d 4 1)).trans rfl)) (fun E => ex_nil rfl (E.d 5 0)) ?_
  refine QSeq.pureG rfl (.pointer (some ⟨p, 3, none⟩)) (fun E => ((wanted_of rfl rfl (E.sz 9 (by decide)) (E.d 4 2)).trans rfl)) (fun E => ex_field rfl Try.underlying47 rfl (by kernel_rfl) (E.d 6 0)) ?_
  refine QSeq.pureG rfl (.bool false) (fun E => ((wanted_of rfl rfl (E.sz 9 (by decide)) (E.d 4 3)).trans rfl)) (fun E => ex_load1 rfl Try.underlying4 rfl (E.d 7 0) (Cs.lit1 HRD2.out rfl)) ?_
  refine QSeq.pureG rfl (.bool false) (fun E => ((wanted_of rfl rfl (E.sz 9 (by decide)) (E.d 4 4)).trans rfl)) (fun E => ex_move rfl (E.d 8 0)) ?_
  refine QSeq.skip rfl (fun E => ((wanted_of rfl rfl (E.sz 14 (by decide)) (E.d 9 0)).trans rfl)) ?_
  refine QSeq.skip rfl (fun E => ((wanted_of rfl rfl (E.sz 14 (by decide)) (E.d 9 1)).trans rfl)) ?_
  refine QSeq.skip rfl (fun E => ((wanted_of rfl rfl (E.sz 14 (by decide)) (E.d 9 2)).trans rfl)) ?_
  refine QSeq.skip rfl (fun E => ((wanted_of rfl rfl (E.sz 14 (by decide)) (E.d 9 3)).trans rfl)) ?_
  refine QSeq.skip rfl (fun E => ((wanted_of rfl rfl (E.sz 14 (by decide)) (E.d 9 4)).trans rfl)) ?_
  refine QSeq.pureG rfl (.bool false) (fun E => ((wanted_of rfl rfl (E.sz 9 (by decide)) (E.d 4 10)).trans rfl)) (fun E => ex_pick rfl (E.d 9 5) (E.d 14 0) rfl) ?_
  refine QSeq.pure rfl (.bool false) (fun E => ex_pick rfl (E.d 4 11) rfl (E.d 15 0)) ?_
  refine QSeq.nil (t' := [_, _, _, _, _, _, _, _, _, _, _, _, _, _, _, _, _]) rfl ?_
  obtain rfl := HA0.out
  clear HA0 oe0
  simp only [pz, Act.put, List.setIfInBounds_toArray, List.set_cons_zero, List.set_cons_succ]
  go_upto_region 4 with (fail)
  refine wp_region_U 57 [25, 26, 27, 28, 29, 30, 31, 32, 33, 34, 35] [0, 1, 2, 3, 4, 5, 6, 7, 8, 9, 10] (fun a0 HA0 => ?_)
  have oe0 := ev HA0 0 rfl
  have oe1 := ev HA0 1 rfl
  refine QSeq.pure rfl _ (fun E => ex_move rfl (E.v oe1)) ?_
  refine QSeq.pure rfl (.bool false) (fun E => ex_binE rfl (E.d 0 0) rfl (guard_ints _ _ _ _ _ _) (run_lss_i _ _ _ Try.underlying3) (congrArg Value.bool (decide_eq_false (by omega)))) ?_
  refine QSeq.pure rfl _ (fun E => ex_move rfl (E.d 1 0)) ?_
  refine QSeq.pureG rfl (.int .i64 ((n : Nat) : Int)) (fun E => ((wanted_of rfl rfl (E.sz 27 (by decide)) (E.d 2 0)).trans rfl)) (fun E => ex_move rfl (E.v oe1)) ?_
  refine QSeq.pureG rfl (.pointer (some ⟨p, 0, none⟩)) (fun E => ((wanted_of rfl rfl (E.sz 27 (by decide)) (E.d 2 1)).trans rfl)) (fun E => ex_move rfl (E.v oe0)) ?_
  refine QSeq.pureG rfl (.pointer (some ⟨p, 0, none⟩)) (fun E => ((wanted_of rfl rfl (E.sz 27 (by decide)) (E.d 2 2)).trans rfl)) (fun E => ex_nil rfl (E.d 4 0)) ?_
  refine QSeq.pureG rfl (.pointer (some ⟨p, 0, none⟩)) (fun E => ((wanted_of rfl rfl (E.sz 27 (by decide)) (E.d 2 3)).trans rfl)) (fun E => ex_field rfl Try.underlying47 rfl (by kernel_rfl) (E.d 5 0)) ?_
  refine QSeq.pureG rfl (.slice aob t.b.length capb) (fun E => ((wanted_of rfl rfl (E.sz 27 (by decide)) (E.d 2 4)).trans rfl)) (fun E => ex_load1 rfl Try.underlying22 rfl (E.d 6 0) (Cs.lit1 HRD2.out rfl)) ?_
  refine QSeq.pureG rfl (.int .i64 t.b.length) (fun E => ((wanted_of rfl rfl (E.sz 27 (by decide)) (E.d 2 5)).trans rfl)) (fun E => ex_lenS rfl (E.d 7 0) Try.underlying22) ?_
  refine QSeq.pureG rfl (.bool false) (fun E => ((wanted_of rfl rfl (E.sz 27 (by decide)) (E.d 2 6)).trans rfl)) (fun E => ex_binE rfl (E.d 3 5) (E.d 8 0) (guard_ints _ _ _ _ _ _) (run_gtr_i _ _ _ Try.underlying3) (congrArg Value.bool (decide_eq_false (by omega)))) ?_
  refine QSeq.pure rfl (.bool false) (fun E => ex_pick rfl (E.d 2 7) rfl (E.d 9 0)) ?_
  refine QSeq.nil (t' := [_, _, _, _, _, _, _, _, _, _, _]) rfl ?_
  obtain rfl := HA0.out
  clear HA0 oe0 oe1
  simp only [pz, Act.put, List.setIfInBounds_toArray, List.set_cons_zero, List.set_cons_succ]
  go_upto_region 6 with (fail)
  refine wp_region_U 57 [36, 37] [0, 1] (fun a0 HA0 => ?_)
  have oe0 := ev HA0 0 rfl
  refine QSeq.pure rfl _ (fun E => ex_move rfl (E.v oe0)) ?_
  refine QSeq.go fun act E => ?_
  refine qc_callF (args := #[.pointer (some ⟨p, 0, none⟩)]) rfl (wanted_none rfl) rfl Try.func42 (args1 (E.d 0 0)) (stopped_U HRD2.out) ?_
  rintro e w2 ⟨rfl, hw2⟩
  obtain rfl : w = w2 := by first | exact hw2 | exact hw2.symm
  refine ⟨_, rfl, ?_⟩
  clear act E
  refine QSeq.nil (t' := [_, _]) rfl ?_
  obtain rfl := HA0.out
  clear HA0 oe0
  simp only [pz, Act.put, List.setIfInBounds_toArray, List.set_cons_zero, List.set_cons_succ]
  go_upto_region 7 with (fail)
  refine wp_region_U 57 [38, 39, 40, 41, 42, 43, 44, 45, 46, 47, 67] [0, 1, 2, 3, 4, 5, 6, 7, 8, 9, 10] (fun a0 HA0 => ?_)
  have oe0 := ev HA0 0 rfl
  have oe1 := ev HA0 1 rfl
  refine QSeq.pure rfl _ (fun E => ex_move rfl (E.v oe0)) ?_
  refine QSeq.pure rfl _ (fun E => ex_move rfl (E.v oe0)) ?_
  refine QSeq.pure rfl (.pointer (some ⟨p, 0, none⟩)) (fun E => ex_nil rfl (E.d 1 0)) ?_
  refine QSeq.pure rfl (.pointer (some ⟨p, 0, none⟩)) (fun E => ex_field rfl Try.underlying47 rfl (by kernel_rfl) (E.d 2 0)) ?_
  refine QSeq.pure rfl _ (fun E => ex_load1 rfl Try.underlying22 rfl (E.d 3 0) (Cs.lit1 HRD2.out rfl)) ?_
  refine QSeq.pure rfl _ (fun E => ex_move rfl (E.v oe1)) ?_
  refine QSeq.pure rfl _ (fun E => ex_move rfl (E.v oe1)) ?_
  refine QSeq.pure rfl (.slice aob n n) (fun E => ex_sliceTo3 (i := n) (m := n) (s := 1) rfl Try.underlying22 (by kernel_rfl) (E.d 4 2) (E.d 5 1) (E.d 6 0) (by omega) (by omega)) ?_
  refine QSeq.pure rfl (.pointer (some ⟨p, 0, none⟩)) (fun E => ex_nil rfl (E.d 0 7)) ?_
  refine QSeq.pure rfl (.pointer (some ⟨p, 0, none⟩)) (fun E => ex_field rfl Try.underlying47 rfl (by kernel_rfl) (E.d 8 0)) ?_
  refine QSeq.go fun act E => ?_
  refine qc_store rfl (wanted_none rfl) rfl HRD2.out (off := 0) (vs := [Value.slice aob n n]) (by kernel_rfl) one1 (by simp) (E.d 9 0) (ec (E.d 7 2)) ?_
  intro u7_10 qc0 hm
  have qrd := qc0.eqv (b := #[Value.slice aob n n, .int .i64 (t.sy : Nat), .bool false, .bool false, .int .i64 fb]) rfl
  clear qc0
  have Hx1 := hid qrd
  have zu7_10 := hm.size
  have Cx2 := hid (show Mod (fun k => (k = p)) w u7_10 from hm)
  clear hm
  clear act E qrd HRD2
  refine QSeq.nil (t' := [_, _, _, _, _, _, _, _, _, _, _]) rfl ?_
  obtain rfl := HA0.out
  clear HA0 oe0 oe1
  simp only [pz, Act.put, List.setIfInBounds_toArray, List.set_cons_zero, List.set_cons_succ, List.set_nil]
  obtain ⟨m, hm⟩ : ∃ m, m = min t.sy n := ⟨_, rfl⟩
  go_upto_region 8 with (fail)
  refine wp_region_U 57 [48, 49, 50, 51, 52, 53, 54, 55, 56, 66] [0, 1, 2, 3, 4, 5, 6, 7, 8, 9] (fun a0 HA0 => ?_)
  have oe0 := ev HA0 0 rfl
  have oe1 := ev HA0 1 rfl
  refine QSeq.pure rfl _ (fun E => ex_move rfl (E.v oe0)) ?_
  refine QSeq.pure rfl _ (fun E => ex_move rfl (E.v oe0)) ?_
  refine QSeq.pure rfl (.pointer (some ⟨p, 0, none⟩)) (fun E => ex_nil rfl (E.d 1 0)) ?_
  refine QSeq.pure rfl (.pointer (some ⟨p, 1, none⟩)) (fun E => ex_field rfl Try.underlying47 rfl (by kernel_rfl) (E.d 2 0)) ?_
  refine QSeq.pure rfl _ (fun E => ex_load1 rfl Try.underlying3 rfl (E.d 3 0) (Cs.lit1 Hx1.out rfl)) ?_
  refine QSeq.pure rfl _ (fun E => ex_move rfl (E.v oe1)) ?_
  refine QSeq.pure rfl (.int .i64 ((m : Nat) : Int)) (fun E => ex_min (r := ((m : Nat) : Int)) rfl (E.d 4 1) (E.d 5 0) (by split <;> omega)) ?_
  refine QSeq.pure rfl (.pointer (some ⟨p, 0, none⟩)) (fun E => ex_nil rfl (E.d 0 6)) ?_
  refine QSeq.pure rfl (.pointer (some ⟨p, 1, none⟩)) (fun E => ex_field rfl Try.underlying47 rfl (by kernel_rfl) (E.d 7 0)) ?_
  refine QSeq.go fun act E => ?_
  refine qc_store rfl (wanted_none rfl) rfl Hx1.out (off := 1) (vs := [Value.int .i64 ((m : Nat) : Int)]) (by kernel_rfl) one1 (by simp) (E.d 8 0) (ec (E.d 6 2)) ?_
  intro u8_9 qc0 hm
  have qrd := qc0.eqv (b := #[.slice aob n n, Value.int .i64 ((m : Nat) : Int), .bool false, .bool false, .int .i64 fb]) rfl
  clear qc0
  have Hx3 := hid qrd
  have zu8_9 := hm.size
  have Cx4 := hid (show Mod (fun k => (k = p)) u7_10 u8_9 from hm)
  clear hm
  clear act E qrd Hx1
  refine QSeq.nil (t' := [_, _, _, _, _, _, _, _, _, _]) rfl ?_
  obtain rfl := HA0.out
  clear HA0 oe0 oe1
  simp only [pz, Act.put, List.setIfInBounds_toArray, List.set_cons_zero, List.set_cons_succ, List.set_nil]
  go_upto_region 9 with (fail)
  refine wp_region_U 57 [4] [0] (fun a0 HA0 => ?_)
  refine QSeq.pure rfl (.int .i64 0) (fun E => ex_assign rfl rfl) ?_
  refine QSeq.nil (t' := [_]) rfl ?_
  obtain rfl := HA0.out
  clear HA0
  simp only [pz, Act.put, List.setIfInBounds_toArray, List.set_cons_zero, List.set_cons_succ]
  go_wp2
  go_ret
  rw [← htb, ← hts, ← hm]
  exact ⟨rfl, RkO.shut (s' := ⟨t.b.take n, m, 0, false, false⟩) HK.out Hx3.out (OwR_cut3 ((HRB.out.mod Cx2.out (by intro k h1 h2; first | omega | (have hb := HBQ.out k h1; omega) | exact HXQ.out (h2 ▸ h1) | exact HXQ.out (h1 ▸ h2))).mod Cx4.out (by intro k h1 h2; first | omega | (have hb := HBQ.out k h1; omega) | exact HXQ.out (h2 ▸ h1) | exact HXQ.out (h1 ▸ h2))) n hnt) (by show (t.b.take n).length ≤ _; rw [List.length_take]; omega) HK.out.kq HK.out.kp (by show m ≤ (t.b.take n).length; rw [List.length_take]; omega) (fun h => by cases h) HK.out.kg, ((HM0.out.trans Cx2.out (by intro k h1 h2; first | exact h2 | omega | exact (HK.out.kq k h2).1 | exact (h2 ▸ HK.out.kp))).trans Cx4.out (by intro k h1 h2; first | exact h2 | omega | exact (HK.out.kq k h2).1 | exact (h2 ▸ HK.out.kp)))⟩
set_option maxHeartbeats 4000000 in
theorem RFuse_Q {R : Nat → Prop} {N p : Nat} {n : Int} {s : DS} {w : World} (h : RkR R N w p s) (hB : ∀ k, R k → k < w.heap.size) (hn : -9223372036854775808 ≤ n ∧ n ≤ 9223372036854775807) (hN : N ≤ 900000) :
    Calls Try.prog 26 #[.pointer (some ⟨p, 0, none⟩), .int .i64 n] w fun e w' => e = .returned (.tuple #[]) ∧ RkR R N w' p (dFuse s n.toNat) ∧ Mod R w w' := by
  have HBR := Lib.hid hB
  have hq := h
  clear h hB
  obtain ⟨Q, aob, capb, fb, hk⟩ := RkR.open hq
  have HK := Lib.hid hk
  have HRD := hid hk.kc
  have hpl := hk.kc.lt
  have hlN : s.b.length ≤ N := hk.ko.2.2
  have HRB := hid (hk.ko.widen (M := 900000) (fun _ h => h) (by omega))
  have HBQ := hid (fun k (h : Q k) => HBR.out k (hk.kq k h).1)
  have HXQ := hid (fun (h : Q p) => (hk.kq p h).2 rfl)
  clear hq
  have hcapb := hk.kl
  have hsyb := hk.ks
  clear hk
  obtain ⟨m, hm⟩ : ∃ m, m = n.toNat := ⟨_, rfl⟩
  go_enter Try.func26, Try.ntmps26
  go_upto_region 0 with (fail)
  have HM0 := hid (Mod.refl (fun k => (R k)) w)
  go_upto_region 0 with (fail)
  refine wp_region_U 12 [4, 5, 6, 7, 8, 9, 18, 10, 11, 21] [0, 1, 2, 3, 4, 5, 6, 7, 8, 9] (fun a0 HA0 => ?_)
  have oe0 := ev HA0 0 rfl
  have oe1 := ev HA0 1 rfl
  refine QSeq.pure rfl _ (fun E => ex_move rfl (E.v oe0)) ?_
  refine QSeq.pure rfl _ (fun E => ex_move rfl (E.v oe0)) ?_
  refine QSeq.pure rfl _ (fun E => ex_move rfl (E.v oe1)) ?_
  refine QSeq.pure rfl (.int .i64 ((m : Nat) : Int)) (fun E => ex_max (r := ((m : Nat) : Int)) rfl (E.d 2 0) rfl (by split <;> omega)) ?_
  refine QSeq.pure rfl (.pointer (some ⟨p, 0, none⟩)) (fun E => ex_nil rfl (E.d 0 3)) ?_
  refine QSeq.pure rfl (.pointer (some ⟨p, 3, none⟩)) (fun E => ex_field rfl Try.underlying47 rfl (by kernel_rfl) (E.d 4 0)) ?_
  refine QSeq.go fun act E => ?_
  refine qc_store rfl (wanted_none rfl) rfl HRD.out (off := 3) (vs := [Value.bool true]) (by kernel_rfl) one1 (by simp) (E.d 5 0) (ec rfl) ?_
  intro u0_6 qc0 hm
  have qrd := qc0.eqv (b := #[.slice aob s.b.length capb, .int .i64 (s.sy : Nat), .bool s.dead, Value.bool true, .int .i64 fb]) rfl
  clear qc0
  have Hx1 := hid qrd
  have zu0_6 := hm.size
  have Cx2 := hid (show Mod (fun k => (k = p)) w u0_6 from hm)
  clear hm
  clear act E qrd HRD
  refine QSeq.pure rfl (.pointer (some ⟨p, 0, none⟩)) (fun E => ex_nil rfl (E.d 1 5)) ?_
  refine QSeq.pure rfl (.pointer (some ⟨p, 4, none⟩)) (fun E => ex_field rfl Try.underlying47 rfl (by kernel_rfl) (E.d 7 0)) ?_
  refine QSeq.go fun act E => ?_
  refine qc_store rfl (wanted_none rfl) rfl Hx1.out (off := 4) (vs := [Value.int .i64 ((m : Nat) : Int)]) (by kernel_rfl) one1 (by simp) (E.d 8 0) (ec (E.d 3 5)) ?_
  intro u0_9 qc0 hm
  have qrd := qc0.eqv (b := #[.slice aob s.b.length capb, .int .i64 (s.sy : Nat), .bool s.dead, .bool true, Value.int .i64 ((m : Nat) : Int)]) rfl
  clear qc0
  have Hx3 := hid qrd
  have zu0_9 := hm.size
  have HMu0_9 := hid hm
  have Cx4 := hid (Mod.goS (S' := (fun k => (k = p))) Cx2.out hm (fun _ h => h) (by intro k h0 h2; exact h2))
  clear hm Cx2
  clear act E qrd Hx1
  clear HMu0_9
  refine QSeq.nil (t' := [_, _, _, _, _, _, _, _, _, _]) rfl ?_
  obtain rfl := HA0.out
  clear HA0 oe0 oe1
  simp only [pz, Act.put, List.setIfInBounds_toArray, List.set_cons_zero, List.set_cons_succ, List.set_nil]
  go_wp2
  refine bodyPost_end (results_none rfl _ _ _) rfl ?_
  exact ⟨rfl, RkO.shut (s' := dFuse s n.toNat) HK.out (by rw [show dFuse s n.toNat = ⟨s.b, s.sy, m, true, s.dead⟩ by rw [hm]; rfl]; exact Hx3.out) (HRB.out.mod Cx4.out (by intro k h1 h2; first | omega | (have hb := HBQ.out k h1; omega) | exact HXQ.out (h2 ▸ h1) | exact HXQ.out (h1 ▸ h2))) hlN HK.out.kq HK.out.kp HK.out.ks (fun _ => by rw [hm]; rfl) (by omega), (HM0.out.trans Cx4.out (by intro k h1 h2; first | exact h2 | omega | exact (HK.out.kq k h2).1 | exact (h2 ▸ HK.out.kp)))⟩
set_option maxHeartbeats 4000000 in
theorem RCrash_Q {R : Nat → Prop} {N p : Nat} {n : Int} {s : DS} {w : World} (h : RkR R N w p s) (hB : ∀ k, R k → k < w.heap.size) (hn : -9223372036854775808 ≤ n ∧ n ≤ 9223372036854775807) (hN : N ≤ 900000) :
    Calls Try.prog 27 #[.pointer (some ⟨p, 0, none⟩), .int .i64 n] w fun e w' => e = .returned (.tuple #[]) ∧ RkR R N w' p (dCrash s n.toNat) ∧ Mod R w w' := by
  have HBR := Lib.hid hB
  have hq := h
  clear h hB
  obtain ⟨Q, aob, capb, fb, hk⟩ := RkR.open hq
  have HK := Lib.hid hk
  have HRD := hid hk.kc
  have hpl := hk.kc.lt
  have hlN : s.b.length ≤ N := hk.ko.2.2
  have HRB := hid (hk.ko.widen (M := 900000) (fun _ h => h) (by omega))
  have HBQ := hid (fun k (h : Q k) => HBR.out k (hk.kq k h).1)
  have HXQ := hid (fun (h : Q p) => (hk.kq p h).2 rfl)
  clear hq
  have hcapb := hk.kl
  have hsyb := hk.ks
  clear hk
  obtain ⟨kp, hkp⟩ : ∃ m, m = n.toNat := ⟨_, rfl⟩
  obtain ⟨m, hm⟩ : ∃ m, m = s.sy + min kp (s.b.length - s.sy) := ⟨_, rfl⟩
  obtain ⟨df, hdf⟩ : ∃ m, m = s.b.length - s.sy := ⟨_, rfl⟩
  obtain ⟨mn, hmn⟩ : ∃ m, m = min kp df := ⟨_, rfl⟩
  have hml : m ≤ s.b.length := by omega
  go_enter Try.func27, Try.ntmps27
  go_upto_region 0 with (fail)
  have HM0 := hid (Mod.refl (fun k => (R k)) w)
  go_upto_region 0 with (fail)
  generalize ha0 : Act.mk _ _ = a0
  have oe0 : a0.eval (.tmp 0) = .pointer (some ⟨p, 0, none⟩) := by rw [← ha0]; rfl
  have oe1 : a0.eval (.tmp 1) = .int .i64 n := by rw [← ha0]; rfl
  have hsz0 : a0.tmps.size = 43 := by rw [← ha0]; rfl
  have HA0 := hid ha0
  clear ha0
  refine wp_region_Q0 43 hsz0 [5, 6, 7, 8, 9, 10, 11, 12, 13, 14, 15, 16, 17, 18, 19, 20, 21, 22, 4] [qi (.pointer (some ⟨p, 0, none⟩)), qi (.pointer (some ⟨p, 0, none⟩)), qi (.pointer (some ⟨p, 1, none⟩)), qi (.int .i64 ((s.sy : Nat) : Int)), qi (.int .i64 n), qi (.int .i64 ((kp : Nat) : Int)), qi (.pointer (some ⟨p, 0, none⟩)), qi (.pointer (some ⟨p, 0, none⟩)), qi (.pointer (some ⟨p, 0, none⟩)), qi (.slice aob s.b.length capb), qi (.int .i64 s.b.length), qi (.pointer (some ⟨p, 0, none⟩)), qi (.pointer (some ⟨p, 0, none⟩)), qi (.pointer (some ⟨p, 1, none⟩)), qi (.int .i64 ((s.sy : Nat) : Int)), qi (.int .i64 ((df : Nat) : Int)), qi (.int .i64 ((mn : Nat) : Int)), qi (.int .i64 ((m : Nat) : Int)), qi (.int .i64 ((m : Nat) : Int))] ⟨qi_stable, qi_stable, qi_stable, qi_stable, qi_stable, qi_stable, qi_stable, qi_stable, qi_stable, qi_stable, qi_stable, qi_stable, qi_stable, qi_stable, qi_stable, qi_stable, qi_stable, qi_stable, qi_stable, trivial⟩ [] ⟨?_, ?_, ?_, ?_, ?_, ?_, ?_, ?_, ?_, ?_, ?_, ?_, ?_, ?_, ?_, ?_, ?_, ?_, ?_, trivial⟩ ?_
  · exact stq (fun E => ex_move rfl (E.v oe0))
  · exact stq (fun E => ex_nil rfl (E.d 0))
  · exact stq (fun E => ex_field rfl Try.underlying47 rfl (by kernel_rfl) (E.d 1))
  · exact stq (fun E => ex_load1 rfl Try.underlying3 rfl (E.d 2) (Cs.lit1 (HRD.out.mod E.m.old (by intro h2; omega)) rfl))
  · exact stq (fun E => ex_move rfl (E.v oe1))
  · exact stq (fun E => ex_max (r := ((kp : Nat) : Int)) rfl (E.d 4) rfl (by split <;> omega))
  · exact stq (fun E => ex_move rfl (E.v oe0))
  · exact stq (fun E => ex_nil rfl (E.d 6))
  · exact stq (fun E => ex_field rfl Try.underlying47 rfl (by kernel_rfl) (E.d 7))
  · exact stq (fun E => ex_load1 rfl Try.underlying22 rfl (E.d 8) (Cs.lit1 (HRD.out.mod E.m.old (by intro h2; omega)) rfl))
  · exact stq (fun E => ex_lenS rfl (E.d 9) Try.underlying22)
  · exact stq (fun E => ex_move rfl (E.v oe0))
  · exact stq (fun E => ex_nil rfl (E.d 11))
  · exact stq (fun E => ex_field rfl Try.underlying47 rfl (by kernel_rfl) (E.d 12))
  · exact stq (fun E => ex_load1 rfl Try.underlying3 rfl (E.d 13) (Cs.lit1 (HRD.out.mod E.m.old (by intro h2; omega)) rfl))
  · exact stq (fun E => ex_binE rfl (E.d 10) (E.d 14) (guard_ints _ _ _ _ _ _) (run_sub_i _ _ Try.underlying3) (congrArg (Value.int .i64) (i64_eq (b := ((df : Nat) : Int)) (by omega) (by omega) (by omega))))
  · exact stq (fun E => ex_min (r := ((mn : Nat) : Int)) rfl (E.d 5) (E.d 15) (by split <;> omega))
  · exact stq (fun E => ex_binE rfl (E.d 3) (E.d 16) (guard_ints _ _ _ _ _ _) (run_add_i _ _ Try.underlying3) (congrArg (Value.int .i64) (i64_eq (b := ((m : Nat) : Int)) (by omega) (by omega) (by omega))))
  · exact stq (fun E => ex_assign rfl (E.d 17))
  intro u0_0 hr
  have zu0_0 := hr.size
  have Cx1 := hid (hr.new (S := (fun _ => False)))
  clear hr
  refine QChain.nil fun vs hl hzz hrows hne => ?_
  obtain ⟨Z, hYZ, hZb, hV⟩ := hzz
  have f0 := fvi hV hl 0
  have f4 := fvi hV hl 4
  have f5 := fvi hV hl 5
  have f6 := fvi hV hl 6
  have f10 := fvi hV hl 10
  have f11 := fvi hV hl 11
  have f16 := fvi hV hl 16
  have f18 := fvi hV hl 18
  rw [show vs = [gw vs 0, gw vs 1, gw vs 2, gw vs 3, gw vs 4, gw vs 5, gw vs 6, gw vs 7, gw vs 8, gw vs 9, gw vs 10, gw vs 11, gw vs 12, gw vs 13, gw vs 14, gw vs 15, gw vs 16, gw vs 17, gw vs 18] from (gw_eta hl).trans rfl]
  have ha0 := HA0.out
  subst ha0
  clear HA0 hV hYZ hZb hsz0 hrows hne oe0 oe1
  simp only [putAll, Act.put, List.setIfInBounds_toArray, List.set_cons_zero, List.set_cons_succ, f0, f4, f5, f6, f10, f11, f16, f18]
  clear hl f0 f4 f5 f6 f10 f11 f16 f18
  go_upto_region 1 with (fail)
  refine wp_region_U 43 [23, 24, 25, 26, 27, 28, 29, 30, 31, 32, 53] [0, 1, 2, 3, 4, 5, 6, 7, 8, 9, 10] (fun a0 HA0 => ?_)
  have oe0 := ev HA0 0 rfl
  have oe4 := ev HA0 4 rfl
  refine QSeq.pure rfl _ (fun E => ex_move rfl (E.v oe0)) ?_
  refine QSeq.pure rfl _ (fun E => ex_move rfl (E.v oe0)) ?_
  refine QSeq.pure rfl (.pointer (some ⟨p, 0, none⟩)) (fun E => ex_nil rfl (E.d 1 0)) ?_
  refine QSeq.pure rfl (.pointer (some ⟨p, 0, none⟩)) (fun E => ex_field rfl Try.underlying47 rfl (by kernel_rfl) (E.d 2 0)) ?_
  refine QSeq.pure rfl _ (fun E => ex_load1 rfl Try.underlying22 rfl (E.d 3 0) (Cs.lit1 (HRD.out.mod Cx1.out (fun h => h)) rfl)) ?_
  refine QSeq.pure rfl _ (fun E => ex_move rfl (E.v oe4)) ?_
  refine QSeq.pure rfl _ (fun E => ex_move rfl (E.v oe4)) ?_
  refine QSeq.pure rfl (.slice aob m m) (fun E => ex_sliceTo3 (i := m) (m := m) (s := 1) rfl Try.underlying22 (by kernel_rfl) (E.d 4 2) (E.d 5 1) (E.d 6 0) (by omega) (by omega)) ?_
  refine QSeq.pure rfl (.pointer (some ⟨p, 0, none⟩)) (fun E => ex_nil rfl (E.d 0 7)) ?_
  refine QSeq.pure rfl (.pointer (some ⟨p, 0, none⟩)) (fun E => ex_field rfl Try.underlying47 rfl (by kernel_rfl) (E.d 8 0)) ?_
  refine QSeq.go fun act E => ?_
  refine qc_store rfl (wanted_none rfl) rfl (HRD.out.mod Cx1.out (fun h => h)) (off := 0) (vs := [Value.slice aob m m]) (by kernel_rfl) one1 (by simp) (E.d 9 0) (ec (E.d 7 2)) ?_
  intro u1_10 qc0 hm
  have qrd := qc0.eqv (b := #[Value.slice aob m m, .int .i64 (s.sy : Nat), .bool s.dead, .bool s.lit, .int .i64 fb]) rfl
  clear qc0
  have Hx2 := hid qrd
  have zu1_10 := hm.size
  have Cx3 := hid (show Mod (fun k => (k = p)) u0_0 u1_10 from hm)
  clear hm
  clear act E qrd HRD
  refine QSeq.nil (t' := [_, _, _, _, _, _, _, _, _, _, _]) rfl ?_
  obtain rfl := HA0.out
  clear HA0 oe0 oe4
  simp only [pz, Act.put, List.setIfInBounds_toArray, List.set_cons_zero, List.set_cons_succ, List.set_nil]
  go_upto_region 2 with (fail)
  refine wp_region_U 43 [33, 34, 35, 36, 47] [0, 1, 2, 3, 4] (fun a0 HA0 => ?_)
  have oe0 := ev HA0 0 rfl
  have oe4 := ev HA0 4 rfl
  refine QSeq.pure rfl _ (fun E => ex_move rfl (E.v oe0)) ?_
  refine QSeq.pure rfl _ (fun E => ex_move rfl (E.v oe4)) ?_
  refine QSeq.pure rfl (.pointer (some ⟨p, 0, none⟩)) (fun E => ex_nil rfl (E.d 0 1)) ?_
  refine QSeq.pure rfl (.pointer (some ⟨p, 1, none⟩)) (fun E => ex_field rfl Try.underlying47 rfl (by kernel_rfl) (E.d 2 0)) ?_
  refine QSeq.go fun act E => ?_
  refine qc_store rfl (wanted_none rfl) rfl Hx2.out (off := 1) (vs := [Value.int .i64 ((m : Nat) : Int)]) (by kernel_rfl) one1 (by simp) (E.d 3 0) (ec (E.d 1 2)) ?_
  intro u2_4 qc0 hm
  have qrd := qc0.eqv (b := #[.slice aob m m, Value.int .i64 ((m : Nat) : Int), .bool s.dead, .bool s.lit, .int .i64 fb]) rfl
  clear qc0
  have Hx4 := hid qrd
  have zu2_4 := hm.size
  have Cx5 := hid (show Mod (fun k => (k = p)) u1_10 u2_4 from hm)
  clear hm
  clear act E qrd Hx2
  refine QSeq.nil (t' := [_, _, _, _, _]) rfl ?_
  obtain rfl := HA0.out
  clear HA0 oe0 oe4
  simp only [pz, Act.put, List.setIfInBounds_toArray, List.set_cons_zero, List.set_cons_succ, List.set_nil]
  go_upto_region 3 with (fail)
  refine wp_region_U 43 [37, 38, 39, 40, 47, 41, 42, 50] [0, 1, 2, 3, 4, 5, 6, 7] (fun a0 HA0 => ?_)
  have oe0 := ev HA0 0 rfl
  refine QSeq.pure rfl _ (fun E => ex_move rfl (E.v oe0)) ?_
  refine QSeq.pure rfl _ (fun E => ex_move rfl (E.v oe0)) ?_
  refine QSeq.pure rfl (.pointer (some ⟨p, 0, none⟩)) (fun E => ex_nil rfl (E.d 0 1)) ?_
  refine QSeq.pure rfl (.pointer (some ⟨p, 2, none⟩)) (fun E => ex_field rfl Try.underlying47 rfl (by kernel_rfl) (E.d 2 0)) ?_
  refine QSeq.go fun act E => ?_
  refine qc_store rfl (wanted_none rfl) rfl Hx4.out (off := 2) (vs := [Value.bool false]) (by kernel_rfl) one1 (by simp) (E.d 3 0) (ec rfl) ?_
  intro u3_4 qc0 hm
  have qrd := qc0.eqv (b := #[.slice aob m m, .int .i64 (m : Nat), Value.bool false, .bool s.lit, .int .i64 fb]) rfl
  clear qc0
  have Hx6 := hid qrd
  have zu3_4 := hm.size
  have Cx7 := hid (show Mod (fun k => (k = p)) u2_4 u3_4 from hm)
  clear hm
  clear act E qrd Hx4
  refine QSeq.pure rfl (.pointer (some ⟨p, 0, none⟩)) (fun E => ex_nil rfl (E.d 1 3)) ?_
  refine QSeq.pure rfl (.pointer (some ⟨p, 3, none⟩)) (fun E => ex_field rfl Try.underlying47 rfl (by kernel_rfl) (E.d 5 0)) ?_
  refine QSeq.go fun act E => ?_
  refine qc_store rfl (wanted_none rfl) rfl Hx6.out (off := 3) (vs := [Value.bool false]) (by kernel_rfl) one1 (by simp) (E.d 6 0) (ec rfl) ?_
  intro u3_7 qc0 hm
  have qrd := qc0.eqv (b := #[.slice aob m m, .int .i64 (m : Nat), .bool false, Value.bool false, .int .i64 fb]) rfl
  clear qc0
  have Hx8 := hid qrd
  have zu3_7 := hm.size
  have HMu3_7 := hid hm
  have Cx9 := hid (Mod.goS (S' := (fun k => (k = p))) Cx7.out hm (fun _ h => h) (by intro k h0 h2; exact h2))
  clear hm Cx7
  clear act E qrd Hx6
  clear HMu3_7
  refine QSeq.nil (t' := [_, _, _, _, _, _, _, _]) rfl ?_
  obtain rfl := HA0.out
  clear HA0 oe0
  simp only [pz, Act.put, List.setIfInBounds_toArray, List.set_cons_zero, List.set_cons_succ, List.set_nil]
  go_wp2
  refine bodyPost_end (results_none rfl _ _ _) rfl ?_
  rw [show dCrash s n.toNat = ⟨s.b.take m, m, 0, false, false⟩ by unfold dCrash; rw [← hkp, ← hm]]
  exact ⟨rfl, RkO.shut (s' := ⟨s.b.take m, m, 0, false, false⟩) HK.out Hx8.out (OwR_cut3 ((((HRB.out.mod Cx1.out (fun _ _ h => h)).mod Cx3.out (by intro k h1 h2; first | omega | (have hb := HBQ.out k h1; omega) | exact HXQ.out (h2 ▸ h1) | exact HXQ.out (h1 ▸ h2))).mod Cx5.out (by intro k h1 h2; first | omega | (have hb := HBQ.out k h1; omega) | exact HXQ.out (h2 ▸ h1) | exact HXQ.out (h1 ▸ h2))).mod Cx9.out (by intro k h1 h2; first | omega | (have hb := HBQ.out k h1; omega) | exact HXQ.out (h2 ▸ h1) | exact HXQ.out (h1 ▸ h2))) m hml) (by show (s.b.take m).length ≤ _; rw [List.length_take]; omega) HK.out.kq HK.out.kp (by show m ≤ (s.b.take m).length; rw [List.length_take]; omega) (fun h => by cases h) HK.out.kg, ((((HM0.out.trans Cx1.out (fun _ _ h => h.elim)).trans Cx3.out (by intro k h1 h2; first | exact h2 | omega | exact (HK.out.kq k h2).1 | exact (h2 ▸ HK.out.kp))).trans Cx5.out (by intro k h1 h2; first | exact h2 | omega | exact (HK.out.kq k h2).1 | exact (h2 ▸ HK.out.kp))).trans Cx9.out (by intro k h1 h2; first | exact h2 | omega | exact (HK.out.kq k h2).1 | exact (h2 ▸ HK.out.kp)))⟩
end Go.Proofs.Ythojipjleajajaa
