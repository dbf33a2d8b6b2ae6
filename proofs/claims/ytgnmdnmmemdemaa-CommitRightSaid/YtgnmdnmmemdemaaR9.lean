/- CommitRight: what is made is right; with anything of it turned it is not: for every name, nonce, payload and three numbers the law returns true. No condition. -/
import Derived.Test.YtgnmdnmmemdemaaR8
import Derived.ProofKit
import Derived.OpenShut
import Derived.ChangeOld
/- CommitRight: the plain laws, the walk. -/
set_option maxRecDepth 100000
set_option linter.unusedVariables false
namespace Go.Proofs.Ytgnmdnmmemdemaa
open Go Go.RowKit Go.Gv


theorem encN_inj : ∀ a b : Nat, encN a = encN b → a = b := by
  intro a
  induction a using Nat.strongRecOn with
  | ind a ih =>
    intro b h
    rcases Nat.lt_or_ge a 128 with ha | ha <;> rcases Nat.lt_or_ge b 128 with hb | hb
    · rw [encN_lt ha, encN_lt hb] at h; injection h with h1; omega
    · rw [encN_lt ha, encN_ge hb] at h; injection h with h1; omega
    · rw [encN_ge ha, encN_lt hb] at h; injection h with h1; omega
    · rw [encN_ge ha, encN_ge hb] at h; injection h with h1 h2; have := ih (a / 128) (by omega) (b / 128) h2; omega
theorem encI_inj {x y : Int} (hx : 0 ≤ x) (hy : 0 ≤ y) (h : encI x = encI y) : x = y := by
  unfold encI at h
  have := encN_inj _ _ h
  omega
theorem xor_one {x : Int} (h0 : 0 ≤ x) (h1 : x ≤ 255) : bits .xor .u8 x 1 ≠ x ∧ 0 ≤ bits .xor .u8 x 1 ∧ bits .xor .u8 x 1 ≤ 255 := by
  have key : ∀ n : Fin 256, bits .xor .u8 (n.val : Int) 1 ≠ n.val ∧ 0 ≤ bits .xor .u8 (n.val : Int) 1 ∧ bits .xor .u8 (n.val : Int) 1 ≤ 255 := by decide +kernel
  have := key ⟨x.toNat, by omega⟩
  rwa [show ((⟨x.toNat, by omega⟩ : Fin 256).val : Int) = x from by show ((x.toNat : Nat) : Int) = x; omega] at this
theorem lay_at (pre mid post new : List Value) (h : new.length = mid.length) : lay (pre ++ (mid ++ post)).toArray pre.length new = (pre ++ (new ++ post)).toArray := by
  unfold lay
  simp [h]
theorem lay_cl (c : Cm) (x : Int) : lay c.cells.toArray 0 [.int .i64 x] = (Cm.cells { c with cl := x }).toArray := rfl
theorem lay_sq (c : Cm) (x : Int) : lay c.cells.toArray 1 [.int .i64 x] = (Cm.cells { c with sq := x }).toArray := rfl
theorem cells_at (c : Cm) : c.cells = ([.int .i64 c.cl, .int .i64 c.sq] ++ c.h.map bv) ++ ([.int .i64 c.ln] ++ [.int .i64 c.sb, .int .i64 c.mr]) := by simp [Cm.cells]
theorem lay_ln (c : Cm) (x : Int) (hl : c.h.length = 32) : lay c.cells.toArray 34 [.int .i64 x] = (Cm.cells { c with ln := x }).toArray := by
  have h := lay_at ([.int .i64 c.cl, .int .i64 c.sq] ++ c.h.map bv) [.int .i64 c.ln] [.int .i64 c.sb, .int .i64 c.mr] [.int .i64 x] rfl
  rw [show ([.int .i64 c.cl, .int .i64 c.sq] ++ c.h.map bv : List Value).length = 34 by simp [hl]] at h
  rw [cells_at, h, cells_at]
theorem lay_mr (c : Cm) (x : Int) (hl : c.h.length = 32) : lay c.cells.toArray 36 [.int .i64 x] = (Cm.cells { c with mr := x }).toArray := by
  have h := lay_at ([.int .i64 c.cl, .int .i64 c.sq] ++ c.h.map bv ++ [.int .i64 c.ln, .int .i64 c.sb]) [.int .i64 c.mr] [] [.int .i64 x] rfl
  rw [show ([.int .i64 c.cl, .int .i64 c.sq] ++ c.h.map bv ++ [.int .i64 c.ln, .int .i64 c.sb] : List Value).length = 36 by simp [hl]] at h
  rw [show c.cells = ([.int .i64 c.cl, .int .i64 c.sq] ++ c.h.map bv ++ [.int .i64 c.ln, .int .i64 c.sb]) ++ ([.int .i64 c.mr] ++ []) by simp [Cm.cells], h]
  simp [Cm.cells]
theorem lay_sb (c : Cm) (x : Int) (hl : c.h.length = 32) : lay c.cells.toArray 35 [.int .i64 x] = (Cm.cells { c with sb := x }).toArray := by
  have h := lay_at ([.int .i64 c.cl, .int .i64 c.sq] ++ c.h.map bv ++ [.int .i64 c.ln]) [.int .i64 c.sb] [.int .i64 c.mr] [.int .i64 x] rfl
  rw [show ([.int .i64 c.cl, .int .i64 c.sq] ++ c.h.map bv ++ [.int .i64 c.ln] : List Value).length = 35 by simp [hl]] at h
  rw [show c.cells = ([.int .i64 c.cl, .int .i64 c.sq] ++ c.h.map bv ++ [.int .i64 c.ln]) ++ ([.int .i64 c.sb] ++ [.int .i64 c.mr]) by simp [Cm.cells], h]
  simp [Cm.cells]
theorem lay_hb (c : Cm) (n : Nat) (x : Int) (hn : n < 32) (hl : c.h.length = 32) : lay c.cells.toArray (2 + n * 1) [.int .u8 x] = (Cm.cells { c with h := c.h.set n x }).toArray := by
  have h0 : c.h = c.h.take n ++ ([c.h[n]] ++ c.h.drop (n + 1)) := by rw [List.singleton_append, List.getElem_cons_drop, List.take_append_drop]
  have e : c.h.map bv = (c.h.take n).map bv ++ ([.int .u8 c.h[n]] ++ (c.h.drop (n + 1)).map bv) := (congrArg (List.map bv) h0).trans (by rw [List.map_append, List.map_append]; rfl)
  have h := lay_at ([.int .i64 c.cl, .int .i64 c.sq] ++ (c.h.take n).map bv) [.int .u8 c.h[n]] ((c.h.drop (n + 1)).map bv ++ [.int .i64 c.ln, .int .i64 c.sb, .int .i64 c.mr]) [.int .u8 x] rfl
  rw [show ([.int .i64 c.cl, .int .i64 c.sq] ++ (c.h.take n).map bv : List Value).length = 2 + n * 1 by simp; omega] at h
  rw [show c.cells = ([.int .i64 c.cl, .int .i64 c.sq] ++ (c.h.take n).map bv) ++ ([.int .u8 c.h[n]] ++ ((c.h.drop (n + 1)).map bv ++ [.int .i64 c.ln, .int .i64 c.sb, .int .i64 c.mr])) by simp only [Cm.cells, e, List.append_assoc], h]
  simp [Cm.cells, List.set_eq_take_append_cons_drop, hl, hn]
section
variable {a b : Int} {h bs : List Int} {k : Int} {c : Cm}
theorem right_one (c : Cm) : rightC [mkKey a b h bs] k c = (validF k c && (c.sb == 1000 + c.cl) && (decide ((1000 + a, txT (cm0 a b h bs)) = (c.sb, txT c)) && (c.mr == 1))) := by
  unfold rightC
  rw [rightF_one]
  rfl
theorem right_law (ha : 0 ≤ a) (hb : 0 ≤ b ∧ b ≤ 8) (hl : bs.length ≤ 256) : rightC [mkKey a b h bs] k (cm1 a b h bs) = (decide (a < k) && decide (1 ≤ b)) := by
  rw [right_one]
  have e1 : validF k (cm1 a b h bs) = (decide (a < k) && decide (1 ≤ b)) := by
    show (decide (0 ≤ a) && decide (a < k) && decide (1 ≤ b) && decide (b ≤ 1048576) && decide (0 ≤ (bs.length : Int)) && decide ((bs.length : Int) ≤ 256)) = _
    rw [decide_eq_true ha, decide_eq_true (show b ≤ 1048576 by omega), decide_eq_true (show 0 ≤ (bs.length : Int) by omega), decide_eq_true (show (bs.length : Int) ≤ 256 by omega)]
    simp
  rw [e1]
  have e2 : (1000 + a, txT (cm0 a b h bs)) = ((cm1 a b h bs).sb, txT (cm1 a b h bs)) := rfl
  rw [decide_eq_true e2, show ((cm1 a b h bs).sb == 1000 + (cm1 a b h bs).cl) = true from beq_self_eq_true _, show ((cm1 a b h bs).mr == 1) = true from rfl]
  simp
theorem bad_sb (hs : ¬ c.sb = 1000 + c.cl) : rightC [mkKey a b h bs] k c = false := by
  rw [right_one, beq_eq_false_iff_ne.2 hs]
  simp
theorem bad_mr (hs : ¬ c.mr = 1) : rightC [mkKey a b h bs] k c = false := by
  rw [right_one, show (c.mr == 1) = false from beq_eq_false_iff_ne.2 hs]
  simp
theorem bad_tx (hs : ¬ txQ (cm0 a b h bs) = txQ c) : rightC [mkKey a b h bs] k c = false := by
  rw [txQ_T, txQ_T] at hs
  rw [right_one, decide_eq_false (fun e => hs (congrArg Prod.snd e))]
  simp
theorem bad_sq {x : Int} (hb : 0 ≤ b) (hx : b < x) : rightC [mkKey a b h bs] k { cm1 a b h bs with sq := x } = false := bad_tx fun e => by
  have e1 := List.append_cancel_left (List.append_cancel_left e)
  have e2 := encI_inj (x := b) (y := x) hb (by omega) (List.append_cancel_right e1)
  omega
theorem bad_ln {x : Int} (hx : (bs.length : Int) < x) : rightC [mkKey a b h bs] k { cm1 a b h bs with ln := x } = false := bad_tx fun e => by
  have e1 := List.append_cancel_left (List.append_cancel_left (List.append_cancel_left (List.append_cancel_left e)))
  have e2 := encI_inj (x := (bs.length : Int)) (y := x) (by omega) (by omega) e1
  omega
theorem bad_h {l : List Int} (hl : ¬ shaF (ofT a b h bs) = l) : rightC [mkKey a b h bs] k { cm1 a b h bs with h := l } = false := bad_tx fun e => by
  have e1 := List.append_cancel_left (List.append_cancel_left (List.append_cancel_left e))
  exact hl (List.append_cancel_right e1)
end
set_option maxHeartbeats 8000000 in
theorem CommitRight_walk (n1 n2 : Int) (h ps : List Int) (v : Value) (wh by' cn : Int) (h1 : I64 n1) (h2 : I64 n2) (hh : HK h) (hwh : I64 wh) (hby : I64 by') (hcn : I64 cn) (w : World) (hr : RdR (fun k => k < w.heap.size) ps.length w v ps) :
    Calls Try.prog 4 #[.agg #[.int .i64 n1, .int .i64 n2], .agg (h.map bv).toArray, v, .int .i64 wh, .int .i64 by', .int .i64 cn] w fun e w' => e = .returned (.bool true) ∧ Mod (fun _ => False) w w' := by
  have HR0 := Lib.hid hr
  have HH := Lib.hid hh
  have H1 := Lib.hid h1
  have H2 := Lib.hid h2
  have HWH := Lib.hid hwh
  have HBY := Lib.hid hby
  have HCN := Lib.hid hcn
  have w1 := within_range n1 6 (by decide)
  have w2 := within_range n2 9 (by decide)
  have w3 := within_range cn 5 (by decide)
  have w4 := within_range by' 9 (by decide)
  have w5 := within_range wh 7 (by decide)
  obtain ⟨a, ea⟩ : ∃ z, within n1 6 = z := ⟨_, rfl⟩
  obtain ⟨b, eb⟩ : ∃ z, within n2 9 = z := ⟨_, rfl⟩
  obtain ⟨c0, ec⟩ : ∃ z, within cn 5 = z := ⟨_, rfl⟩
  obtain ⟨d0, ed⟩ : ∃ z, within by' 9 = z := ⟨_, rfl⟩
  obtain ⟨e0, ee⟩ : ∃ z, within wh 7 = z := ⟨_, rfl⟩
  rw [ea] at w1
  rw [eb] at w2
  rw [ec] at w3
  rw [ed] at w4
  rw [ee] at w5
  obtain ⟨dn, edn⟩ : ∃ n : Nat, ((n : Nat) : Int) = 1 + d0 := ⟨(1 + d0).toNat, by omega⟩
  have EA := Lib.hid ea
  have EB := Lib.hid eb
  have EC := Lib.hid ec
  have ED := Lib.hid ed
  have EE := Lib.hid ee
  have EDN := Lib.hid edn
  have WA := Lib.hid w1
  have WB := Lib.hid w2
  have WC := Lib.hid w3
  have WD := Lib.hid w4
  have WE := Lib.hid w5
  obtain ⟨bs, ebs⟩ : ∃ z, ps.take 256 = z := ⟨_, rfl⟩
  have HPL := hid (show bs.length ≤ 256 by rw [← ebs, List.length_take]; omega)
  have EBS := Lib.hid ebs
  clear ebs
  have IA := hid (show I64 a by unfold I64; omega)
  have ISA := hid (show I64 (1000 + a) by unfold I64; omega)
  have IB := hid (show I64 b by unfold I64; omega)
  have HO1 := hid (cm1_ok (h := h) (bs := bs) IA.out ISA.out IB.out (Nat.le_trans HPL.out (by decide)))
  have HKY := hid (key_ok (h := h) (bs := bs) IA.out ISA.out IB.out (Nat.le_trans HPL.out (by decide)))
  have HRL := hid (right_law (k := 1 + c0) (h := h) (bs := bs) WA.out.1 ⟨WB.out.1, by have := WB.out; omega⟩ HPL.out)
  clear hr hh h1 h2 hwh hby hcn w1 w2 w3 w4 w5 ea eb ec ed ee edn
  go_enter Try.func4, Try.ntmps4
  go_upto_region 1 with (fail)
  obtain ⟨w1, hw1⟩ : ∃ zz, zz = ((w.alloc (.cells #[.int .i64 n1, .int .i64 n2] 26)).alloc (.cells (h.map bv : List Value).toArray 28)) := ⟨_, rfl⟩
  change Code.wp _ _ _ _ ((w.alloc (.cells #[.int .i64 n1, .int .i64 n2] 26)).alloc (.cells (h.map bv : List Value).toArray 28))
  rw [← hw1]
  have HB6 := hid (show Cs w1 (w.heap.size) #[.int .i64 n1, .int .i64 n2] 26 by rw [hw1]; exact (Cs.new _ _ _).alloc _)
  have HB7 := hid (show Cs w1 (w.heap.size + 1) (h.map bv : List Value).toArray 28 by rw [hw1]; exact Cs_newN _ _ _ (by simp))
  have hm : Mod (fun _ => False) w w1 := by rw [hw1]; exact ((Mod.refl _ _).alloc _).alloc _
  have HM0 := hid (show Mod (fun _ => False) w w1 from hm.mono (fun _ _ h => h.elim))
  have hs1 : w1.heap.size = w.heap.size + 2 := by rw [hw1]; simp
  have Hx1 := hid (HR0.out.mod hm (fun _ _ h => h))
  clear HR0
  clear hw1 hm
  go_upto_region 1 with (fail)
  generalize ha0 : Act.mk _ _ = a0
  have oe2 : a0.eval (.tmp 2) = v := by rw [← ha0]; rfl
  have hsz0 : a0.tmps.size = 155 := by rw [← ha0]; rfl
  have HA0 := hid ha0
  clear ha0
  refine wp_region_Q0 155 hsz0 [18, 19, 2] [qi (v), qv 0, qv 0] ⟨qi_stable, qv_stable, qv_stable, trivial⟩ [1] ⟨?_, ?_, ?_, trivial⟩ ?_
  · exact stq (fun E => ex_move rfl ((E.pre 2 2 rfl (by kernel_rfl)).trans oe2))
  · exact stepq_chain rfl
  · refine stepq_env rfl rfl rfl fun _ _ _ _ _ _ _ _ _ hd _ _ => ?_
    have h1 := hd ⟨1, .data⟩ (by simp) rfl _ rfl
    exact qe_run rfl (wanted_none rfl) (ex_assign rfl rfl) QE.refl h1
  intro u1_0 hr
  have zu1_0 := hr.size
  have Cx2 := hid (hr.new (S := (fun _ => False)))
  clear hr
  refine QChain.go fun Z act E => ?_
  refine qc_callF (args := #[v, .int .i64 256]) rfl (wanted_none rfl) rfl Try.func17 (args2 (E.d 0) rfl) (EBS.out ▸ Cut_R 256 (Hx1.out.mod Cx2.out (fun _ _ h => h)) (by decide)) ?_
  rintro e u1_1a ⟨v', rfl, qpl, hm⟩
  obtain ⟨aop, capp, rfl⟩ := qpl.shape
  have zu1_1a := hm.size
  refine ⟨_, rfl, hm.mono (fun _ _ h => h.elim), (fun _ => rfl), ?_⟩
  intro u1_1 hr
  have zu1_1 := hr.size
  have Hx3 := hid ((qpl.widen (R' := (fun k => (New u1_0 u1_1a k))) (fun _ h => h) (Nat.le_refl _)).mod hr (by intro k h1 h2; omega))
  have Cx4 := hid (Cx2.out.go hm hr)
  clear Cx2 hm hr Z act E qpl
  clear Hx1
  refine QChain.nil fun vs hl hzz hrows hne => ?_
  obtain ⟨Z, hYZ, hZb, hV⟩ := hzz
  have f0 := fvi hV hl 0
  have f1 := fvc hV hl 1
  have f2 := fvc hV hl 2
  rw [show vs = [gw vs 0, gw vs 1, gw vs 2] from (gw_eta hl).trans rfl]
  have ha0 := HA0.out
  subst ha0
  clear HA0 hV hYZ hZb hsz0 hrows hne oe2
  simp only [putAll, Act.put, List.setIfInBounds_toArray, List.set_cons_zero, List.set_cons_succ, f0, f1, f2]
  clear hl f0 f1 f2
  go_upto_region 2 with (fail)
  generalize ha0 : Act.mk _ _ = a0
  have oe5 : a0.eval (.tmp 5) = .int .i64 cn := by rw [← ha0]; rfl
  have hsz0 : a0.tmps.size = 155 := by rw [← ha0]; rfl
  have HA0 := hid ha0
  clear ha0
  refine wp_region_Q0 155 hsz0 [20, 21, 22, 5] [qi (.int .i64 cn), qi (.int .i64 c0), qi (.int .i64 (1 + c0)), qi (.int .i64 (1 + c0))] ⟨qi_stable, qi_stable, qi_stable, qi_stable, trivial⟩ [] ⟨?_, ?_, ?_, ?_, trivial⟩ ?_
  · exact stq (fun E => ex_move rfl ((E.pre 3 5 rfl (by kernel_rfl)).trans oe5))
  · refine stepq_env rfl rfl rfl fun _ _ _ _ _ _ _ _ _ hd _ _ => ?_
    have h0 := hd ⟨0, .data⟩ (by simp) rfl _ rfl
    refine qe_callF (args := #[.int .i64 cn, .int .i64 5]) rfl (wanted_none rfl) rfl Try.func14 (args2 h0 rfl) (EC.out ▸ Within_any cn 5 (by decide) (by decide) HCN.out _) ?_
    rintro e w2 ⟨rfl, rfl⟩
    exact ⟨_, rfl, QE.refl, rfl⟩
  · exact stq (fun E => ex_binE rfl rfl (E.d 1) (guard_ints _ _ _ _ _ _) (run_add_i _ _ Try.underlying3) (congrArg (Value.int .i64) (IntWalk.i64_in _ (by have := WC.out; omega))))
  · exact stq (fun E => ex_assign rfl (E.d 2))
  intro u2_0 hr
  have zu2_0 := hr.size
  have Cx5 := hid (hr.new (S := (fun _ => False)))
  clear hr
  refine QChain.nil fun vs hl hzz hrows hne => ?_
  obtain ⟨Z, hYZ, hZb, hV⟩ := hzz
  have f0 := fvi hV hl 0
  have f1 := fvi hV hl 1
  have f3 := fvi hV hl 3
  rw [show vs = [gw vs 0, gw vs 1, gw vs 2, gw vs 3] from (gw_eta hl).trans rfl]
  have ha0 := HA0.out
  subst ha0
  clear HA0 hV hYZ hZb hsz0 hrows hne oe5
  simp only [putAll, Act.put, List.setIfInBounds_toArray, List.set_cons_zero, List.set_cons_succ, f0, f1, f3]
  clear hl f0 f1 f3
  go_upto_region 3 with (fail)
  generalize ha0 : Act.mk _ _ = a0
  have oe6 : a0.eval (.tmp 6) = .pointer (some ⟨w.heap.size, 0, none⟩) := by rw [← ha0]; rfl
  have hsz0 : a0.tmps.size = 155 := by rw [← ha0]; rfl
  have HA0 := hid ha0
  clear ha0
  refine wp_region_Q1 155 hsz0 [23, 24, 25, 26, 27, 28, 29, 162] (fun k => (k = w.heap.size)) (fun k j => (k = 0 ∧ ((j = w.heap.size)))) (fun _ _ h => h.2) [qi (.pointer (some ⟨w.heap.size, 0, none⟩)), qi (.int .i64 n1), qi (.int .i64 a), qi (.pointer (some ⟨w.heap.size, 1, none⟩)), qi (.int .i64 n2), qi (.int .i64 b), qi (.agg #[.int .i64 a, .int .i64 b]), qv 0] ⟨qi_stable, qi_stable, qi_stable, qi_stable, qi_stable, qi_stable, qi_stable, qv_stable, trivial⟩ [7] ⟨?_, ?_, ?_, ?_, ?_, ?_, ?_, ?_, trivial⟩ ?_
  · exact stq (fun E => ex_field rfl Try.underlying26 rfl (by kernel_rfl) (E.v oe6))
  · refine stepq_env rfl rfl rfl fun _ _ _ _ _ _ hm0 _ _ hd hub _ => ?_
    have h0 := hd ⟨0, .data⟩ (by simp) rfl _ rfl
    refine qe_run rfl (wanted_none rfl) (ex_load1 rfl Try.underlying3 rfl h0 (Cs.lit1 (((HB6.out.mod Cx4.out (fun h => h)).mod Cx5.out (fun h => h)).mod hm0 (by intro h2; have hu := hub 0 7 rfl (by kernel_rfl); rcases h2 with ⟨h0, kk, hk, h2⟩ | h2 <;> omega)) rfl)) QE.refl ?_
    rfl
  · refine stepq_env rfl rfl rfl fun _ _ _ _ _ _ _ _ _ hd _ _ => ?_
    have h1 := hd ⟨1, .data⟩ (by simp) rfl _ rfl
    refine qe_callF (args := #[.int .i64 n1, .int .i64 6]) rfl (wanted_none rfl) rfl Try.func14 (args2 h1 rfl) (EA.out ▸ Within_any n1 6 (by decide) (by decide) H1.out _) ?_
    rintro e w2 ⟨rfl, rfl⟩
    exact ⟨_, rfl, QE.refl, rfl⟩
  · exact stq (fun E => ex_field rfl Try.underlying26 rfl (by kernel_rfl) (E.v oe6))
  · refine stepq_env rfl rfl rfl fun _ _ _ _ _ _ hm0 _ _ hd hub _ => ?_
    have h3 := hd ⟨3, .data⟩ (by simp) rfl _ rfl
    refine qe_run rfl (wanted_none rfl) (ex_load1 rfl Try.underlying3 rfl h3 (Cs.lit1 (((HB6.out.mod Cx4.out (fun h => h)).mod Cx5.out (fun h => h)).mod hm0 (by intro h2; have hu := hub 0 7 rfl (by kernel_rfl); rcases h2 with ⟨h0, kk, hk, h2⟩ | h2 <;> omega)) rfl)) QE.refl ?_
    rfl
  · refine stepq_env rfl rfl rfl fun _ _ _ _ _ _ _ _ _ hd _ _ => ?_
    have h4 := hd ⟨4, .data⟩ (by simp) rfl _ rfl
    refine qe_callF (args := #[.int .i64 n2, .int .i64 9]) rfl (wanted_none rfl) rfl Try.func14 (args2 h4 rfl) (EB.out ▸ Within_any n2 9 (by decide) (by decide) H2.out _) ?_
    rintro e w2 ⟨rfl, rfl⟩
    exact ⟨_, rfl, QE.refl, rfl⟩
  · refine stepq_env rfl rfl rfl fun _ _ act _ _ _ _ _ _ hd _ _ => ?_
    have h2 := hd ⟨2, .data⟩ (by simp) rfl _ rfl
    have h5 := hd ⟨5, .data⟩ (by simp) rfl _ rfl
    refine qe_run rfl (wanted_none rfl) (ex_build rfl (z := [.int .i64 0, .int .i64 0]) (places := [(0, 1), (1, 1)]) (by kernel_rfl) (parts := [(0, .int .i64 a), (1, .int .i64 b)]) (by simp only [List.map_toArray, List.map_cons, List.map_nil, show act.eval (.tmp 25) = _ from h2, show act.eval (.tmp 28) = _ from h5]; try rfl) (r := [.int .i64 a, .int .i64 b]) (by rfl)) QE.refl ?_
    rfl
  · exact stepq_chain rfl
  intro u3_0 hr
  have zu3_0 := hr.size
  have Cx6 := hid (hr.new (S := (fun k => (k = w.heap.size))))
  have Hx7 := hid (((HB6.out.mod Cx4.out (fun h => h)).mod Cx5.out (fun h => h)).mod hr (by intro h2; omega))
  clear HB6
  clear hr
  refine QChain.go fun Z act E => ?_
  refine qc_store rfl (wanted_none rfl) rfl Hx7.out (off := 0) (vs := [.int .i64 a, .int .i64 b]) (by kernel_rfl) (by intro u hu; simp at hu; rcases hu with rfl | rfl <;> rfl) (by simp) (E.v oe6) (by rw [show act.eval ((.tmp 29)) = _ from (E.d 6)]; rfl) ?_
  intro u3_1a qc0 hm
  have qB6 : Cs u3_1a (w.heap.size) #[.int .i64 a, .int .i64 b] 26 := by rw [show lay _ 0 _ = #[.int .i64 a, .int .i64 b] from rfl] at qc0; exact qc0
  clear qc0
  have zu3_1a := hm.size
  refine ⟨hm.mono (by intro k hk h; omega), (fun _ => rfl), ?_⟩
  intro u3_1 hr
  have zu3_1 := hr.size
  have Hx8 := hid (qB6.mod hr (by intro h2; omega))
  have Cx9 := hid (Cx6.out.goM hm hr (fun _ _ h => h))
  clear Cx6 hm hr Z act E qB6 Hx7
  refine QChain.nil fun vs hl hzz hrows hne => ?_
  obtain ⟨Z, hYZ, hZb, hV⟩ := hzz
  have f2 := fvi hV hl 2
  have f5 := fvi hV hl 5
  rw [show vs = [gw vs 0, gw vs 1, gw vs 2, gw vs 3, gw vs 4, gw vs 5, gw vs 6, gw vs 7] from (gw_eta hl).trans rfl]
  have ha0 := HA0.out
  subst ha0
  clear HA0 hV hYZ hZb hsz0 hrows hne oe6
  simp only [putAll, Act.put, List.setIfInBounds_toArray, List.set_cons_zero, List.set_cons_succ, List.set_nil, f2, f5]
  clear hl f2 f5
  go_wp2_with fail
  refine (Book_new_Q _).mono ?_
  rintro e wB ⟨g, rfl, qbk, hm⟩
  have zwB := hm.size
  have Hx10 := hid (Hx8.out.mod hm (fun h => h))
  have Hx11 := hid ((((HB7.out.mod Cx4.out (fun h => h)).mod Cx5.out (fun h => h)).mod Cx9.out (by intro h2; omega)).mod hm (fun h => h))
  have Hx12 := hid ((((HM0.out.trans Cx4.out (fun _ _ h => h.elim)).trans Cx5.out (fun _ _ h => h.elim)).trans Cx9.out (by intro k h1 h2; omega)).trans hm (fun _ _ h => h.elim))
  have Hx13 := hid (((Hx3.out.mod Cx5.out (fun _ _ h => h)).mod Cx9.out (by intro k h1 h2; omega)).mod hm (fun _ _ h => h))
  clear Hx8 HB7 HM0 Hx3
  have HBK := hid qbk
  clear hm qbk
  go_upto_region 7 with (fail)
  obtain ⟨wC, hwC⟩ : ∃ z, z = wB.alloc (.cells #[.slice none 0 0] 43) := ⟨_, rfl⟩
  change Code.wp _ _ _ _ (wB.alloc (.cells #[.slice none 0 0] 43))
  rw [← hwC]
  have HRB := hid (show Cs wC wB.heap.size #[.slice none 0 0] 43 by rw [hwC]; exact Cs.new _ _ _)
  have hm : Mod (fun _ => False) wB wC := by rw [hwC]; exact (Mod.refl _ _).alloc _
  have hsC : wC.heap.size = wB.heap.size + 1 := by rw [hwC]; simp
  clear hwC
  have Hx14 := hid (Hx10.out.mod hm (fun h => h))
  have Hx15 := hid (Hx11.out.mod hm (fun h => h))
  have Hx16 := hid (Hx12.out.trans hm (fun _ _ h => h.elim))
  have Hx17 := hid (Hx13.out.mod hm (fun _ _ h => h))
  have Hx18 := hid (HBK.out.mod hm (fun _ _ h => h))
  clear Hx10 Hx11 Hx12 Hx13 HBK
  clear hm
  go_upto_region 7 with (fail)
  generalize ha0 : Act.mk _ _ = a0
  have oe5 : a0.eval (.tmp 5) = .int .i64 (1 + c0) := by rw [← ha0]; rfl
  have hsz0 : a0.tmps.size = 155 := by rw [← ha0]; rfl
  have HA0 := hid ha0
  clear ha0
  refine wp_region_Q 155 hsz0 (by kernel_rfl) (by kernel_rfl) [35, 36, 15, 158] (by kernel_rfl) (by decide) (fun _ => False) (fun _ _ => False) (fun _ _ h => h) [qi (.int .i64 (1 + c0)), qi (.agg #[.int .i64 1, .int .i64 (1 + c0)]), qa, qa] ⟨qi_stable, qi_stable, qa_stable, qa_stable, trivial⟩ [] (by kernel_rfl) (by decide) (by kernel_rfl) [⟨2, 3, 24, [.int .i64 0, .int .i64 0], 0, (fun t => [.int .i64 1, .int .i64 (1 + c0)])⟩] (by kernel_rfl) (by intro r hr; simp only [List.mem_cons, List.not_mem_nil, or_false] at hr; rcases hr with rfl <;> exact ⟨by kernel_rfl, by kernel_rfl⟩) (by intro r hr; simp only [List.mem_cons, List.not_mem_nil, or_false] at hr; rcases hr with rfl <;> exact ⟨of_decide_eq_true (by kernel_rfl), of_decide_eq_true (by kernel_rfl)⟩) (by intro r hr; simp only [List.mem_cons, List.not_mem_nil, or_false] at hr; rcases hr with rfl <;> exact fun _ _ _ _ => ⟨trivial, trivial⟩) ⟨?_, ?_, ?_, ?_, trivial⟩ ?_
  · exact stq (fun E => ex_move rfl (E.v oe5))
  · refine stepq_env rfl rfl rfl fun _ _ act _ _ _ _ _ _ hd _ _ => ?_
    have h0 := hd ⟨0, .data⟩ (by simp) rfl _ rfl
    refine qe_run rfl (wanted_none rfl) (ex_build rfl (z := [.int .i64 0, .int .i64 0]) (places := [(0, 1), (1, 1)]) (by kernel_rfl) (parts := [(0, .int .i64 1), (1, .int .i64 (1 + c0))]) (by simp only [List.map_toArray, List.map_cons, List.map_nil, show act.eval (.tmp 35) = _ from h0]; try rfl) (r := [.int .i64 1, .int .i64 (1 + c0)]) (by rfl)) QE.refl ?_
    rfl
  · exact stepq_make rfl rfl ⟨rfl, rfl, by kernel_rfl, by kernel_rfl⟩
  · refine stepq_write rfl rfl rfl ⟨rfl, 15, (.tmp 36), rfl, by decide, rfl, by kernel_rfl, fun Z tr act w' hm hout hsz hd hpre => ?_⟩
    have h1 := hd ⟨1, .data⟩ (by simp) rfl _ rfl
    exact ⟨Nat.zero_le _, (by rw [show act.eval ((.tmp 36)) = _ from h1]; rfl), rfl, (by intro u hu; simp at hu; rcases hu with rfl | rfl <;> rfl)⟩
  intro u7_0 hr
  have zu7_0 := hr.size
  have Cx19 := hid (hr.new (S := (fun _ => False)))
  clear hr
  refine QChain.nil fun vs hl hzz hrows hne => ?_
  obtain ⟨Z, hYZ, hZb, hV⟩ := hzz
  obtain ⟨qf, g2, hBqf, hYqf, hCqf⟩ := hrows _ (by simp only [List.mem_cons, List.not_mem_nil, or_false]; trivial)
  have f2 : gw vs 2 = _ := getv g2
  (try dsimp only at hBqf hYqf); (try simp only [false_or] at hBqf hYqf)
  have zqqf := hCqf.lt
  have Hx20 := hid (show Cs u7_0 qf #[.int .i64 1, .int .i64 (1 + c0)] 24 from hCqf)
  have f0 := fvi hV hl 0
  rw [show vs = [gw vs 0, gw vs 1, gw vs 2, gw vs 3] from (gw_eta hl).trans rfl]
  have ha0 := HA0.out
  subst ha0
  clear HA0 hV hYZ hZb hsz0 hrows hne oe5 hCqf g2
  simp only [putAll, Act.put, List.setIfInBounds_toArray, List.set_cons_zero, List.set_cons_succ, List.set_nil, f2, f0]
  clear hl f2 f0
  go_upto_region 8 with (fail)
  generalize ha0 : Act.mk _ _ = a0
  have oe2 : a0.eval (.tmp 2) = .slice aop bs.length capp := by rw [← ha0]; rfl
  have oe6 : a0.eval (.tmp 6) = .pointer (some ⟨w.heap.size, 0, none⟩) := by rw [← ha0]; rfl
  have oe7 : a0.eval (.tmp 7) = .pointer (some ⟨w.heap.size + 1, 0, none⟩) := by rw [← ha0]; rfl
  have oe13 : a0.eval (.tmp 13) = .pointer (some ⟨g, 0, none⟩) := by rw [← ha0]; rfl
  have hsz0 : a0.tmps.size = 155 := by rw [← ha0]; rfl
  have HA0 := hid ha0
  clear ha0
  refine wp_region_Q 155 hsz0 (by kernel_rfl) (by kernel_rfl) [37, 38, 39, 40, 41, 16, 161] (by kernel_rfl) (by decide) (fun k => (New u3_1 wB k)) (fun k j => (k = 0 ∧ ((New u3_1 wB j)))) (fun _ _ h => h.2) [qi (.pointer (some ⟨g, 0, none⟩)), qi (.agg #[.int .i64 a, .int .i64 b]), qi (hv h), qi (.slice aop bs.length capp), qi ((cm1 a b h bs).val), qa, qa] ⟨qi_stable, qi_stable, qi_stable, qi_stable, qi_stable, qa_stable, qa_stable, trivial⟩ [4] (by kernel_rfl) (by decide) (by kernel_rfl) [⟨5, 6, 32, [.int .i64 0, .int .i64 0, .int .u8 0, .int .u8 0, .int .u8 0, .int .u8 0, .int .u8 0, .int .u8 0, .int .u8 0, .int .u8 0, .int .u8 0, .int .u8 0, .int .u8 0, .int .u8 0, .int .u8 0, .int .u8 0, .int .u8 0, .int .u8 0, .int .u8 0, .int .u8 0, .int .u8 0, .int .u8 0, .int .u8 0, .int .u8 0, .int .u8 0, .int .u8 0, .int .u8 0, .int .u8 0, .int .u8 0, .int .u8 0, .int .u8 0, .int .u8 0, .int .u8 0, .int .u8 0, .int .i64 0, .int .i64 0, .int .i64 0], 0, (fun t => (cm1 a b h bs).cells)⟩] (by kernel_rfl) (by intro r hr; simp only [List.mem_cons, List.not_mem_nil, or_false] at hr; rcases hr with rfl <;> exact ⟨by kernel_rfl, by kernel_rfl⟩) (by intro r hr; simp only [List.mem_cons, List.not_mem_nil, or_false] at hr; rcases hr with rfl <;> exact ⟨of_decide_eq_true (by kernel_rfl), of_decide_eq_true (by kernel_rfl)⟩) (by intro r hr; simp only [List.mem_cons, List.not_mem_nil, or_false] at hr; rcases hr with rfl <;> exact fun _ _ _ _ => ⟨trivial, trivial⟩) ⟨?_, ?_, ?_, ?_, ?_, ?_, ?_, trivial⟩ ?_
  · exact stq (fun E => ex_move rfl (E.v oe13))
  · exact stq (fun E => ex_loadA rfl Try.underlying26 rfl (off := 0) (cs := [.int .i64 a, .int .i64 b]) (by kernel_rfl) (E.v oe6) (Cs.whole ((Hx14.out.mod Cx19.out (fun h => h)).mod E.m (by intro h2; omega))))
  · exact stq (fun E => ex_loadA rfl Try.underlying28 rfl (off := 0) (cs := h.map bv) (by rw [List.length_map, HH.out.1]; exact size_hash) (E.v oe7) (Cs.whole ((Hx15.out.mod Cx19.out (fun h => h)).mod E.m (by intro h2; omega))))
  · exact stq (fun E => ex_move rfl (E.v oe2))
  · exact stepq_chain rfl
  · exact stepq_make rfl rfl ⟨rfl, rfl, by kernel_rfl, by kernel_rfl⟩
  · refine stepq_write rfl rfl rfl ⟨rfl, 16, (.tmp 41), rfl, by decide, rfl, by kernel_rfl, fun Z tr act w' hm hout hsz hd hpre => ?_⟩
    have h4 := hd ⟨4, .data⟩ (by simp) rfl _ rfl
    exact ⟨Nat.zero_le _, (by rw [show act.eval ((.tmp 41)) = _ from h4]; rfl), (by rw [Cm.len (shaF_len _)]; rfl), (Cm.one _)⟩
  intro u8_0 hr
  have zu8_0 := hr.size
  have Cx21 := hid (hr.new (S := (fun k => (New u3_1 wB k))))
  have Hx22 := hid ((Hx18.out.mod Cx19.out (fun _ _ h => h)).mod hr (by intro k h1 h2; omega))
  clear Hx18
  clear hr
  refine QChain.go fun Z act E => ?_
  refine qc_callF (args := #[.pointer (some ⟨g, 0, none⟩), .agg #[.int .i64 a, .int .i64 b], hv h, .slice aop bs.length capp]) rfl (wanted_none rfl) rfl Try.func19 (args4 (E.d 0) (E.d 1) (E.d 2) (E.d 3)) ((by have hq := Make_Q Hx22.out (by decide) a b h bs IA.out ISA.out IB.out HH.out ((Hx17.out.mod Cx19.out (fun _ _ h => h)).mod Cx21.out (by intro k h1 h2; omega)).rd (Nat.le_trans HPL.out (by decide)); rw [mkCm_nil, mkBook_nil] at hq; exact hq)) ?_
  rintro e u8_1a ⟨rfl, qbk, hm⟩
  have zu8_1a := hm.size
  refine ⟨_, rfl, hm.mono (by intro k hk h; omega), (fun _ => rfl), ?_⟩
  intro u8_1 hr
  have zu8_1 := hr.size
  have Hx23 := hid (qbk.mod hr (by intro k h1 h2; omega))
  have Cx24 := hid (Cx21.out.goM hm hr (fun _ _ h => h))
  clear Cx21 hm hr Z act E qbk Hx22
  refine QChain.nil fun vs hl hzz hrows hne => ?_
  obtain ⟨Z, hYZ, hZb, hV⟩ := hzz
  obtain ⟨qx, g5, hBqx, hYqx, hCqx⟩ := hrows _ (by simp only [List.mem_cons, List.not_mem_nil, or_false]; trivial)
  have f5 : gw vs 5 = _ := getv g5
  (try dsimp only at hBqx hYqx); (try simp only [false_or] at hBqx hYqx)
  have zqqx := hCqx.lt
  have Hx25 := hid (show Cs u8_1 qx ((cm1 a b h bs).cells : List Value).toArray 32 from hCqx)
  have f0 := fvi hV hl 0
  have f3 := fvi hV hl 3
  have f4 := fvi hV hl 4
  rw [show vs = [gw vs 0, gw vs 1, gw vs 2, gw vs 3, gw vs 4, gw vs 5, gw vs 6] from (gw_eta hl).trans rfl]
  have ha0 := HA0.out
  subst ha0
  clear HA0 hV hYZ hZb hsz0 hrows hne oe2 oe6 oe7 oe13 hCqx g5
  simp only [putAll, Act.put, List.setIfInBounds_toArray, List.set_cons_zero, List.set_cons_succ, List.set_nil, f5, f0, f3, f4]
  clear hl f5 f0 f3 f4
  go_upto_region 9 with (fail)
  generalize ha0 : Act.mk _ _ = a0
  have oe2 : a0.eval (.tmp 2) = .slice aop bs.length capp := by rw [← ha0]; rfl
  have oe6 : a0.eval (.tmp 6) = .pointer (some ⟨w.heap.size, 0, none⟩) := by rw [← ha0]; rfl
  have oe7 : a0.eval (.tmp 7) = .pointer (some ⟨w.heap.size + 1, 0, none⟩) := by rw [← ha0]; rfl
  have oe14 : a0.eval (.tmp 14) = .pointer (some ⟨wB.heap.size, 0, none⟩) := by rw [← ha0]; rfl
  have hsz0 : a0.tmps.size = 155 := by rw [← ha0]; rfl
  have HA0 := hid ha0
  clear ha0
  refine wp_region_Q 155 hsz0 (by kernel_rfl) (by kernel_rfl) [42, 43, 44, 45, 46, 17, 161] (by kernel_rfl) (by decide) (fun k => (k = wB.heap.size)) (fun k j => (k = 0 ∧ ((j = wB.heap.size)))) (fun _ _ h => h.2) [qi (.pointer (some ⟨wB.heap.size, 0, none⟩)), qi (.agg #[.int .i64 a, .int .i64 b]), qi (hv h), qi (.slice aop bs.length capp), qi ((cm1 a b h bs).val), qa, qa] ⟨qi_stable, qi_stable, qi_stable, qi_stable, qi_stable, qa_stable, qa_stable, trivial⟩ [4] (by kernel_rfl) (by decide) (by kernel_rfl) [⟨5, 6, 32, [.int .i64 0, .int .i64 0, .int .u8 0, .int .u8 0, .int .u8 0, .int .u8 0, .int .u8 0, .int .u8 0, .int .u8 0, .int .u8 0, .int .u8 0, .int .u8 0, .int .u8 0, .int .u8 0, .int .u8 0, .int .u8 0, .int .u8 0, .int .u8 0, .int .u8 0, .int .u8 0, .int .u8 0, .int .u8 0, .int .u8 0, .int .u8 0, .int .u8 0, .int .u8 0, .int .u8 0, .int .u8 0, .int .u8 0, .int .u8 0, .int .u8 0, .int .u8 0, .int .u8 0, .int .u8 0, .int .i64 0, .int .i64 0, .int .i64 0], 0, (fun t => (cm1 a b h bs).cells)⟩] (by kernel_rfl) (by intro r hr; simp only [List.mem_cons, List.not_mem_nil, or_false] at hr; rcases hr with rfl <;> exact ⟨by kernel_rfl, by kernel_rfl⟩) (by intro r hr; simp only [List.mem_cons, List.not_mem_nil, or_false] at hr; rcases hr with rfl <;> exact ⟨of_decide_eq_true (by kernel_rfl), of_decide_eq_true (by kernel_rfl)⟩) (by intro r hr; simp only [List.mem_cons, List.not_mem_nil, or_false] at hr; rcases hr with rfl <;> exact fun _ _ _ _ => ⟨trivial, trivial⟩) ⟨?_, ?_, ?_, ?_, ?_, ?_, ?_, trivial⟩ ?_
  · exact stq (fun E => ex_move rfl (E.v oe14))
  · exact stq (fun E => ex_loadA rfl Try.underlying26 rfl (off := 0) (cs := [.int .i64 a, .int .i64 b]) (by kernel_rfl) (E.v oe6) (Cs.whole (((Hx14.out.mod Cx19.out (fun h => h)).mod Cx24.out (by intro h2; omega)).mod E.m (by intro h2; omega))))
  · exact stq (fun E => ex_loadA rfl Try.underlying28 rfl (off := 0) (cs := h.map bv) (by rw [List.length_map, HH.out.1]; exact size_hash) (E.v oe7) (Cs.whole (((Hx15.out.mod Cx19.out (fun h => h)).mod Cx24.out (by intro h2; omega)).mod E.m (by intro h2; omega))))
  · exact stq (fun E => ex_move rfl (E.v oe2))
  · exact stepq_chain rfl
  · exact stepq_make rfl rfl ⟨rfl, rfl, by kernel_rfl, by kernel_rfl⟩
  · refine stepq_write rfl rfl rfl ⟨rfl, 17, (.tmp 46), rfl, by decide, rfl, by kernel_rfl, fun Z tr act w' hm hout hsz hd hpre => ?_⟩
    have h4 := hd ⟨4, .data⟩ (by simp) rfl _ rfl
    exact ⟨Nat.zero_le _, (by rw [show act.eval ((.tmp 46)) = _ from h4]; rfl), (by rw [Cm.len (shaF_len _)]; rfl), (Cm.one _)⟩
  intro u9_0 hr
  have zu9_0 := hr.size
  have Cx26 := hid (hr.new (S := (fun k => (k = wB.heap.size))))
  have Hx27 := hid (((HRB.out.mod Cx19.out (fun h => h)).mod Cx24.out (by intro h2; omega)).mod hr (by intro h2; omega))
  clear HRB
  clear hr
  refine QChain.go fun Z act E => ?_
  refine qc_callF (args := #[.pointer (some ⟨wB.heap.size, 0, none⟩), .agg #[.int .i64 a, .int .i64 b], hv h, .slice aop bs.length capp]) rfl (wanted_none rfl) rfl Try.func20 (args4 (E.d 0) (E.d 1) (E.d 2) (E.d 3)) (RefMake_E Hx27.out a b h bs IA.out ISA.out IB.out HH.out (((Hx17.out.mod Cx19.out (fun _ _ h => h)).mod Cx24.out (by intro k h1 h2; omega)).mod Cx26.out (by intro k h1 h2; omega)).rd (Nat.le_trans HPL.out (by decide))) ?_
  rintro e u9_1a ⟨rfl, qrb, hm⟩
  have zu9_1a := hm.size
  refine ⟨_, rfl, hm.mono (by intro k hk h; omega), (fun _ => rfl), ?_⟩
  intro u9_1 hr
  have zu9_1 := hr.size
  have Hx28 := hid ((qrb.widen (R' := (fun k => (k = wB.heap.size) ∨ (New u9_0 u9_1a k))) (fun _ h => h)).mod hr (by intro k h1 h2; omega))
  have Cx29 := hid (Cx26.out.goM hm hr (fun _ _ h => h))
  clear Cx26 hm hr Z act E qrb Hx27
  refine QChain.nil fun vs hl hzz hrows hne => ?_
  obtain ⟨Z, hYZ, hZb, hV⟩ := hzz
  obtain ⟨qy, g5, hBqy, hYqy, hCqy⟩ := hrows _ (by simp only [List.mem_cons, List.not_mem_nil, or_false]; trivial)
  have f5 : gw vs 5 = _ := getv g5
  (try dsimp only at hBqy hYqy); (try simp only [false_or] at hBqy hYqy)
  have zqqy := hCqy.lt
  have Hx30 := hid (show Cs u9_1 qy ((cm1 a b h bs).cells : List Value).toArray 32 from hCqy)
  have f0 := fvi hV hl 0
  have f3 := fvi hV hl 3
  have f4 := fvi hV hl 4
  rw [show vs = [gw vs 0, gw vs 1, gw vs 2, gw vs 3, gw vs 4, gw vs 5, gw vs 6] from (gw_eta hl).trans rfl]
  have ha0 := HA0.out
  subst ha0
  clear HA0 hV hYZ hZb hsz0 hrows hne oe2 oe6 oe7 oe14 hCqy g5
  simp only [putAll, Act.put, List.setIfInBounds_toArray, List.set_cons_zero, List.set_cons_succ, List.set_nil, f5, f0, f3, f4]
  clear hl f5 f0 f3 f4
  go_upto_region 10 with (fail)
  generalize ha0 : Act.mk _ _ = a0
  have oe5 : a0.eval (.tmp 5) = .int .i64 (1 + c0) := by rw [← ha0]; rfl
  have oe6 : a0.eval (.tmp 6) = .pointer (some ⟨w.heap.size, 0, none⟩) := by rw [← ha0]; rfl
  have oe13 : a0.eval (.tmp 13) = .pointer (some ⟨g, 0, none⟩) := by rw [← ha0]; rfl
  have oe14 : a0.eval (.tmp 14) = .pointer (some ⟨wB.heap.size, 0, none⟩) := by rw [← ha0]; rfl
  have oe15 : a0.eval (.tmp 15) = .pointer (some ⟨qf, 0, none⟩) := by rw [← ha0]; rfl
  have oe16 : a0.eval (.tmp 16) = .pointer (some ⟨qx, 0, none⟩) := by rw [← ha0]; rfl
  have oe17 : a0.eval (.tmp 17) = .pointer (some ⟨qy, 0, none⟩) := by rw [← ha0]; rfl
  have hsz0 : a0.tmps.size = 155 := by rw [← ha0]; rfl
  have HA0 := hid ha0
  clear ha0
  refine wp_region_Q0 155 hsz0 [47, 48, 49, 50, 51, 52, 53, 54, 55, 56, 57, 58, 59, 60, 61, 62, 63, 64, 65, 66, 67, 68, 69, 70, 71, 72, 73, 74, 75, 76] [qi ((cm1 a b h bs).val), qi ((cm1 a b h bs).val), qi (.bool false), qi (.bool false), qi (.agg #[.int .i64 1, .int .i64 (1 + c0)]), qi (.pointer (some ⟨g, 0, none⟩)), qi ((cm1 a b h bs).val), qi (.bool (rightC [mkKey a b h bs] (1 + c0) (cm1 a b h bs))), qi (.agg #[.int .i64 1, .int .i64 (1 + c0)]), qi (.pointer (some ⟨wB.heap.size, 0, none⟩)), qi ((cm1 a b h bs).val), qi (.bool (rightC [mkKey a b h bs] (1 + c0) (cm1 a b h bs))), qi (.bool false), qi (.bool false), qi (.bool false), qi (.agg #[.int .i64 1, .int .i64 (1 + c0)]), qi (.pointer (some ⟨g, 0, none⟩)), qi ((cm1 a b h bs).val), qi (.bool (rightC [mkKey a b h bs] (1 + c0) (cm1 a b h bs))), qi (.pointer (some ⟨w.heap.size, 0, none⟩)), qi (.int .i64 a), qi (.int .i64 (1 + c0)), qi (.bool (decide (a < (1 + c0)))), qi (.bool (decide (a < (1 + c0)))), qc (decide (a < (1 + c0))) (qi (.pointer (some ⟨w.heap.size, 1, none⟩))), qc (decide (a < (1 + c0))) (qi (.int .i64 b)), qc (decide (a < (1 + c0))) (qi (.bool (decide (1 ≤ b)))), qi (.bool ((decide (a < (1 + c0))) && (decide (1 ≤ b)))), qi (.bool false), qi (.bool false)] ⟨qi_stable, qi_stable, qi_stable, qi_stable, qi_stable, qi_stable, qi_stable, qi_stable, qi_stable, qi_stable, qi_stable, qi_stable, qi_stable, qi_stable, qi_stable, qi_stable, qi_stable, qi_stable, qi_stable, qi_stable, qi_stable, qi_stable, qi_stable, qi_stable, (qc_stable qi_stable), (qc_stable qi_stable), (qc_stable qi_stable), qi_stable, qi_stable, qi_stable, trivial⟩ [7, 11, 18] ⟨?_, ?_, ?_, ?_, ?_, ?_, ?_, ?_, ?_, ?_, ?_, ?_, ?_, ?_, ?_, ?_, ?_, ?_, ?_, ?_, ?_, ?_, ?_, ?_, ?_, ?_, ?_, ?_, ?_, ?_, trivial⟩ ?_
  · exact stq (fun E => ex_loadA rfl Try.underlying32 rfl (off := 0) (cs := (cm1 a b h bs).cells) (by rw [Cm.len HO1.out.2.1]; exact size_commit) (E.v oe16) (Cs.whole ((Hx25.out.mod Cx29.out (by intro h2; omega)).mod E.m.old (by intro h2; omega))))
  · exact stq (fun E => ex_loadA rfl Try.underlying32 rfl (off := 0) (cs := (cm1 a b h bs).cells) (by rw [Cm.len HO1.out.2.1]; exact size_commit) (E.v oe17) (Cs.whole (Hx30.out.mod E.m.old (by intro h2; omega))))
  · exact stq (fun E => ex_binE rfl (E.d 0) (E.d 1) (agg_guard _ _ _ _ _ _ (by kernel_rfl) _) (EqW.runN eqW_commit (ki_cm (shaF_len _)) (ki_cm (shaF_len _)) (c := true) (by simp) _) rfl)
  · exact stq (fun E => ex_move rfl (E.d 2))
  · refine stepq_env rfl rfl rfl fun _ _ _ _ _ hm _ hout hsz hd _ _ => ?_
    have h3 := hd ⟨3, .guard⟩ (by simp) rfl _ rfl
    refine qe_run rfl ((wanted_of rfl rfl (hsz 50 (by decide)) h3).trans rfl) (ex_loadA rfl Try.underlying24 rfl (off := 0) (cs := [.int .i64 1, .int .i64 (1 + c0)]) (by kernel_rfl) ((hout 15 (by decide)).trans oe15) (Cs.whole (((Hx20.out.mod Cx24.out (by intro h2; omega)).mod Cx29.out (by intro h2; omega)).mod hm.old (by intro h2; omega)))) QE.refl ?_
    rfl
  · refine stepq_env rfl rfl rfl fun _ _ _ _ _ _ _ hout hsz hd _ _ => ?_
    have h3 := hd ⟨3, .guard⟩ (by simp) rfl _ rfl
    refine qe_run rfl ((wanted_of rfl rfl (hsz 50 (by decide)) h3).trans rfl) (ex_move rfl ((hout 13 (by decide)).trans oe13)) QE.refl ?_
    rfl
  · refine stepq_env rfl rfl rfl fun _ _ _ _ _ hm _ hout hsz hd _ _ => ?_
    have h3 := hd ⟨3, .guard⟩ (by simp) rfl _ rfl
    refine qe_run rfl ((wanted_of rfl rfl (hsz 50 (by decide)) h3).trans rfl) (ex_loadA rfl Try.underlying32 rfl (off := 0) (cs := (cm1 a b h bs).cells) (by rw [Cm.len HO1.out.2.1]; exact size_commit) ((hout 16 (by decide)).trans oe16) (Cs.whole ((Hx25.out.mod Cx29.out (by intro h2; omega)).mod hm.old (by intro h2; omega)))) QE.refl ?_
    rfl
  · exact stepq_chain rfl
  · refine stepq_env rfl rfl rfl fun _ _ _ _ _ hm _ hout hsz hd _ _ => ?_
    have h3 := hd ⟨3, .guard⟩ (by simp) rfl _ rfl
    refine qe_run rfl ((wanted_of rfl rfl (hsz 50 (by decide)) h3).trans rfl) (ex_loadA rfl Try.underlying24 rfl (off := 0) (cs := [.int .i64 1, .int .i64 (1 + c0)]) (by kernel_rfl) ((hout 15 (by decide)).trans oe15) (Cs.whole (((Hx20.out.mod Cx24.out (by intro h2; omega)).mod Cx29.out (by intro h2; omega)).mod hm.old (by intro h2; omega)))) QE.refl ?_
    rfl
  · refine stepq_env rfl rfl rfl fun _ _ _ _ _ _ _ hout hsz hd _ _ => ?_
    have h3 := hd ⟨3, .guard⟩ (by simp) rfl _ rfl
    refine qe_run rfl ((wanted_of rfl rfl (hsz 50 (by decide)) h3).trans rfl) (ex_move rfl ((hout 14 (by decide)).trans oe14)) QE.refl ?_
    rfl
  · refine stepq_env rfl rfl rfl fun _ _ _ _ _ hm _ hout hsz hd _ _ => ?_
    have h3 := hd ⟨3, .guard⟩ (by simp) rfl _ rfl
    refine qe_run rfl ((wanted_of rfl rfl (hsz 50 (by decide)) h3).trans rfl) (ex_loadA rfl Try.underlying32 rfl (off := 0) (cs := (cm1 a b h bs).cells) (by rw [Cm.len HO1.out.2.1]; exact size_commit) ((hout 17 (by decide)).trans oe17) (Cs.whole (Hx30.out.mod hm.old (by intro h2; omega)))) QE.refl ?_
    rfl
  · exact stepq_chain rfl
  · refine stepq_env rfl rfl rfl fun _ _ _ _ _ _ _ _ hsz hd _ _ => ?_
    have h3 := hd ⟨3, .guard⟩ (by simp) rfl _ rfl
    have h7 := hd ⟨7, .data⟩ (by simp) rfl _ rfl
    have h11 := hd ⟨11, .data⟩ (by simp) rfl _ rfl
    refine qe_run rfl ((wanted_of rfl rfl (hsz 50 (by decide)) h3).trans rfl) (ex_binE rfl h7 h11 (guard_bools _ _ _ _ _ _) (run_neq_bools _ _ _ Try.underlying4) (congrArg Value.bool (show (!((rightC [mkKey a b h bs] (1 + c0) (cm1 a b h bs)) == (rightC [mkKey a b h bs] (1 + c0) (cm1 a b h bs)))) = false by simp))) QE.refl ?_
    rfl
  · exact stq (fun E => ex_pick rfl (E.d 3) rfl (E.d 12))
  · exact stq (fun E => ex_move rfl (E.d 13))
  · refine stepq_env rfl rfl rfl fun _ _ _ _ _ hm _ hout hsz hd _ _ => ?_
    have h14 := hd ⟨14, .guard⟩ (by simp) rfl _ rfl
    refine qe_run rfl ((wanted_of rfl rfl (hsz 61 (by decide)) h14).trans rfl) (ex_loadA rfl Try.underlying24 rfl (off := 0) (cs := [.int .i64 1, .int .i64 (1 + c0)]) (by kernel_rfl) ((hout 15 (by decide)).trans oe15) (Cs.whole (((Hx20.out.mod Cx24.out (by intro h2; omega)).mod Cx29.out (by intro h2; omega)).mod hm.old (by intro h2; omega)))) QE.refl ?_
    rfl
  · refine stepq_env rfl rfl rfl fun _ _ _ _ _ _ _ hout hsz hd _ _ => ?_
    have h14 := hd ⟨14, .guard⟩ (by simp) rfl _ rfl
    refine qe_run rfl ((wanted_of rfl rfl (hsz 61 (by decide)) h14).trans rfl) (ex_move rfl ((hout 13 (by decide)).trans oe13)) QE.refl ?_
    rfl
  · refine stepq_env rfl rfl rfl fun _ _ _ _ _ hm _ hout hsz hd _ _ => ?_
    have h14 := hd ⟨14, .guard⟩ (by simp) rfl _ rfl
    refine qe_run rfl ((wanted_of rfl rfl (hsz 61 (by decide)) h14).trans rfl) (ex_loadA rfl Try.underlying32 rfl (off := 0) (cs := (cm1 a b h bs).cells) (by rw [Cm.len HO1.out.2.1]; exact size_commit) ((hout 16 (by decide)).trans oe16) (Cs.whole ((Hx25.out.mod Cx29.out (by intro h2; omega)).mod hm.old (by intro h2; omega)))) QE.refl ?_
    rfl
  · exact stepq_chain rfl
  · refine stepq_env rfl rfl rfl fun _ _ _ _ _ _ _ hout hsz hd _ _ => ?_
    have h14 := hd ⟨14, .guard⟩ (by simp) rfl _ rfl
    refine qe_run rfl ((wanted_of rfl rfl (hsz 61 (by decide)) h14).trans rfl) (ex_field rfl Try.underlying26 rfl (by kernel_rfl) ((hout 6 (by decide)).trans oe6)) QE.refl ?_
    rfl
  · refine stepq_env rfl rfl rfl fun _ _ _ _ _ hm _ _ hsz hd _ _ => ?_
    have h14 := hd ⟨14, .guard⟩ (by simp) rfl _ rfl
    have h19 := hd ⟨19, .data⟩ (by simp) rfl _ rfl
    refine qe_run rfl ((wanted_of rfl rfl (hsz 61 (by decide)) h14).trans rfl) (ex_load1 rfl Try.underlying3 rfl h19 (Cs.lit1 ((((Hx14.out.mod Cx19.out (fun h => h)).mod Cx24.out (by intro h2; omega)).mod Cx29.out (by intro h2; omega)).mod hm.old (by intro h2; omega)) rfl)) QE.refl ?_
    rfl
  · refine stepq_env rfl rfl rfl fun _ _ _ _ _ _ _ hout hsz hd _ _ => ?_
    have h14 := hd ⟨14, .guard⟩ (by simp) rfl _ rfl
    refine qe_run rfl ((wanted_of rfl rfl (hsz 61 (by decide)) h14).trans rfl) (ex_move rfl ((hout 5 (by decide)).trans oe5)) QE.refl ?_
    rfl
  · refine stepq_env rfl rfl rfl fun _ _ _ _ _ _ _ _ hsz hd _ _ => ?_
    have h14 := hd ⟨14, .guard⟩ (by simp) rfl _ rfl
    have h20 := hd ⟨20, .data⟩ (by simp) rfl _ rfl
    have h21 := hd ⟨21, .data⟩ (by simp) rfl _ rfl
    refine qe_run rfl ((wanted_of rfl rfl (hsz 61 (by decide)) h14).trans rfl) (ex_bin rfl h20 h21 (guard_ints _ _ _ _ _ _) (run_lss_i _ _ _ Try.underlying3)) QE.refl ?_
    rfl
  · refine stepq_env rfl rfl rfl fun _ _ _ _ _ _ _ _ hsz hd _ _ => ?_
    have h14 := hd ⟨14, .guard⟩ (by simp) rfl _ rfl
    have h22 := hd ⟨22, .data⟩ (by simp) rfl _ rfl
    refine qe_run rfl ((wanted_of rfl rfl (hsz 61 (by decide)) h14).trans rfl) (ex_move rfl h22) QE.refl ?_
    rfl
  · refine stepq_env rfl rfl rfl fun _ _ _ _ _ _ _ hout hsz hd _ _ => ?_
    have h23 := hd ⟨23, .guard⟩ (by simp) rfl _ rfl
    refine qe_guard rfl (b := (decide (a < (1 + c0)))) ((wanted_of rfl rfl (hsz 70 (by decide)) h23).trans (by simp)) rfl (fun hb l' hl' => ?_)
    refine qe_run rfl ((wanted_of rfl rfl (hsz 70 (by decide)) h23).trans (by first | exact hb | simpa using hb)) (ex_field rfl Try.underlying26 rfl (by kernel_rfl) ((hout 6 (by decide)).trans oe6)) QE.refl ?_
    rw [hl']; rfl
  · refine stepq_env rfl rfl rfl fun _ _ _ _ _ hm _ _ hsz hd _ _ => ?_
    have h23 := hd ⟨23, .guard⟩ (by simp) rfl _ rfl
    have h24 := hd ⟨24, .data⟩ (by simp) rfl _ rfl
    refine qe_guard rfl (b := (decide (a < (1 + c0)))) ((wanted_of rfl rfl (hsz 70 (by decide)) h23).trans (by simp)) rfl (fun hb l' hl' => ?_)
    refine qe_run rfl ((wanted_of rfl rfl (hsz 70 (by decide)) h23).trans (by first | exact hb | simpa using hb)) (ex_load1 rfl Try.underlying3 rfl (h24.1 hb) (Cs.lit1 ((((Hx14.out.mod Cx19.out (fun h => h)).mod Cx24.out (by intro h2; omega)).mod Cx29.out (by intro h2; omega)).mod hm.old (by intro h2; omega)) rfl)) QE.refl ?_
    rw [hl']; rfl
  · refine stepq_env rfl rfl rfl fun _ _ _ _ _ _ _ _ hsz hd _ _ => ?_
    have h23 := hd ⟨23, .guard⟩ (by simp) rfl _ rfl
    have h25 := hd ⟨25, .data⟩ (by simp) rfl _ rfl
    refine qe_guard rfl (b := (decide (a < (1 + c0)))) ((wanted_of rfl rfl (hsz 70 (by decide)) h23).trans (by simp)) rfl (fun hb l' hl' => ?_)
    refine qe_run rfl ((wanted_of rfl rfl (hsz 70 (by decide)) h23).trans (by first | exact hb | simpa using hb)) (ex_bin rfl (h25.1 hb) rfl (guard_ints _ _ _ _ _ _) (run_geq_i _ _ _ Try.underlying3)) QE.refl ?_
    rw [hl']; rfl
  · refine stepq_env rfl rfl rfl fun _ _ _ _ _ _ _ _ hsz hd _ _ => ?_
    have h14 := hd ⟨14, .guard⟩ (by simp) rfl _ rfl
    have h23 := hd ⟨23, .data⟩ (by simp) rfl _ rfl
    have h26 := hd ⟨26, .data⟩ (by simp) rfl _ rfl
    refine qe_run rfl ((wanted_of rfl rfl (hsz 61 (by decide)) h14).trans rfl) (ex_pickE rfl h23 rfl rfl (and_val fun hb => h26.1 hb)) QE.refl ?_
    rfl
  · refine stepq_env rfl rfl rfl fun _ _ _ _ _ _ _ _ hsz hd _ _ => ?_
    have h14 := hd ⟨14, .guard⟩ (by simp) rfl _ rfl
    have h18 := hd ⟨18, .data⟩ (by simp) rfl _ rfl
    have h27 := hd ⟨27, .data⟩ (by simp) rfl _ rfl
    refine qe_run rfl ((wanted_of rfl rfl (hsz 61 (by decide)) h14).trans rfl) (ex_binE rfl h18 h27 (guard_bools _ _ _ _ _ _) (run_neq_bools _ _ _ Try.underlying4) (congrArg Value.bool (show (!((rightC [mkKey a b h bs] (1 + c0) (cm1 a b h bs)) == (decide (a < (1 + c0)) && decide (1 ≤ b)))) = false by rw [HRL.out]; simp))) QE.refl ?_
    rfl
  · exact stq (fun E => ex_pick rfl (E.d 14) rfl (E.d 28))
  intro u10_0 hr
  have zu10_0 := hr.size
  have Cx31 := hid (hr.new (S := (fun _ => False)))
  clear hr
  refine QChain.go fun Z act E => ?_
  refine qc_callF (args := #[.agg #[.int .i64 1, .int .i64 (1 + c0)], .pointer (some ⟨g, 0, none⟩), (cm1 a b h bs).val]) rfl ((wanted_of rfl rfl (E.sz 50 (by decide)) (E.e 3 .chain)).trans rfl) rfl Try.func21 (args3 (E.d 4) (E.d 5) (E.d 6)) (Right_Q ((Hx23.out.mod Cx29.out (by intro k h1 h2; omega)).mod Cx31.out (fun _ _ h => h)) 1 (1 + c0) (cm1 a b h bs) HO1.out ISA.out) ?_
  rintro e u10_1a ⟨rfl, hm⟩
  have zu10_1a := hm.size
  refine ⟨_, rfl, hm.mono (fun _ _ h => h.elim), (fun _ => rfl), ?_⟩
  intro u10_1 hr
  have zu10_1 := hr.size
  have Cx32 := hid (Cx31.out.go hm hr)
  clear Cx31 hm hr Z act E
  refine QChain.go fun Z act E => ?_
  refine qc_callF (args := #[.agg #[.int .i64 1, .int .i64 (1 + c0)], .pointer (some ⟨wB.heap.size, 0, none⟩), (cm1 a b h bs).val]) rfl ((wanted_of rfl rfl (E.sz 50 (by decide)) (E.e 3 .guard)).trans rfl) rfl Try.func22 (args3 (E.d 8) (E.d 9) (E.d 10)) (RefRightC_1 (Hx28.out.mod Cx32.out (fun _ _ h => h)) (by intro k h1; omega) HKY.out 1 (1 + c0) (cm1 a b h bs) HO1.out ISA.out) ?_
  rintro e u10_2a ⟨rfl, hm⟩
  have zu10_2a := hm.size
  refine ⟨_, rfl, hm.mono (fun _ _ h => h.elim), (fun _ => rfl), ?_⟩
  intro u10_2 hr
  have zu10_2 := hr.size
  have Cx33 := hid (Cx32.out.go hm hr)
  clear Cx32 hm hr Z act E
  refine QChain.go fun Z act E => ?_
  refine qc_callF (args := #[.agg #[.int .i64 1, .int .i64 (1 + c0)], .pointer (some ⟨g, 0, none⟩), (cm1 a b h bs).val]) rfl ((wanted_of rfl rfl (E.sz 61 (by decide)) (E.e 14 .chain)).trans rfl) rfl Try.func21 (args3 (E.d 15) (E.d 16) (E.d 17)) (Right_Q ((Hx23.out.mod Cx29.out (by intro k h1 h2; omega)).mod Cx33.out (fun _ _ h => h)) 1 (1 + c0) (cm1 a b h bs) HO1.out ISA.out) ?_
  rintro e u10_3a ⟨rfl, hm⟩
  have zu10_3a := hm.size
  refine ⟨_, rfl, hm.mono (fun _ _ h => h.elim), (fun _ => rfl), ?_⟩
  intro u10_3 hr
  have zu10_3 := hr.size
  have Cx34 := hid (Cx33.out.go hm hr)
  clear Cx33 hm hr Z act E
  refine QChain.nil fun vs hl hzz hrows hne => ?_
  obtain ⟨Z, hYZ, hZb, hV⟩ := hzz
  have f3 := fvi hV hl 3
  have f5 := fvi hV hl 5
  have f7 := fvi hV hl 7
  have f9 := fvi hV hl 9
  have f11 := fvi hV hl 11
  have f14 := fvi hV hl 14
  have f16 := fvi hV hl 16
  have f18 := fvi hV hl 18
  have f21 := fvi hV hl 21
  have f23 := fvi hV hl 23
  have f29 := fvi hV hl 29
  rw [show vs = [gw vs 0, gw vs 1, gw vs 2, gw vs 3, gw vs 4, gw vs 5, gw vs 6, gw vs 7, gw vs 8, gw vs 9, gw vs 10, gw vs 11, gw vs 12, gw vs 13, gw vs 14, gw vs 15, gw vs 16, gw vs 17, gw vs 18, gw vs 19, gw vs 20, gw vs 21, gw vs 22, gw vs 23, gw vs 24, gw vs 25, gw vs 26, gw vs 27, gw vs 28, gw vs 29] from (gw_eta hl).trans rfl]
  have ha0 := HA0.out
  subst ha0
  clear HA0 hV hYZ hZb hsz0 hrows hne oe5 oe6 oe13 oe14 oe15 oe16 oe17
  simp only [putAll, Act.put, List.setIfInBounds_toArray, List.set_cons_zero, List.set_cons_succ, f3, f5, f7, f9, f11, f14, f16, f18, f21, f23, f29]
  clear hl f3 f5 f7 f9 f11 f14 f16 f18 f21 f23 f29
  go_upto_region 12 with (fail)
  generalize ha0 : Act.mk _ _ = a0
  have oe4 : a0.eval (.tmp 4) = .int .i64 by' := by rw [← ha0]; rfl
  have hsz0 : a0.tmps.size = 155 := by rw [← ha0]; rfl
  have HA0 := hid ha0
  clear ha0
  refine wp_region_Q0 155 hsz0 [77, 78, 79, 4] [qi (.int .i64 by'), qi (.int .i64 d0), qi (.int .i64 ((dn : Nat) : Int)), qi (.int .i64 ((dn : Nat) : Int))] ⟨qi_stable, qi_stable, qi_stable, qi_stable, trivial⟩ [] ⟨?_, ?_, ?_, ?_, trivial⟩ ?_
  · exact stq (fun E => ex_move rfl ((E.pre 3 4 rfl (by kernel_rfl)).trans oe4))
  · refine stepq_env rfl rfl rfl fun _ _ _ _ _ _ _ _ _ hd _ _ => ?_
    have h0 := hd ⟨0, .data⟩ (by simp) rfl _ rfl
    refine qe_callF (args := #[.int .i64 by', .int .i64 9]) rfl (wanted_none rfl) rfl Try.func14 (args2 h0 rfl) (ED.out ▸ Within_any by' 9 (by decide) (by decide) HBY.out _) ?_
    rintro e w2 ⟨rfl, rfl⟩
    exact ⟨_, rfl, QE.refl, rfl⟩
  · exact stq (fun E => ex_binE rfl rfl (E.d 1) (guard_ints _ _ _ _ _ _) (run_add_i _ _ Try.underlying3) (congrArg (Value.int .i64) (show IntKind.i64.wrap (1 + d0) = ((dn : Nat) : Int) by rw [IntWalk.i64_in _ (by have := WD.out; omega)]; exact EDN.out.symm)))
  · exact stq (fun E => ex_assign rfl (E.d 2))
  intro u12_0 hr
  have zu12_0 := hr.size
  have Cx35 := hid (hr.new (S := (fun _ => False)))
  clear hr
  refine QChain.nil fun vs hl hzz hrows hne => ?_
  obtain ⟨Z, hYZ, hZb, hV⟩ := hzz
  have f0 := fvi hV hl 0
  have f1 := fvi hV hl 1
  have f3 := fvi hV hl 3
  rw [show vs = [gw vs 0, gw vs 1, gw vs 2, gw vs 3] from (gw_eta hl).trans rfl]
  have ha0 := HA0.out
  subst ha0
  clear HA0 hV hYZ hZb hsz0 hrows hne oe4
  simp only [putAll, Act.put, List.setIfInBounds_toArray, List.set_cons_zero, List.set_cons_succ, f0, f1, f3]
  clear hl f0 f1 f3
  go_upto_region 13 with (fail)
  generalize ha0 : Act.mk _ _ = a0
  have oe3 : a0.eval (.tmp 3) = .int .i64 wh := by rw [← ha0]; rfl
  have hsz0 : a0.tmps.size = 155 := by rw [← ha0]; rfl
  have HA0 := hid ha0
  clear ha0
  refine wp_region_Q0 155 hsz0 [80, 81] [qi (.int .i64 wh), qi (.int .i64 e0)] ⟨qi_stable, qi_stable, trivial⟩ [] ⟨?_, ?_, trivial⟩ ?_
  · exact stq (fun E => ex_move rfl (E.v oe3))
  · refine stepq_env rfl rfl rfl fun _ _ _ _ _ _ _ _ _ hd _ _ => ?_
    have h0 := hd ⟨0, .data⟩ (by simp) rfl _ rfl
    refine qe_callF (args := #[.int .i64 wh, .int .i64 7]) rfl (wanted_none rfl) rfl Try.func14 (args2 h0 rfl) (EE.out ▸ Within_any wh 7 (by decide) (by decide) HWH.out _) ?_
    rintro e w2 ⟨rfl, rfl⟩
    exact ⟨_, rfl, QE.refl, rfl⟩
  intro u13_0 hr
  have zu13_0 := hr.size
  have Cx36 := hid (hr.new (S := (fun _ => False)))
  clear hr
  refine QChain.nil fun vs hl hzz hrows hne => ?_
  obtain ⟨Z, hYZ, hZb, hV⟩ := hzz
  have f0 := fvi hV hl 0
  have f1 := fvi hV hl 1
  rw [show vs = [gw vs 0, gw vs 1] from (gw_eta hl).trans rfl]
  have ha0 := HA0.out
  subst ha0
  clear HA0 hV hYZ hZb hsz0 hrows hne oe3
  simp only [putAll, Act.put, List.setIfInBounds_toArray, List.set_cons_zero, List.set_cons_succ, f0, f1]
  clear hl f0 f1
  have hcase : e0 = 0 ∨ e0 = 1 ∨ e0 = 2 ∨ e0 = 3 ∨ e0 = 4 ∨ e0 = 5 ∨ e0 = 6 := by have := WE.out; omega
  have hdn : 1 ≤ dn ∧ dn ≤ 9 := by have := WD.out; have := EDN.out; omega
  have HDN := Lib.hid hdn
  clear hdn
  rcases hcase with rfl | rfl | rfl | rfl | rfl | rfl | rfl
  · skip
    obtain ⟨c2, ec2⟩ : ∃ c, c = ({ (cm1 a b h bs) with sq := b + ((dn : Nat) : Int) } : Cm) := ⟨_, rfl⟩
    have HO2 := hid (show c2.OK by rw [ec2]; exact ⟨⟨IA.out, (by have := WB.out; have := HDN.out; unfold I64; show _ ≤ b + _ ∧ b + _ ≤ _; omega), HO1.out.1.2.2⟩, HO1.out.2⟩)
    have HBD := hid (show rightC [mkKey a b h bs] (1 + c0) c2 = false by rw [ec2]; exact bad_sq (k := 1 + c0) WB.out.1 (by have := HDN.out; omega))
    have HS2 := hid (show I64 (1000 + c2.cl) by rw [ec2]; exact ISA.out)
    have HCX := Lib.hid ec2
    clear ec2
    go_upto_region 16 with (fail)
    generalize ha0 : Act.mk _ _ = a0
    have oe4 : a0.eval (.tmp 4) = .int .i64 ((dn : Nat) : Int) := by rw [← ha0]; rfl
    have oe16 : a0.eval (.tmp 16) = .pointer (some ⟨qx, 0, none⟩) := by rw [← ha0]; rfl
    have hsz0 : a0.tmps.size = 155 := by rw [← ha0]; rfl
    have HA0 := hid ha0
    clear ha0
    refine wp_region_Q1 155 hsz0 [86, 87, 88, 89, 90, 91, 92, 162] (fun k => (k = qx)) (fun k j => (k = 0 ∧ ((j = qx)))) (fun _ _ h => h.2) [qi (.pointer (some ⟨qx, 0, none⟩)), qi (.pointer (some ⟨qx, 1, none⟩)), qi (.int .i64 (cm1 a b h bs).sq), qi (.int .i64 ((dn : Nat) : Int)), qi (.int .i64 (b + ((dn : Nat) : Int))), qi (.pointer (some ⟨qx, 0, none⟩)), qi (.pointer (some ⟨qx, 1, none⟩)), qv 0] ⟨qi_stable, qi_stable, qi_stable, qi_stable, qi_stable, qi_stable, qi_stable, qv_stable, trivial⟩ [7] ⟨?_, ?_, ?_, ?_, ?_, ?_, ?_, ?_, trivial⟩ ?_
    · exact stq (fun E => ex_field rfl Try.underlying32 rfl (by kernel_rfl) (E.v oe16))
    · exact stq (fun E => ex_field rfl Try.underlying26 rfl (by kernel_rfl) (E.d 0))
    · refine stepq_env rfl rfl rfl fun _ _ _ _ _ _ hm0 _ _ hd hub _ => ?_
      have h1 := hd ⟨1, .data⟩ (by simp) rfl _ rfl
      refine qe_run rfl (wanted_none rfl) (ex_load1 rfl Try.underlying3 rfl h1 ((((((Hx25.out.mod Cx29.out (by intro h2; omega)).mod Cx34.out (fun h => h)).mod Cx35.out (fun h => h)).mod Cx36.out (fun h => h)).mod hm0 (by intro h2; have hu := hub 0 7 rfl (by kernel_rfl); rcases h2 with ⟨h0, kk, hk, h2⟩ | h2 <;> omega)).c1)) QE.refl ?_
      rfl
    · exact stq (fun E => ex_move rfl (E.v oe4))
    · exact stq (fun E => ex_binE rfl (E.d 2) (E.d 3) (guard_ints _ _ _ _ _ _) (run_add_i _ _ Try.underlying3) (congrArg (Value.int .i64) (show IntKind.i64.wrap (b + ((dn : Nat) : Int)) = _ from IntWalk.i64_in _ (by have := WB.out; have := HDN.out; omega))))
    · exact stq (fun E => ex_field rfl Try.underlying32 rfl (by kernel_rfl) (E.v oe16))
    · exact stq (fun E => ex_field rfl Try.underlying26 rfl (by kernel_rfl) (E.d 5))
    · exact stepq_chain rfl
    intro u16_0 hr
    have zu16_0 := hr.size
    have Cx37 := hid (hr.new (S := (fun k => (k = qx))))
    have Hx38 := hid (((((Hx25.out.mod Cx29.out (by intro h2; omega)).mod Cx34.out (fun h => h)).mod Cx35.out (fun h => h)).mod Cx36.out (fun h => h)).mod hr (by intro h2; omega))
    clear Hx25
    clear hr
    refine QChain.go fun Z act E => ?_
    refine qc_store rfl (wanted_none rfl) rfl Hx38.out (off := 1) (vs := [.int .i64 (b + ((dn : Nat) : Int))]) (by kernel_rfl) (by intro u hu; simp at hu; subst hu; rfl) (by have hdn := HDN.out; rw [List.size_toArray, Cm.len (shaF_len _)]; simp only [List.length_cons, List.length_nil]; omega) (E.d 6) (by rw [show act.eval ((.tmp 90)) = _ from (E.d 4)]; rfl) ?_
    intro u16_1a qc0 hm
    have qqx : Cs u16_1a (qx) (c2.cells : List Value).toArray 32 := by rw [show lay _ 1 _ = (c2.cells : List Value).toArray from (by rw [HCX.out]; exact lay_sq _ _)] at qc0; exact qc0
    clear qc0
    have zu16_1a := hm.size
    refine ⟨hm.mono (by intro k hk h; omega), (fun _ => rfl), ?_⟩
    intro u16_1 hr
    have zu16_1 := hr.size
    have Hx39 := hid (qqx.mod hr (by intro h2; omega))
    have Cx40 := hid (Cx37.out.goM hm hr (fun _ _ h => h))
    clear Cx37 hm hr Z act E qqx Hx38
    refine QChain.nil fun vs hl hzz hrows hne => ?_
    obtain ⟨Z, hYZ, hZb, hV⟩ := hzz
    have f3 := fvi hV hl 3
    rw [show vs = [gw vs 0, gw vs 1, gw vs 2, gw vs 3, gw vs 4, gw vs 5, gw vs 6, gw vs 7] from (gw_eta hl).trans rfl]
    have ha0 := HA0.out
    subst ha0
    clear HA0 hV hYZ hZb hsz0 hrows hne oe4 oe16
    simp only [putAll, Act.put, List.setIfInBounds_toArray, List.set_cons_zero, List.set_cons_succ, List.set_nil, f3]
    clear hl f3
    go_upto_region 27 with (fail)
    generalize ha0 : Act.mk _ _ = a0
    have oe13 : a0.eval (.tmp 13) = .pointer (some ⟨g, 0, none⟩) := by rw [← ha0]; rfl
    have oe14 : a0.eval (.tmp 14) = .pointer (some ⟨wB.heap.size, 0, none⟩) := by rw [← ha0]; rfl
    have oe15 : a0.eval (.tmp 15) = .pointer (some ⟨qf, 0, none⟩) := by rw [← ha0]; rfl
    have oe16 : a0.eval (.tmp 16) = .pointer (some ⟨qx, 0, none⟩) := by rw [← ha0]; rfl
    have hsz0 : a0.tmps.size = 155 := by rw [← ha0]; rfl
    have HA0 := hid ha0
    clear ha0
    refine wp_region_Q0 155 hsz0 [136, 137, 138, 139, 140, 141, 142, 143, 144, 145, 146, 147, 148, 149, 150, 151, 152, 153, 154, 12] [qi (.agg #[.int .i64 1, .int .i64 (1 + c0)]), qi (.pointer (some ⟨g, 0, none⟩)), qi (c2.val), qi (.bool false), qi (.bool true), qi (.bool true), qi (.agg #[.int .i64 1, .int .i64 (1 + c0)]), qi (.pointer (some ⟨g, 0, none⟩)), qi (c2.val), qi (.bool false), qi (.agg #[.int .i64 1, .int .i64 (1 + c0)]), qi (.pointer (some ⟨wB.heap.size, 0, none⟩)), qi (c2.val), qi (.bool false), qi (.bool true), qi (.bool true), qi (.bool true), qi (.bool true), qi (.bool true), qi (.bool true)] ⟨qi_stable, qi_stable, qi_stable, qi_stable, qi_stable, qi_stable, qi_stable, qi_stable, qi_stable, qi_stable, qi_stable, qi_stable, qi_stable, qi_stable, qi_stable, qi_stable, qi_stable, qi_stable, qi_stable, qi_stable, trivial⟩ [3, 9, 13, 17] ⟨?_, ?_, ?_, ?_, ?_, ?_, ?_, ?_, ?_, ?_, ?_, ?_, ?_, ?_, ?_, ?_, ?_, ?_, ?_, ?_, trivial⟩ ?_
    · exact stq (fun E => ex_loadA rfl Try.underlying24 rfl (off := 0) (cs := [.int .i64 1, .int .i64 (1 + c0)]) (by kernel_rfl) (E.v oe15) (Cs.whole (((((((Hx20.out.mod Cx24.out (by intro h2; omega)).mod Cx29.out (by intro h2; omega)).mod Cx34.out (fun h => h)).mod Cx35.out (fun h => h)).mod Cx36.out (fun h => h)).mod Cx40.out (by intro h2; omega)).mod E.m.old (by intro h2; omega))))
    · exact stq (fun E => ex_move rfl (E.v oe13))
    · exact stq (fun E => ex_loadA rfl Try.underlying32 rfl (off := 0) (cs := c2.cells) (by rw [Cm.len HO2.out.2.1]; exact size_commit) (E.v oe16) (Cs.whole (Hx39.out.mod E.m.old (by intro h2; omega))))
    · exact stepq_chain rfl
    · exact stq (fun E => ex_not rfl (E.d 3))
    · exact stq (fun E => ex_move rfl (E.d 4))
    · refine stepq_env rfl rfl rfl fun _ _ _ _ _ hm _ hout hsz hd _ _ => ?_
      have h5 := hd ⟨5, .guard⟩ (by simp) rfl _ rfl
      refine qe_run rfl ((wanted_of rfl rfl (hsz 141 (by decide)) h5).trans rfl) (ex_loadA rfl Try.underlying24 rfl (off := 0) (cs := [.int .i64 1, .int .i64 (1 + c0)]) (by kernel_rfl) ((hout 15 (by decide)).trans oe15) (Cs.whole (((((((Hx20.out.mod Cx24.out (by intro h2; omega)).mod Cx29.out (by intro h2; omega)).mod Cx34.out (fun h => h)).mod Cx35.out (fun h => h)).mod Cx36.out (fun h => h)).mod Cx40.out (by intro h2; omega)).mod hm.old (by intro h2; omega)))) QE.refl ?_
      rfl
    · refine stepq_env rfl rfl rfl fun _ _ _ _ _ _ _ hout hsz hd _ _ => ?_
      have h5 := hd ⟨5, .guard⟩ (by simp) rfl _ rfl
      refine qe_run rfl ((wanted_of rfl rfl (hsz 141 (by decide)) h5).trans rfl) (ex_move rfl ((hout 13 (by decide)).trans oe13)) QE.refl ?_
      rfl
    · refine stepq_env rfl rfl rfl fun _ _ _ _ _ hm _ hout hsz hd _ _ => ?_
      have h5 := hd ⟨5, .guard⟩ (by simp) rfl _ rfl
      refine qe_run rfl ((wanted_of rfl rfl (hsz 141 (by decide)) h5).trans rfl) (ex_loadA rfl Try.underlying32 rfl (off := 0) (cs := c2.cells) (by rw [Cm.len HO2.out.2.1]; exact size_commit) ((hout 16 (by decide)).trans oe16) (Cs.whole (Hx39.out.mod hm.old (by intro h2; omega)))) QE.refl ?_
      rfl
    · exact stepq_chain rfl
    · refine stepq_env rfl rfl rfl fun _ _ _ _ _ hm _ hout hsz hd _ _ => ?_
      have h5 := hd ⟨5, .guard⟩ (by simp) rfl _ rfl
      refine qe_run rfl ((wanted_of rfl rfl (hsz 141 (by decide)) h5).trans rfl) (ex_loadA rfl Try.underlying24 rfl (off := 0) (cs := [.int .i64 1, .int .i64 (1 + c0)]) (by kernel_rfl) ((hout 15 (by decide)).trans oe15) (Cs.whole (((((((Hx20.out.mod Cx24.out (by intro h2; omega)).mod Cx29.out (by intro h2; omega)).mod Cx34.out (fun h => h)).mod Cx35.out (fun h => h)).mod Cx36.out (fun h => h)).mod Cx40.out (by intro h2; omega)).mod hm.old (by intro h2; omega)))) QE.refl ?_
      rfl
    · refine stepq_env rfl rfl rfl fun _ _ _ _ _ _ _ hout hsz hd _ _ => ?_
      have h5 := hd ⟨5, .guard⟩ (by simp) rfl _ rfl
      refine qe_run rfl ((wanted_of rfl rfl (hsz 141 (by decide)) h5).trans rfl) (ex_move rfl ((hout 14 (by decide)).trans oe14)) QE.refl ?_
      rfl
    · refine stepq_env rfl rfl rfl fun _ _ _ _ _ hm _ hout hsz hd _ _ => ?_
      have h5 := hd ⟨5, .guard⟩ (by simp) rfl _ rfl
      refine qe_run rfl ((wanted_of rfl rfl (hsz 141 (by decide)) h5).trans rfl) (ex_loadA rfl Try.underlying32 rfl (off := 0) (cs := c2.cells) (by rw [Cm.len HO2.out.2.1]; exact size_commit) ((hout 16 (by decide)).trans oe16) (Cs.whole (Hx39.out.mod hm.old (by intro h2; omega)))) QE.refl ?_
      rfl
    · exact stepq_chain rfl
    · refine stepq_env rfl rfl rfl fun _ _ _ _ _ _ _ _ hsz hd _ _ => ?_
      have h5 := hd ⟨5, .guard⟩ (by simp) rfl _ rfl
      have h9 := hd ⟨9, .data⟩ (by simp) rfl _ rfl
      have h13 := hd ⟨13, .data⟩ (by simp) rfl _ rfl
      refine qe_run rfl ((wanted_of rfl rfl (hsz 141 (by decide)) h5).trans rfl) (ex_binE rfl h9 h13 (guard_bools _ _ _ _ _ _) (run_eql_bools _ _ _ Try.underlying4) rfl) QE.refl ?_
      rfl
    · exact stq (fun E => ex_pick rfl (E.d 5) (E.d 14) rfl)
    · exact stq (fun E => ex_move rfl (E.d 15))
    · exact stepq_chain rfl
    · exact stq (fun E => ex_pick rfl (E.d 16) (E.d 17) rfl)
    · exact stq (fun E => ex_assign rfl (E.d 18))
    intro u27_0 hr
    have zu27_0 := hr.size
    have Cx41 := hid (hr.new (S := (fun _ => False)))
    clear hr
    refine QChain.go fun Z act E => ?_
    refine qc_callF (args := #[.agg #[.int .i64 1, .int .i64 (1 + c0)], .pointer (some ⟨g, 0, none⟩), c2.val]) rfl (wanted_none rfl) rfl Try.func21 (args3 (E.d 0) (E.d 1) (E.d 2)) ((by have hq := Right_Q ((((((Hx23.out.mod Cx29.out (by intro k h1 h2; omega)).mod Cx34.out (fun _ _ h => h)).mod Cx35.out (fun _ _ h => h)).mod Cx36.out (fun _ _ h => h)).mod Cx40.out (by intro k h1 h2; omega)).mod Cx41.out (fun _ _ h => h)) 1 (1 + c0) c2 HO2.out HS2.out; rw [HBD.out] at hq; exact hq)) ?_
    rintro e u27_1a ⟨rfl, hm⟩
    have zu27_1a := hm.size
    refine ⟨_, rfl, hm.mono (fun _ _ h => h.elim), (fun _ => rfl), ?_⟩
    intro u27_1 hr
    have zu27_1 := hr.size
    have Cx42 := hid (Cx41.out.go hm hr)
    clear Cx41 hm hr Z act E
    refine QChain.go fun Z act E => ?_
    refine qc_callF (args := #[.agg #[.int .i64 1, .int .i64 (1 + c0)], .pointer (some ⟨g, 0, none⟩), c2.val]) rfl ((wanted_of rfl rfl (E.sz 141 (by decide)) (E.e 5 .chain)).trans rfl) rfl Try.func21 (args3 (E.d 6) (E.d 7) (E.d 8)) ((by have hq := Right_Q ((((((Hx23.out.mod Cx29.out (by intro k h1 h2; omega)).mod Cx34.out (fun _ _ h => h)).mod Cx35.out (fun _ _ h => h)).mod Cx36.out (fun _ _ h => h)).mod Cx40.out (by intro k h1 h2; omega)).mod Cx42.out (fun _ _ h => h)) 1 (1 + c0) c2 HO2.out HS2.out; rw [HBD.out] at hq; exact hq)) ?_
    rintro e u27_2a ⟨rfl, hm⟩
    have zu27_2a := hm.size
    refine ⟨_, rfl, hm.mono (fun _ _ h => h.elim), (fun _ => rfl), ?_⟩
    intro u27_2 hr
    have zu27_2 := hr.size
    have Cx43 := hid (Cx42.out.go hm hr)
    clear Cx42 hm hr Z act E
    refine QChain.go fun Z act E => ?_
    refine qc_callF (args := #[.agg #[.int .i64 1, .int .i64 (1 + c0)], .pointer (some ⟨wB.heap.size, 0, none⟩), c2.val]) rfl ((wanted_of rfl rfl (E.sz 141 (by decide)) (E.e 5 .guard)).trans rfl) rfl Try.func22 (args3 (E.d 10) (E.d 11) (E.d 12)) ((by have hq := RefRightC_1 (((((Hx28.out.mod Cx34.out (fun _ _ h => h)).mod Cx35.out (fun _ _ h => h)).mod Cx36.out (fun _ _ h => h)).mod Cx40.out (by intro k h1 h2; omega)).mod Cx43.out (fun _ _ h => h)) (by intro k h1; omega) HKY.out 1 (1 + c0) c2 HO2.out HS2.out; rw [HBD.out] at hq; exact hq)) ?_
    rintro e u27_3a ⟨rfl, hm⟩
    have zu27_3a := hm.size
    refine ⟨_, rfl, hm.mono (fun _ _ h => h.elim), (fun _ => rfl), ?_⟩
    intro u27_3 hr
    have zu27_3 := hr.size
    have Cx44 := hid (Cx43.out.go hm hr)
    clear Cx43 hm hr Z act E
    refine QChain.go fun Z act E => ?_
    refine qc_callF (args := #[]) rfl ((wanted_of rfl rfl (E.sz 152 (by decide)) (E.e 16 .chain)).trans rfl) rfl Try.func16 args0 (wakes04 _) ?_
    rintro e u27_4a ⟨rfl, hm⟩
    have zu27_4a := hm.size
    refine ⟨_, rfl, hm.mono (fun _ _ h => h.elim), (fun _ => rfl), ?_⟩
    intro u27_4 hr
    have zu27_4 := hr.size
    have Cx45 := hid (Cx44.out.go hm hr)
    clear Cx44 hm hr Z act E
    refine QChain.nil fun vs hl hzz hrows hne => ?_
    obtain ⟨Z, hYZ, hZb, hV⟩ := hzz
    have f19 := fvi hV hl 19
    rw [show vs = [gw vs 0, gw vs 1, gw vs 2, gw vs 3, gw vs 4, gw vs 5, gw vs 6, gw vs 7, gw vs 8, gw vs 9, gw vs 10, gw vs 11, gw vs 12, gw vs 13, gw vs 14, gw vs 15, gw vs 16, gw vs 17, gw vs 18, gw vs 19] from (gw_eta hl).trans rfl]
    have ha0 := HA0.out
    subst ha0
    clear HA0 hV hYZ hZb hsz0 hrows hne oe13 oe14 oe15 oe16
    simp only [putAll, Act.put, List.setIfInBounds_toArray, List.set_cons_zero, List.set_cons_succ, f19]
    clear hl f19
    go_wp2
    go_ret
    exact ⟨rfl, ((((((((Hx16.out.trans Cx19.out (fun _ _ h => h.elim)).trans Cx24.out (by intro k h1 h2; omega)).trans Cx29.out (by intro k h1 h2; omega)).trans Cx34.out (fun _ _ h => h.elim)).trans Cx35.out (fun _ _ h => h.elim)).trans Cx36.out (fun _ _ h => h.elim)).trans Cx40.out (by intro k h1 h2; omega)).trans Cx45.out (fun _ _ h => h.elim))⟩
  · skip
    obtain ⟨c2, ec2⟩ : ∃ c, c = ({ (cm1 a b h bs) with cl := a + ((dn : Nat) : Int) } : Cm) := ⟨_, rfl⟩
    have HO2 := hid (show c2.OK by rw [ec2]; exact ⟨⟨(by have := WA.out; have := HDN.out; unfold I64; show _ ≤ a + _ ∧ a + _ ≤ _; omega), HO1.out.1.2⟩, HO1.out.2⟩)
    have HBD := hid (show rightC [mkKey a b h bs] (1 + c0) c2 = false by rw [ec2]; exact bad_sb (k := 1 + c0) (show ¬ 1000 + a = 1000 + (a + ((dn : Nat) : Int)) by have := HDN.out; omega))
    have HS2 := hid (show I64 (1000 + c2.cl) by rw [ec2]; exact (by have := WA.out; have := HDN.out; unfold I64; show _ ≤ 1000 + (a + _) ∧ 1000 + (a + _) ≤ _; omega))
    have HCX := Lib.hid ec2
    clear ec2
    go_upto_region 18 with (fail)
    generalize ha0 : Act.mk _ _ = a0
    have oe4 : a0.eval (.tmp 4) = .int .i64 ((dn : Nat) : Int) := by rw [← ha0]; rfl
    have oe16 : a0.eval (.tmp 16) = .pointer (some ⟨qx, 0, none⟩) := by rw [← ha0]; rfl
    have hsz0 : a0.tmps.size = 155 := by rw [← ha0]; rfl
    have HA0 := hid ha0
    clear ha0
    refine wp_region_Q1 155 hsz0 [95, 96, 97, 98, 99, 100, 101, 162] (fun k => (k = qx)) (fun k j => (k = 0 ∧ ((j = qx)))) (fun _ _ h => h.2) [qi (.pointer (some ⟨qx, 0, none⟩)), qi (.pointer (some ⟨qx, 0, none⟩)), qi (.int .i64 (cm1 a b h bs).cl), qi (.int .i64 ((dn : Nat) : Int)), qi (.int .i64 (a + ((dn : Nat) : Int))), qi (.pointer (some ⟨qx, 0, none⟩)), qi (.pointer (some ⟨qx, 0, none⟩)), qv 0] ⟨qi_stable, qi_stable, qi_stable, qi_stable, qi_stable, qi_stable, qi_stable, qv_stable, trivial⟩ [7] ⟨?_, ?_, ?_, ?_, ?_, ?_, ?_, ?_, trivial⟩ ?_
    · exact stq (fun E => ex_field rfl Try.underlying32 rfl (by kernel_rfl) (E.v oe16))
    · exact stq (fun E => ex_field rfl Try.underlying26 rfl (by kernel_rfl) (E.d 0))
    · refine stepq_env rfl rfl rfl fun _ _ _ _ _ _ hm0 _ _ hd hub _ => ?_
      have h1 := hd ⟨1, .data⟩ (by simp) rfl _ rfl
      refine qe_run rfl (wanted_none rfl) (ex_load1 rfl Try.underlying3 rfl h1 ((((((Hx25.out.mod Cx29.out (by intro h2; omega)).mod Cx34.out (fun h => h)).mod Cx35.out (fun h => h)).mod Cx36.out (fun h => h)).mod hm0 (by intro h2; have hu := hub 0 7 rfl (by kernel_rfl); rcases h2 with ⟨h0, kk, hk, h2⟩ | h2 <;> omega)).c0)) QE.refl ?_
      rfl
    · exact stq (fun E => ex_move rfl (E.v oe4))
    · exact stq (fun E => ex_binE rfl (E.d 2) (E.d 3) (guard_ints _ _ _ _ _ _) (run_add_i _ _ Try.underlying3) (congrArg (Value.int .i64) (show IntKind.i64.wrap (a + ((dn : Nat) : Int)) = _ from IntWalk.i64_in _ (by have := WA.out; have := HDN.out; omega))))
    · exact stq (fun E => ex_field rfl Try.underlying32 rfl (by kernel_rfl) (E.v oe16))
    · exact stq (fun E => ex_field rfl Try.underlying26 rfl (by kernel_rfl) (E.d 5))
    · exact stepq_chain rfl
    intro u18_0 hr
    have zu18_0 := hr.size
    have Cx37 := hid (hr.new (S := (fun k => (k = qx))))
    have Hx38 := hid (((((Hx25.out.mod Cx29.out (by intro h2; omega)).mod Cx34.out (fun h => h)).mod Cx35.out (fun h => h)).mod Cx36.out (fun h => h)).mod hr (by intro h2; omega))
    clear Hx25
    clear hr
    refine QChain.go fun Z act E => ?_
    refine qc_store rfl (wanted_none rfl) rfl Hx38.out (off := 0) (vs := [.int .i64 (a + ((dn : Nat) : Int))]) (by kernel_rfl) (by intro u hu; simp at hu; subst hu; rfl) (by have hdn := HDN.out; rw [List.size_toArray, Cm.len (shaF_len _)]; simp only [List.length_cons, List.length_nil]; omega) (E.d 6) (by rw [show act.eval ((.tmp 99)) = _ from (E.d 4)]; rfl) ?_
    intro u18_1a qc0 hm
    have qqx : Cs u18_1a (qx) (c2.cells : List Value).toArray 32 := by rw [show lay _ 0 _ = (c2.cells : List Value).toArray from (by rw [HCX.out]; exact lay_cl _ _)] at qc0; exact qc0
    clear qc0
    have zu18_1a := hm.size
    refine ⟨hm.mono (by intro k hk h; omega), (fun _ => rfl), ?_⟩
    intro u18_1 hr
    have zu18_1 := hr.size
    have Hx39 := hid (qqx.mod hr (by intro h2; omega))
    have Cx40 := hid (Cx37.out.goM hm hr (fun _ _ h => h))
    clear Cx37 hm hr Z act E qqx Hx38
    refine QChain.nil fun vs hl hzz hrows hne => ?_
    obtain ⟨Z, hYZ, hZb, hV⟩ := hzz
    have f3 := fvi hV hl 3
    rw [show vs = [gw vs 0, gw vs 1, gw vs 2, gw vs 3, gw vs 4, gw vs 5, gw vs 6, gw vs 7] from (gw_eta hl).trans rfl]
    have ha0 := HA0.out
    subst ha0
    clear HA0 hV hYZ hZb hsz0 hrows hne oe4 oe16
    simp only [putAll, Act.put, List.setIfInBounds_toArray, List.set_cons_zero, List.set_cons_succ, List.set_nil, f3]
    clear hl f3
    go_upto_region 27 with (fail)
    generalize ha0 : Act.mk _ _ = a0
    have oe13 : a0.eval (.tmp 13) = .pointer (some ⟨g, 0, none⟩) := by rw [← ha0]; rfl
    have oe14 : a0.eval (.tmp 14) = .pointer (some ⟨wB.heap.size, 0, none⟩) := by rw [← ha0]; rfl
    have oe15 : a0.eval (.tmp 15) = .pointer (some ⟨qf, 0, none⟩) := by rw [← ha0]; rfl
    have oe16 : a0.eval (.tmp 16) = .pointer (some ⟨qx, 0, none⟩) := by rw [← ha0]; rfl
    have hsz0 : a0.tmps.size = 155 := by rw [← ha0]; rfl
    have HA0 := hid ha0
    clear ha0
    refine wp_region_Q0 155 hsz0 [136, 137, 138, 139, 140, 141, 142, 143, 144, 145, 146, 147, 148, 149, 150, 151, 152, 153, 154, 12] [qi (.agg #[.int .i64 1, .int .i64 (1 + c0)]), qi (.pointer (some ⟨g, 0, none⟩)), qi (c2.val), qi (.bool false), qi (.bool true), qi (.bool true), qi (.agg #[.int .i64 1, .int .i64 (1 + c0)]), qi (.pointer (some ⟨g, 0, none⟩)), qi (c2.val), qi (.bool false), qi (.agg #[.int .i64 1, .int .i64 (1 + c0)]), qi (.pointer (some ⟨wB.heap.size, 0, none⟩)), qi (c2.val), qi (.bool false), qi (.bool true), qi (.bool true), qi (.bool true), qi (.bool true), qi (.bool true), qi (.bool true)] ⟨qi_stable, qi_stable, qi_stable, qi_stable, qi_stable, qi_stable, qi_stable, qi_stable, qi_stable, qi_stable, qi_stable, qi_stable, qi_stable, qi_stable, qi_stable, qi_stable, qi_stable, qi_stable, qi_stable, qi_stable, trivial⟩ [3, 9, 13, 17] ⟨?_, ?_, ?_, ?_, ?_, ?_, ?_, ?_, ?_, ?_, ?_, ?_, ?_, ?_, ?_, ?_, ?_, ?_, ?_, ?_, trivial⟩ ?_
    · exact stq (fun E => ex_loadA rfl Try.underlying24 rfl (off := 0) (cs := [.int .i64 1, .int .i64 (1 + c0)]) (by kernel_rfl) (E.v oe15) (Cs.whole (((((((Hx20.out.mod Cx24.out (by intro h2; omega)).mod Cx29.out (by intro h2; omega)).mod Cx34.out (fun h => h)).mod Cx35.out (fun h => h)).mod Cx36.out (fun h => h)).mod Cx40.out (by intro h2; omega)).mod E.m.old (by intro h2; omega))))
    · exact stq (fun E => ex_move rfl (E.v oe13))
    · exact stq (fun E => ex_loadA rfl Try.underlying32 rfl (off := 0) (cs := c2.cells) (by rw [Cm.len HO2.out.2.1]; exact size_commit) (E.v oe16) (Cs.whole (Hx39.out.mod E.m.old (by intro h2; omega))))
    · exact stepq_chain rfl
    · exact stq (fun E => ex_not rfl (E.d 3))
    · exact stq (fun E => ex_move rfl (E.d 4))
    · refine stepq_env rfl rfl rfl fun _ _ _ _ _ hm _ hout hsz hd _ _ => ?_
      have h5 := hd ⟨5, .guard⟩ (by simp) rfl _ rfl
      refine qe_run rfl ((wanted_of rfl rfl (hsz 141 (by decide)) h5).trans rfl) (ex_loadA rfl Try.underlying24 rfl (off := 0) (cs := [.int .i64 1, .int .i64 (1 + c0)]) (by kernel_rfl) ((hout 15 (by decide)).trans oe15) (Cs.whole (((((((Hx20.out.mod Cx24.out (by intro h2; omega)).mod Cx29.out (by intro h2; omega)).mod Cx34.out (fun h => h)).mod Cx35.out (fun h => h)).mod Cx36.out (fun h => h)).mod Cx40.out (by intro h2; omega)).mod hm.old (by intro h2; omega)))) QE.refl ?_
      rfl
    · refine stepq_env rfl rfl rfl fun _ _ _ _ _ _ _ hout hsz hd _ _ => ?_
      have h5 := hd ⟨5, .guard⟩ (by simp) rfl _ rfl
      refine qe_run rfl ((wanted_of rfl rfl (hsz 141 (by decide)) h5).trans rfl) (ex_move rfl ((hout 13 (by decide)).trans oe13)) QE.refl ?_
      rfl
    · refine stepq_env rfl rfl rfl fun _ _ _ _ _ hm _ hout hsz hd _ _ => ?_
      have h5 := hd ⟨5, .guard⟩ (by simp) rfl _ rfl
      refine qe_run rfl ((wanted_of rfl rfl (hsz 141 (by decide)) h5).trans rfl) (ex_loadA rfl Try.underlying32 rfl (off := 0) (cs := c2.cells) (by rw [Cm.len HO2.out.2.1]; exact size_commit) ((hout 16 (by decide)).trans oe16) (Cs.whole (Hx39.out.mod hm.old (by intro h2; omega)))) QE.refl ?_
      rfl
    · exact stepq_chain rfl
    · refine stepq_env rfl rfl rfl fun _ _ _ _ _ hm _ hout hsz hd _ _ => ?_
      have h5 := hd ⟨5, .guard⟩ (by simp) rfl _ rfl
      refine qe_run rfl ((wanted_of rfl rfl (hsz 141 (by decide)) h5).trans rfl) (ex_loadA rfl Try.underlying24 rfl (off := 0) (cs := [.int .i64 1, .int .i64 (1 + c0)]) (by kernel_rfl) ((hout 15 (by decide)).trans oe15) (Cs.whole (((((((Hx20.out.mod Cx24.out (by intro h2; omega)).mod Cx29.out (by intro h2; omega)).mod Cx34.out (fun h => h)).mod Cx35.out (fun h => h)).mod Cx36.out (fun h => h)).mod Cx40.out (by intro h2; omega)).mod hm.old (by intro h2; omega)))) QE.refl ?_
      rfl
    · refine stepq_env rfl rfl rfl fun _ _ _ _ _ _ _ hout hsz hd _ _ => ?_
      have h5 := hd ⟨5, .guard⟩ (by simp) rfl _ rfl
      refine qe_run rfl ((wanted_of rfl rfl (hsz 141 (by decide)) h5).trans rfl) (ex_move rfl ((hout 14 (by decide)).trans oe14)) QE.refl ?_
      rfl
    · refine stepq_env rfl rfl rfl fun _ _ _ _ _ hm _ hout hsz hd _ _ => ?_
      have h5 := hd ⟨5, .guard⟩ (by simp) rfl _ rfl
      refine qe_run rfl ((wanted_of rfl rfl (hsz 141 (by decide)) h5).trans rfl) (ex_loadA rfl Try.underlying32 rfl (off := 0) (cs := c2.cells) (by rw [Cm.len HO2.out.2.1]; exact size_commit) ((hout 16 (by decide)).trans oe16) (Cs.whole (Hx39.out.mod hm.old (by intro h2; omega)))) QE.refl ?_
      rfl
    · exact stepq_chain rfl
    · refine stepq_env rfl rfl rfl fun _ _ _ _ _ _ _ _ hsz hd _ _ => ?_
      have h5 := hd ⟨5, .guard⟩ (by simp) rfl _ rfl
      have h9 := hd ⟨9, .data⟩ (by simp) rfl _ rfl
      have h13 := hd ⟨13, .data⟩ (by simp) rfl _ rfl
      refine qe_run rfl ((wanted_of rfl rfl (hsz 141 (by decide)) h5).trans rfl) (ex_binE rfl h9 h13 (guard_bools _ _ _ _ _ _) (run_eql_bools _ _ _ Try.underlying4) rfl) QE.refl ?_
      rfl
    · exact stq (fun E => ex_pick rfl (E.d 5) (E.d 14) rfl)
    · exact stq (fun E => ex_move rfl (E.d 15))
    · exact stepq_chain rfl
    · exact stq (fun E => ex_pick rfl (E.d 16) (E.d 17) rfl)
    · exact stq (fun E => ex_assign rfl (E.d 18))
    intro u27_0 hr
    have zu27_0 := hr.size
    have Cx41 := hid (hr.new (S := (fun _ => False)))
    clear hr
    refine QChain.go fun Z act E => ?_
    refine qc_callF (args := #[.agg #[.int .i64 1, .int .i64 (1 + c0)], .pointer (some ⟨g, 0, none⟩), c2.val]) rfl (wanted_none rfl) rfl Try.func21 (args3 (E.d 0) (E.d 1) (E.d 2)) ((by have hq := Right_Q ((((((Hx23.out.mod Cx29.out (by intro k h1 h2; omega)).mod Cx34.out (fun _ _ h => h)).mod Cx35.out (fun _ _ h => h)).mod Cx36.out (fun _ _ h => h)).mod Cx40.out (by intro k h1 h2; omega)).mod Cx41.out (fun _ _ h => h)) 1 (1 + c0) c2 HO2.out HS2.out; rw [HBD.out] at hq; exact hq)) ?_
    rintro e u27_1a ⟨rfl, hm⟩
    have zu27_1a := hm.size
    refine ⟨_, rfl, hm.mono (fun _ _ h => h.elim), (fun _ => rfl), ?_⟩
    intro u27_1 hr
    have zu27_1 := hr.size
    have Cx42 := hid (Cx41.out.go hm hr)
    clear Cx41 hm hr Z act E
    refine QChain.go fun Z act E => ?_
    refine qc_callF (args := #[.agg #[.int .i64 1, .int .i64 (1 + c0)], .pointer (some ⟨g, 0, none⟩), c2.val]) rfl ((wanted_of rfl rfl (E.sz 141 (by decide)) (E.e 5 .chain)).trans rfl) rfl Try.func21 (args3 (E.d 6) (E.d 7) (E.d 8)) ((by have hq := Right_Q ((((((Hx23.out.mod Cx29.out (by intro k h1 h2; omega)).mod Cx34.out (fun _ _ h => h)).mod Cx35.out (fun _ _ h => h)).mod Cx36.out (fun _ _ h => h)).mod Cx40.out (by intro k h1 h2; omega)).mod Cx42.out (fun _ _ h => h)) 1 (1 + c0) c2 HO2.out HS2.out; rw [HBD.out] at hq; exact hq)) ?_
    rintro e u27_2a ⟨rfl, hm⟩
    have zu27_2a := hm.size
    refine ⟨_, rfl, hm.mono (fun _ _ h => h.elim), (fun _ => rfl), ?_⟩
    intro u27_2 hr
    have zu27_2 := hr.size
    have Cx43 := hid (Cx42.out.go hm hr)
    clear Cx42 hm hr Z act E
    refine QChain.go fun Z act E => ?_
    refine qc_callF (args := #[.agg #[.int .i64 1, .int .i64 (1 + c0)], .pointer (some ⟨wB.heap.size, 0, none⟩), c2.val]) rfl ((wanted_of rfl rfl (E.sz 141 (by decide)) (E.e 5 .guard)).trans rfl) rfl Try.func22 (args3 (E.d 10) (E.d 11) (E.d 12)) ((by have hq := RefRightC_1 (((((Hx28.out.mod Cx34.out (fun _ _ h => h)).mod Cx35.out (fun _ _ h => h)).mod Cx36.out (fun _ _ h => h)).mod Cx40.out (by intro k h1 h2; omega)).mod Cx43.out (fun _ _ h => h)) (by intro k h1; omega) HKY.out 1 (1 + c0) c2 HO2.out HS2.out; rw [HBD.out] at hq; exact hq)) ?_
    rintro e u27_3a ⟨rfl, hm⟩
    have zu27_3a := hm.size
    refine ⟨_, rfl, hm.mono (fun _ _ h => h.elim), (fun _ => rfl), ?_⟩
    intro u27_3 hr
    have zu27_3 := hr.size
    have Cx44 := hid (Cx43.out.go hm hr)
    clear Cx43 hm hr Z act E
    refine QChain.go fun Z act E => ?_
    refine qc_callF (args := #[]) rfl ((wanted_of rfl rfl (E.sz 152 (by decide)) (E.e 16 .chain)).trans rfl) rfl Try.func16 args0 (wakes04 _) ?_
    rintro e u27_4a ⟨rfl, hm⟩
    have zu27_4a := hm.size
    refine ⟨_, rfl, hm.mono (fun _ _ h => h.elim), (fun _ => rfl), ?_⟩
    intro u27_4 hr
    have zu27_4 := hr.size
    have Cx45 := hid (Cx44.out.go hm hr)
    clear Cx44 hm hr Z act E
    refine QChain.nil fun vs hl hzz hrows hne => ?_
    obtain ⟨Z, hYZ, hZb, hV⟩ := hzz
    have f19 := fvi hV hl 19
    rw [show vs = [gw vs 0, gw vs 1, gw vs 2, gw vs 3, gw vs 4, gw vs 5, gw vs 6, gw vs 7, gw vs 8, gw vs 9, gw vs 10, gw vs 11, gw vs 12, gw vs 13, gw vs 14, gw vs 15, gw vs 16, gw vs 17, gw vs 18, gw vs 19] from (gw_eta hl).trans rfl]
    have ha0 := HA0.out
    subst ha0
    clear HA0 hV hYZ hZb hsz0 hrows hne oe13 oe14 oe15 oe16
    simp only [putAll, Act.put, List.setIfInBounds_toArray, List.set_cons_zero, List.set_cons_succ, f19]
    clear hl f19
    go_wp2
    go_ret
    exact ⟨rfl, ((((((((Hx16.out.trans Cx19.out (fun _ _ h => h.elim)).trans Cx24.out (by intro k h1 h2; omega)).trans Cx29.out (by intro k h1 h2; omega)).trans Cx34.out (fun _ _ h => h.elim)).trans Cx35.out (fun _ _ h => h.elim)).trans Cx36.out (fun _ _ h => h.elim)).trans Cx40.out (by intro k h1 h2; omega)).trans Cx45.out (fun _ _ h => h.elim))⟩
  · skip
    have hdl : dn < (shaF (ofT a b h bs)).length := by rw [shaF_len]; have := HDN.out; omega
    have hxg : ((shaF (ofT a b h bs)).getD dn 0) = (shaF (ofT a b h bs))[dn] := by rw [List.getD_eq_getElem?_getD, List.getElem?_eq_getElem hdl]; rfl
    have hxb := shaF_bytes (ofT a b h bs) _ (List.getElem_mem hdl)
    rw [← hxg] at hxb
    have hx1 := xor_one hxb.1 (by omega)
    have HXN := hid (show ¬ (shaF (ofT a b h bs)) = (shaF (ofT a b h bs)).set dn (bits .xor .u8 ((shaF (ofT a b h bs)).getD dn 0) 1) from fun e => hx1.1 (by have e2 := congrArg (fun l => l.getD dn 0) e; simp only [List.getD_eq_getElem?_getD, List.getElem?_set_self hdl, Option.getD_some] at e2 ⊢; exact e2.symm))
    have HXO := hid (show HK ((shaF (ofT a b h bs)).set dn (bits .xor .u8 ((shaF (ofT a b h bs)).getD dn 0) 1)) from ⟨by rw [List.length_set]; exact shaF_len _, fun z hz => by rcases List.mem_or_eq_of_mem_set hz with hz | rfl; exact shaF_bytes _ _ hz; exact ⟨hx1.2.1, by omega⟩⟩)
    have HXC := hid (show ((shaF (ofT a b h bs)).map bv)[dn]? = some (.int .u8 ((shaF (ofT a b h bs)).getD dn 0)) by rw [List.getElem?_map, List.getElem?_eq_getElem hdl, hxg]; rfl)
    clear hxb hx1 hxg
    obtain ⟨c2, ec2⟩ : ∃ c, c = ({ (cm1 a b h bs) with h := (shaF (ofT a b h bs)).set dn (bits .xor .u8 ((shaF (ofT a b h bs)).getD dn 0) 1) } : Cm) := ⟨_, rfl⟩
    have HO2 := hid (show c2.OK by rw [ec2]; exact ⟨HO1.out.1, HXO.out⟩)
    have HBD := hid (show rightC [mkKey a b h bs] (1 + c0) c2 = false by rw [ec2]; exact bad_h (k := 1 + c0) HXN.out)
    have HS2 := hid (show I64 (1000 + c2.cl) by rw [ec2]; exact ISA.out)
    have HCX := Lib.hid ec2
    clear ec2
    go_upto_region 20 with (fail)
    generalize ha0 : Act.mk _ _ = a0
    have oe4 : a0.eval (.tmp 4) = .int .i64 ((dn : Nat) : Int) := by rw [← ha0]; rfl
    have oe16 : a0.eval (.tmp 16) = .pointer (some ⟨qx, 0, none⟩) := by rw [← ha0]; rfl
    have hsz0 : a0.tmps.size = 155 := by rw [← ha0]; rfl
    have HA0 := hid ha0
    clear ha0
    refine wp_region_Q1 155 hsz0 [104, 105, 106, 107, 108, 109, 110, 162] (fun k => (k = qx)) (fun k j => (k = 0 ∧ ((j = qx)))) (fun _ _ h => h.2) [qi (.int .i64 ((dn : Nat) : Int)), qi (.pointer (some ⟨qx, 2, none⟩)), qi (.pointer (some ⟨qx, 2 + dn * 1, none⟩)), qi (.int .u8 ((shaF (ofT a b h bs)).getD dn 0)), qi (.int .u8 (bits .xor .u8 ((shaF (ofT a b h bs)).getD dn 0) 1)), qi (.pointer (some ⟨qx, 2, none⟩)), qi (.pointer (some ⟨qx, 2 + dn * 1, none⟩)), qv 0] ⟨qi_stable, qi_stable, qi_stable, qi_stable, qi_stable, qi_stable, qi_stable, qv_stable, trivial⟩ [7] ⟨?_, ?_, ?_, ?_, ?_, ?_, ?_, ?_, trivial⟩ ?_
    · exact stq (fun E => ex_move rfl (E.v oe4))
    · exact stq (fun E => ex_field rfl Try.underlying32 rfl (by kernel_rfl) (E.v oe16))
    · exact stq (fun E => ex_idxA (i := dn) (s := 1) rfl Try.underlying28 (by decide) (by kernel_rfl) (E.d 1) (E.d 0) (by have := HDN.out; omega))
    · refine stepq_env rfl rfl rfl fun _ _ _ _ _ _ hm0 _ _ hd hub _ => ?_
      have h2 := hd ⟨2, .data⟩ (by simp) rfl _ rfl
      refine qe_run rfl (wanted_none rfl) (ex_load1 rfl Try.underlying5 rfl h2 (by rw [Nat.mul_one]; exact ((((((Hx25.out.mod Cx29.out (by intro h2; omega)).mod Cx34.out (fun h => h)).mod Cx35.out (fun h => h)).mod Cx36.out (fun h => h)).mod hm0 (by intro h2; have hu := hub 0 7 rfl (by kernel_rfl); rcases h2 with ⟨h0, kk, hk, h2⟩ | h2 <;> omega)).hash) dn _ HXC.out)) QE.refl ?_
      rfl
    · exact stq (fun E => ex_bin rfl (E.d 3) rfl (guard_ints _ _ _ _ _ _) (run_xor_i _ _))
    · exact stq (fun E => ex_field rfl Try.underlying32 rfl (by kernel_rfl) (E.v oe16))
    · exact stq (fun E => ex_idxA (i := dn) (s := 1) rfl Try.underlying28 (by decide) (by kernel_rfl) (E.d 5) (E.d 0) (by have := HDN.out; omega))
    · exact stepq_chain rfl
    intro u20_0 hr
    have zu20_0 := hr.size
    have Cx37 := hid (hr.new (S := (fun k => (k = qx))))
    have Hx38 := hid (((((Hx25.out.mod Cx29.out (by intro h2; omega)).mod Cx34.out (fun h => h)).mod Cx35.out (fun h => h)).mod Cx36.out (fun h => h)).mod hr (by intro h2; omega))
    clear Hx25
    clear hr
    refine QChain.go fun Z act E => ?_
    refine qc_store rfl (wanted_none rfl) rfl Hx38.out (off := 2 + dn * 1) (vs := [.int .u8 (bits .xor .u8 ((shaF (ofT a b h bs)).getD dn 0) 1)]) (by kernel_rfl) (by intro u hu; simp at hu; subst hu; rfl) (by have hdn := HDN.out; rw [List.size_toArray, Cm.len (shaF_len _)]; simp only [List.length_cons, List.length_nil]; omega) (E.d 6) (by rw [show act.eval ((.tmp 108)) = _ from (E.d 4)]; rfl) ?_
    intro u20_1a qc0 hm
    have qqx : Cs u20_1a (qx) (c2.cells : List Value).toArray 32 := by rw [show lay _ (2 + dn * 1) _ = (c2.cells : List Value).toArray from (by rw [HCX.out]; exact lay_hb _ _ _ (by have := HDN.out; omega) (shaF_len _))] at qc0; exact qc0
    clear qc0
    have zu20_1a := hm.size
    refine ⟨hm.mono (by intro k hk h; omega), (fun _ => rfl), ?_⟩
    intro u20_1 hr
    have zu20_1 := hr.size
    have Hx39 := hid (qqx.mod hr (by intro h2; omega))
    have Cx40 := hid (Cx37.out.goM hm hr (fun _ _ h => h))
    clear Cx37 hm hr Z act E qqx Hx38
    refine QChain.nil fun vs hl hzz hrows hne => ?_
    obtain ⟨Z, hYZ, hZb, hV⟩ := hzz
    have f0 := fvi hV hl 0
    rw [show vs = [gw vs 0, gw vs 1, gw vs 2, gw vs 3, gw vs 4, gw vs 5, gw vs 6, gw vs 7] from (gw_eta hl).trans rfl]
    have ha0 := HA0.out
    subst ha0
    clear HA0 hV hYZ hZb hsz0 hrows hne oe4 oe16
    simp only [putAll, Act.put, List.setIfInBounds_toArray, List.set_cons_zero, List.set_cons_succ, List.set_nil, f0]
    clear hl f0
    go_upto_region 27 with (fail)
    generalize ha0 : Act.mk _ _ = a0
    have oe13 : a0.eval (.tmp 13) = .pointer (some ⟨g, 0, none⟩) := by rw [← ha0]; rfl
    have oe14 : a0.eval (.tmp 14) = .pointer (some ⟨wB.heap.size, 0, none⟩) := by rw [← ha0]; rfl
    have oe15 : a0.eval (.tmp 15) = .pointer (some ⟨qf, 0, none⟩) := by rw [← ha0]; rfl
    have oe16 : a0.eval (.tmp 16) = .pointer (some ⟨qx, 0, none⟩) := by rw [← ha0]; rfl
    have hsz0 : a0.tmps.size = 155 := by rw [← ha0]; rfl
    have HA0 := hid ha0
    clear ha0
    refine wp_region_Q0 155 hsz0 [136, 137, 138, 139, 140, 141, 142, 143, 144, 145, 146, 147, 148, 149, 150, 151, 152, 153, 154, 12] [qi (.agg #[.int .i64 1, .int .i64 (1 + c0)]), qi (.pointer (some ⟨g, 0, none⟩)), qi (c2.val), qi (.bool false), qi (.bool true), qi (.bool true), qi (.agg #[.int .i64 1, .int .i64 (1 + c0)]), qi (.pointer (some ⟨g, 0, none⟩)), qi (c2.val), qi (.bool false), qi (.agg #[.int .i64 1, .int .i64 (1 + c0)]), qi (.pointer (some ⟨wB.heap.size, 0, none⟩)), qi (c2.val), qi (.bool false), qi (.bool true), qi (.bool true), qi (.bool true), qi (.bool true), qi (.bool true), qi (.bool true)] ⟨qi_stable, qi_stable, qi_stable, qi_stable, qi_stable, qi_stable, qi_stable, qi_stable, qi_stable, qi_stable, qi_stable, qi_stable, qi_stable, qi_stable, qi_stable, qi_stable, qi_stable, qi_stable, qi_stable, qi_stable, trivial⟩ [3, 9, 13, 17] ⟨?_, ?_, ?_, ?_, ?_, ?_, ?_, ?_, ?_, ?_, ?_, ?_, ?_, ?_, ?_, ?_, ?_, ?_, ?_, ?_, trivial⟩ ?_
    · exact stq (fun E => ex_loadA rfl Try.underlying24 rfl (off := 0) (cs := [.int .i64 1, .int .i64 (1 + c0)]) (by kernel_rfl) (E.v oe15) (Cs.whole (((((((Hx20.out.mod Cx24.out (by intro h2; omega)).mod Cx29.out (by intro h2; omega)).mod Cx34.out (fun h => h)).mod Cx35.out (fun h => h)).mod Cx36.out (fun h => h)).mod Cx40.out (by intro h2; omega)).mod E.m.old (by intro h2; omega))))
    · exact stq (fun E => ex_move rfl (E.v oe13))
    · exact stq (fun E => ex_loadA rfl Try.underlying32 rfl (off := 0) (cs := c2.cells) (by rw [Cm.len HO2.out.2.1]; exact size_commit) (E.v oe16) (Cs.whole (Hx39.out.mod E.m.old (by intro h2; omega))))
    · exact stepq_chain rfl
    · exact stq (fun E => ex_not rfl (E.d 3))
    · exact stq (fun E => ex_move rfl (E.d 4))
    · refine stepq_env rfl rfl rfl fun _ _ _ _ _ hm _ hout hsz hd _ _ => ?_
      have h5 := hd ⟨5, .guard⟩ (by simp) rfl _ rfl
      refine qe_run rfl ((wanted_of rfl rfl (hsz 141 (by decide)) h5).trans rfl) (ex_loadA rfl Try.underlying24 rfl (off := 0) (cs := [.int .i64 1, .int .i64 (1 + c0)]) (by kernel_rfl) ((hout 15 (by decide)).trans oe15) (Cs.whole (((((((Hx20.out.mod Cx24.out (by intro h2; omega)).mod Cx29.out (by intro h2; omega)).mod Cx34.out (fun h => h)).mod Cx35.out (fun h => h)).mod Cx36.out (fun h => h)).mod Cx40.out (by intro h2; omega)).mod hm.old (by intro h2; omega)))) QE.refl ?_
      rfl
    · refine stepq_env rfl rfl rfl fun _ _ _ _ _ _ _ hout hsz hd _ _ => ?_
      have h5 := hd ⟨5, .guard⟩ (by simp) rfl _ rfl
      refine qe_run rfl ((wanted_of rfl rfl (hsz 141 (by decide)) h5).trans rfl) (ex_move rfl ((hout 13 (by decide)).trans oe13)) QE.refl ?_
      rfl
    · refine stepq_env rfl rfl rfl fun _ _ _ _ _ hm _ hout hsz hd _ _ => ?_
      have h5 := hd ⟨5, .guard⟩ (by simp) rfl _ rfl
      refine qe_run rfl ((wanted_of rfl rfl (hsz 141 (by decide)) h5).trans rfl) (ex_loadA rfl Try.underlying32 rfl (off := 0) (cs := c2.cells) (by rw [Cm.len HO2.out.2.1]; exact size_commit) ((hout 16 (by decide)).trans oe16) (Cs.whole (Hx39.out.mod hm.old (by intro h2; omega)))) QE.refl ?_
      rfl
    · exact stepq_chain rfl
    · refine stepq_env rfl rfl rfl fun _ _ _ _ _ hm _ hout hsz hd _ _ => ?_
      have h5 := hd ⟨5, .guard⟩ (by simp) rfl _ rfl
      refine qe_run rfl ((wanted_of rfl rfl (hsz 141 (by decide)) h5).trans rfl) (ex_loadA rfl Try.underlying24 rfl (off := 0) (cs := [.int .i64 1, .int .i64 (1 + c0)]) (by kernel_rfl) ((hout 15 (by decide)).trans oe15) (Cs.whole (((((((Hx20.out.mod Cx24.out (by intro h2; omega)).mod Cx29.out (by intro h2; omega)).mod Cx34.out (fun h => h)).mod Cx35.out (fun h => h)).mod Cx36.out (fun h => h)).mod Cx40.out (by intro h2; omega)).mod hm.old (by intro h2; omega)))) QE.refl ?_
      rfl
    · refine stepq_env rfl rfl rfl fun _ _ _ _ _ _ _ hout hsz hd _ _ => ?_
      have h5 := hd ⟨5, .guard⟩ (by simp) rfl _ rfl
      refine qe_run rfl ((wanted_of rfl rfl (hsz 141 (by decide)) h5).trans rfl) (ex_move rfl ((hout 14 (by decide)).trans oe14)) QE.refl ?_
      rfl
    · refine stepq_env rfl rfl rfl fun _ _ _ _ _ hm _ hout hsz hd _ _ => ?_
      have h5 := hd ⟨5, .guard⟩ (by simp) rfl _ rfl
      refine qe_run rfl ((wanted_of rfl rfl (hsz 141 (by decide)) h5).trans rfl) (ex_loadA rfl Try.underlying32 rfl (off := 0) (cs := c2.cells) (by rw [Cm.len HO2.out.2.1]; exact size_commit) ((hout 16 (by decide)).trans oe16) (Cs.whole (Hx39.out.mod hm.old (by intro h2; omega)))) QE.refl ?_
      rfl
    · exact stepq_chain rfl
    · refine stepq_env rfl rfl rfl fun _ _ _ _ _ _ _ _ hsz hd _ _ => ?_
      have h5 := hd ⟨5, .guard⟩ (by simp) rfl _ rfl
      have h9 := hd ⟨9, .data⟩ (by simp) rfl _ rfl
      have h13 := hd ⟨13, .data⟩ (by simp) rfl _ rfl
      refine qe_run rfl ((wanted_of rfl rfl (hsz 141 (by decide)) h5).trans rfl) (ex_binE rfl h9 h13 (guard_bools _ _ _ _ _ _) (run_eql_bools _ _ _ Try.underlying4) rfl) QE.refl ?_
      rfl
    · exact stq (fun E => ex_pick rfl (E.d 5) (E.d 14) rfl)
    · exact stq (fun E => ex_move rfl (E.d 15))
    · exact stepq_chain rfl
    · exact stq (fun E => ex_pick rfl (E.d 16) (E.d 17) rfl)
    · exact stq (fun E => ex_assign rfl (E.d 18))
    intro u27_0 hr
    have zu27_0 := hr.size
    have Cx41 := hid (hr.new (S := (fun _ => False)))
    clear hr
    refine QChain.go fun Z act E => ?_
    refine qc_callF (args := #[.agg #[.int .i64 1, .int .i64 (1 + c0)], .pointer (some ⟨g, 0, none⟩), c2.val]) rfl (wanted_none rfl) rfl Try.func21 (args3 (E.d 0) (E.d 1) (E.d 2)) ((by have hq := Right_Q ((((((Hx23.out.mod Cx29.out (by intro k h1 h2; omega)).mod Cx34.out (fun _ _ h => h)).mod Cx35.out (fun _ _ h => h)).mod Cx36.out (fun _ _ h => h)).mod Cx40.out (by intro k h1 h2; omega)).mod Cx41.out (fun _ _ h => h)) 1 (1 + c0) c2 HO2.out HS2.out; rw [HBD.out] at hq; exact hq)) ?_
    rintro e u27_1a ⟨rfl, hm⟩
    have zu27_1a := hm.size
    refine ⟨_, rfl, hm.mono (fun _ _ h => h.elim), (fun _ => rfl), ?_⟩
    intro u27_1 hr
    have zu27_1 := hr.size
    have Cx42 := hid (Cx41.out.go hm hr)
    clear Cx41 hm hr Z act E
    refine QChain.go fun Z act E => ?_
    refine qc_callF (args := #[.agg #[.int .i64 1, .int .i64 (1 + c0)], .pointer (some ⟨g, 0, none⟩), c2.val]) rfl ((wanted_of rfl rfl (E.sz 141 (by decide)) (E.e 5 .chain)).trans rfl) rfl Try.func21 (args3 (E.d 6) (E.d 7) (E.d 8)) ((by have hq := Right_Q ((((((Hx23.out.mod Cx29.out (by intro k h1 h2; omega)).mod Cx34.out (fun _ _ h => h)).mod Cx35.out (fun _ _ h => h)).mod Cx36.out (fun _ _ h => h)).mod Cx40.out (by intro k h1 h2; omega)).mod Cx42.out (fun _ _ h => h)) 1 (1 + c0) c2 HO2.out HS2.out; rw [HBD.out] at hq; exact hq)) ?_
    rintro e u27_2a ⟨rfl, hm⟩
    have zu27_2a := hm.size
    refine ⟨_, rfl, hm.mono (fun _ _ h => h.elim), (fun _ => rfl), ?_⟩
    intro u27_2 hr
    have zu27_2 := hr.size
    have Cx43 := hid (Cx42.out.go hm hr)
    clear Cx42 hm hr Z act E
    refine QChain.go fun Z act E => ?_
    refine qc_callF (args := #[.agg #[.int .i64 1, .int .i64 (1 + c0)], .pointer (some ⟨wB.heap.size, 0, none⟩), c2.val]) rfl ((wanted_of rfl rfl (E.sz 141 (by decide)) (E.e 5 .guard)).trans rfl) rfl Try.func22 (args3 (E.d 10) (E.d 11) (E.d 12)) ((by have hq := RefRightC_1 (((((Hx28.out.mod Cx34.out (fun _ _ h => h)).mod Cx35.out (fun _ _ h => h)).mod Cx36.out (fun _ _ h => h)).mod Cx40.out (by intro k h1 h2; omega)).mod Cx43.out (fun _ _ h => h)) (by intro k h1; omega) HKY.out 1 (1 + c0) c2 HO2.out HS2.out; rw [HBD.out] at hq; exact hq)) ?_
    rintro e u27_3a ⟨rfl, hm⟩
    have zu27_3a := hm.size
    refine ⟨_, rfl, hm.mono (fun _ _ h => h.elim), (fun _ => rfl), ?_⟩
    intro u27_3 hr
    have zu27_3 := hr.size
    have Cx44 := hid (Cx43.out.go hm hr)
    clear Cx43 hm hr Z act E
    refine QChain.go fun Z act E => ?_
    refine qc_callF (args := #[]) rfl ((wanted_of rfl rfl (E.sz 152 (by decide)) (E.e 16 .chain)).trans rfl) rfl Try.func16 args0 (wakes04 _) ?_
    rintro e u27_4a ⟨rfl, hm⟩
    have zu27_4a := hm.size
    refine ⟨_, rfl, hm.mono (fun _ _ h => h.elim), (fun _ => rfl), ?_⟩
    intro u27_4 hr
    have zu27_4 := hr.size
    have Cx45 := hid (Cx44.out.go hm hr)
    clear Cx44 hm hr Z act E
    refine QChain.nil fun vs hl hzz hrows hne => ?_
    obtain ⟨Z, hYZ, hZb, hV⟩ := hzz
    have f19 := fvi hV hl 19
    rw [show vs = [gw vs 0, gw vs 1, gw vs 2, gw vs 3, gw vs 4, gw vs 5, gw vs 6, gw vs 7, gw vs 8, gw vs 9, gw vs 10, gw vs 11, gw vs 12, gw vs 13, gw vs 14, gw vs 15, gw vs 16, gw vs 17, gw vs 18, gw vs 19] from (gw_eta hl).trans rfl]
    have ha0 := HA0.out
    subst ha0
    clear HA0 hV hYZ hZb hsz0 hrows hne oe13 oe14 oe15 oe16
    simp only [putAll, Act.put, List.setIfInBounds_toArray, List.set_cons_zero, List.set_cons_succ, f19]
    clear hl f19
    go_wp2
    go_ret
    exact ⟨rfl, ((((((((Hx16.out.trans Cx19.out (fun _ _ h => h.elim)).trans Cx24.out (by intro k h1 h2; omega)).trans Cx29.out (by intro k h1 h2; omega)).trans Cx34.out (fun _ _ h => h.elim)).trans Cx35.out (fun _ _ h => h.elim)).trans Cx36.out (fun _ _ h => h.elim)).trans Cx40.out (by intro k h1 h2; omega)).trans Cx45.out (fun _ _ h => h.elim))⟩
  · skip
    obtain ⟨c2, ec2⟩ : ∃ c, c = ({ (cm1 a b h bs) with ln := (bs.length : Int) + ((dn : Nat) : Int) } : Cm) := ⟨_, rfl⟩
    have HO2 := hid (show c2.OK by rw [ec2]; exact ⟨⟨IA.out, IB.out, (by have := HPL.out; have := HDN.out; unfold I64; show _ ≤ (bs.length : Int) + _ ∧ (bs.length : Int) + _ ≤ _; omega), HO1.out.1.2.2.2⟩, HO1.out.2⟩)
    have HBD := hid (show rightC [mkKey a b h bs] (1 + c0) c2 = false by rw [ec2]; exact bad_ln (k := 1 + c0) (by have := HDN.out; omega))
    have HS2 := hid (show I64 (1000 + c2.cl) by rw [ec2]; exact ISA.out)
    have HCX := Lib.hid ec2
    clear ec2
    go_upto_region 22 with (fail)
    generalize ha0 : Act.mk _ _ = a0
    have oe4 : a0.eval (.tmp 4) = .int .i64 ((dn : Nat) : Int) := by rw [← ha0]; rfl
    have oe16 : a0.eval (.tmp 16) = .pointer (some ⟨qx, 0, none⟩) := by rw [← ha0]; rfl
    have hsz0 : a0.tmps.size = 155 := by rw [← ha0]; rfl
    have HA0 := hid ha0
    clear ha0
    refine wp_region_Q1 155 hsz0 [113, 114, 115, 116, 117, 160] (fun k => (k = qx)) (fun k j => (k = 0 ∧ ((j = qx)))) (fun _ _ h => h.2) [qi (.pointer (some ⟨qx, 34, none⟩)), qi (.int .i64 (cm1 a b h bs).ln), qi (.int .i64 ((dn : Nat) : Int)), qi (.int .i64 ((bs.length : Int) + ((dn : Nat) : Int))), qi (.pointer (some ⟨qx, 34, none⟩)), qv 0] ⟨qi_stable, qi_stable, qi_stable, qi_stable, qi_stable, qv_stable, trivial⟩ [5] ⟨?_, ?_, ?_, ?_, ?_, ?_, trivial⟩ ?_
    · exact stq (fun E => ex_field rfl Try.underlying32 rfl (by kernel_rfl) (E.v oe16))
    · refine stepq_env rfl rfl rfl fun _ _ _ _ _ _ hm0 _ _ hd hub _ => ?_
      have h0 := hd ⟨0, .data⟩ (by simp) rfl _ rfl
      refine qe_run rfl (wanted_none rfl) (ex_load1 rfl Try.underlying3 rfl h0 ((((((Hx25.out.mod Cx29.out (by intro h2; omega)).mod Cx34.out (fun h => h)).mod Cx35.out (fun h => h)).mod Cx36.out (fun h => h)).mod hm0 (by intro h2; have hu := hub 0 5 rfl (by kernel_rfl); rcases h2 with ⟨h0, kk, hk, h2⟩ | h2 <;> omega)).c34 HO1.out.2.1)) QE.refl ?_
      rfl
    · exact stq (fun E => ex_move rfl (E.v oe4))
    · exact stq (fun E => ex_binE rfl (E.d 1) (E.d 2) (guard_ints _ _ _ _ _ _) (run_add_i _ _ Try.underlying3) (congrArg (Value.int .i64) (show IntKind.i64.wrap ((bs.length : Int) + ((dn : Nat) : Int)) = _ from IntWalk.i64_in _ (by have := HPL.out; have := HDN.out; omega))))
    · exact stq (fun E => ex_field rfl Try.underlying32 rfl (by kernel_rfl) (E.v oe16))
    · exact stepq_chain rfl
    intro u22_0 hr
    have zu22_0 := hr.size
    have Cx37 := hid (hr.new (S := (fun k => (k = qx))))
    have Hx38 := hid (((((Hx25.out.mod Cx29.out (by intro h2; omega)).mod Cx34.out (fun h => h)).mod Cx35.out (fun h => h)).mod Cx36.out (fun h => h)).mod hr (by intro h2; omega))
    clear Hx25
    clear hr
    refine QChain.go fun Z act E => ?_
    refine qc_store rfl (wanted_none rfl) rfl Hx38.out (off := 34) (vs := [.int .i64 ((bs.length : Int) + ((dn : Nat) : Int))]) (by kernel_rfl) (by intro u hu; simp at hu; subst hu; rfl) (by have hdn := HDN.out; rw [List.size_toArray, Cm.len (shaF_len _)]; simp only [List.length_cons, List.length_nil]; omega) (E.d 4) (by rw [show act.eval ((.tmp 116)) = _ from (E.d 3)]; rfl) ?_
    intro u22_1a qc0 hm
    have qqx : Cs u22_1a (qx) (c2.cells : List Value).toArray 32 := by rw [show lay _ 34 _ = (c2.cells : List Value).toArray from (by rw [HCX.out]; exact lay_ln _ _ (shaF_len _))] at qc0; exact qc0
    clear qc0
    have zu22_1a := hm.size
    refine ⟨hm.mono (by intro k hk h; omega), (fun _ => rfl), ?_⟩
    intro u22_1 hr
    have zu22_1 := hr.size
    have Hx39 := hid (qqx.mod hr (by intro h2; omega))
    have Cx40 := hid (Cx37.out.goM hm hr (fun _ _ h => h))
    clear Cx37 hm hr Z act E qqx Hx38
    refine QChain.nil fun vs hl hzz hrows hne => ?_
    obtain ⟨Z, hYZ, hZb, hV⟩ := hzz
    have f2 := fvi hV hl 2
    rw [show vs = [gw vs 0, gw vs 1, gw vs 2, gw vs 3, gw vs 4, gw vs 5] from (gw_eta hl).trans rfl]
    have ha0 := HA0.out
    subst ha0
    clear HA0 hV hYZ hZb hsz0 hrows hne oe4 oe16
    simp only [putAll, Act.put, List.setIfInBounds_toArray, List.set_cons_zero, List.set_cons_succ, List.set_nil, f2]
    clear hl f2
    go_upto_region 27 with (fail)
    generalize ha0 : Act.mk _ _ = a0
    have oe13 : a0.eval (.tmp 13) = .pointer (some ⟨g, 0, none⟩) := by rw [← ha0]; rfl
    have oe14 : a0.eval (.tmp 14) = .pointer (some ⟨wB.heap.size, 0, none⟩) := by rw [← ha0]; rfl
    have oe15 : a0.eval (.tmp 15) = .pointer (some ⟨qf, 0, none⟩) := by rw [← ha0]; rfl
    have oe16 : a0.eval (.tmp 16) = .pointer (some ⟨qx, 0, none⟩) := by rw [← ha0]; rfl
    have hsz0 : a0.tmps.size = 155 := by rw [← ha0]; rfl
    have HA0 := hid ha0
    clear ha0
    refine wp_region_Q0 155 hsz0 [136, 137, 138, 139, 140, 141, 142, 143, 144, 145, 146, 147, 148, 149, 150, 151, 152, 153, 154, 12] [qi (.agg #[.int .i64 1, .int .i64 (1 + c0)]), qi (.pointer (some ⟨g, 0, none⟩)), qi (c2.val), qi (.bool false), qi (.bool true), qi (.bool true), qi (.agg #[.int .i64 1, .int .i64 (1 + c0)]), qi (.pointer (some ⟨g, 0, none⟩)), qi (c2.val), qi (.bool false), qi (.agg #[.int .i64 1, .int .i64 (1 + c0)]), qi (.pointer (some ⟨wB.heap.size, 0, none⟩)), qi (c2.val), qi (.bool false), qi (.bool true), qi (.bool true), qi (.bool true), qi (.bool true), qi (.bool true), qi (.bool true)] ⟨qi_stable, qi_stable, qi_stable, qi_stable, qi_stable, qi_stable, qi_stable, qi_stable, qi_stable, qi_stable, qi_stable, qi_stable, qi_stable, qi_stable, qi_stable, qi_stable, qi_stable, qi_stable, qi_stable, qi_stable, trivial⟩ [3, 9, 13, 17] ⟨?_, ?_, ?_, ?_, ?_, ?_, ?_, ?_, ?_, ?_, ?_, ?_, ?_, ?_, ?_, ?_, ?_, ?_, ?_, ?_, trivial⟩ ?_
    · exact stq (fun E => ex_loadA rfl Try.underlying24 rfl (off := 0) (cs := [.int .i64 1, .int .i64 (1 + c0)]) (by kernel_rfl) (E.v oe15) (Cs.whole (((((((Hx20.out.mod Cx24.out (by intro h2; omega)).mod Cx29.out (by intro h2; omega)).mod Cx34.out (fun h => h)).mod Cx35.out (fun h => h)).mod Cx36.out (fun h => h)).mod Cx40.out (by intro h2; omega)).mod E.m.old (by intro h2; omega))))
    · exact stq (fun E => ex_move rfl (E.v oe13))
    · exact stq (fun E => ex_loadA rfl Try.underlying32 rfl (off := 0) (cs := c2.cells) (by rw [Cm.len HO2.out.2.1]; exact size_commit) (E.v oe16) (Cs.whole (Hx39.out.mod E.m.old (by intro h2; omega))))
    · exact stepq_chain rfl
    · exact stq (fun E => ex_not rfl (E.d 3))
    · exact stq (fun E => ex_move rfl (E.d 4))
    · refine stepq_env rfl rfl rfl fun _ _ _ _ _ hm _ hout hsz hd _ _ => ?_
      have h5 := hd ⟨5, .guard⟩ (by simp) rfl _ rfl
      refine qe_run rfl ((wanted_of rfl rfl (hsz 141 (by decide)) h5).trans rfl) (ex_loadA rfl Try.underlying24 rfl (off := 0) (cs := [.int .i64 1, .int .i64 (1 + c0)]) (by kernel_rfl) ((hout 15 (by decide)).trans oe15) (Cs.whole (((((((Hx20.out.mod Cx24.out (by intro h2; omega)).mod Cx29.out (by intro h2; omega)).mod Cx34.out (fun h => h)).mod Cx35.out (fun h => h)).mod Cx36.out (fun h => h)).mod Cx40.out (by intro h2; omega)).mod hm.old (by intro h2; omega)))) QE.refl ?_
      rfl
    · refine stepq_env rfl rfl rfl fun _ _ _ _ _ _ _ hout hsz hd _ _ => ?_
      have h5 := hd ⟨5, .guard⟩ (by simp) rfl _ rfl
      refine qe_run rfl ((wanted_of rfl rfl (hsz 141 (by decide)) h5).trans rfl) (ex_move rfl ((hout 13 (by decide)).trans oe13)) QE.refl ?_
      rfl
    · refine stepq_env rfl rfl rfl fun _ _ _ _ _ hm _ hout hsz hd _ _ => ?_
      have h5 := hd ⟨5, .guard⟩ (by simp) rfl _ rfl
      refine qe_run rfl ((wanted_of rfl rfl (hsz 141 (by decide)) h5).trans rfl) (ex_loadA rfl Try.underlying32 rfl (off := 0) (cs := c2.cells) (by rw [Cm.len HO2.out.2.1]; exact size_commit) ((hout 16 (by decide)).trans oe16) (Cs.whole (Hx39.out.mod hm.old (by intro h2; omega)))) QE.refl ?_
      rfl
    · exact stepq_chain rfl
    · refine stepq_env rfl rfl rfl fun _ _ _ _ _ hm _ hout hsz hd _ _ => ?_
      have h5 := hd ⟨5, .guard⟩ (by simp) rfl _ rfl
      refine qe_run rfl ((wanted_of rfl rfl (hsz 141 (by decide)) h5).trans rfl) (ex_loadA rfl Try.underlying24 rfl (off := 0) (cs := [.int .i64 1, .int .i64 (1 + c0)]) (by kernel_rfl) ((hout 15 (by decide)).trans oe15) (Cs.whole (((((((Hx20.out.mod Cx24.out (by intro h2; omega)).mod Cx29.out (by intro h2; omega)).mod Cx34.out (fun h => h)).mod Cx35.out (fun h => h)).mod Cx36.out (fun h => h)).mod Cx40.out (by intro h2; omega)).mod hm.old (by intro h2; omega)))) QE.refl ?_
      rfl
    · refine stepq_env rfl rfl rfl fun _ _ _ _ _ _ _ hout hsz hd _ _ => ?_
      have h5 := hd ⟨5, .guard⟩ (by simp) rfl _ rfl
      refine qe_run rfl ((wanted_of rfl rfl (hsz 141 (by decide)) h5).trans rfl) (ex_move rfl ((hout 14 (by decide)).trans oe14)) QE.refl ?_
      rfl
    · refine stepq_env rfl rfl rfl fun _ _ _ _ _ hm _ hout hsz hd _ _ => ?_
      have h5 := hd ⟨5, .guard⟩ (by simp) rfl _ rfl
      refine qe_run rfl ((wanted_of rfl rfl (hsz 141 (by decide)) h5).trans rfl) (ex_loadA rfl Try.underlying32 rfl (off := 0) (cs := c2.cells) (by rw [Cm.len HO2.out.2.1]; exact size_commit) ((hout 16 (by decide)).trans oe16) (Cs.whole (Hx39.out.mod hm.old (by intro h2; omega)))) QE.refl ?_
      rfl
    · exact stepq_chain rfl
    · refine stepq_env rfl rfl rfl fun _ _ _ _ _ _ _ _ hsz hd _ _ => ?_
      have h5 := hd ⟨5, .guard⟩ (by simp) rfl _ rfl
      have h9 := hd ⟨9, .data⟩ (by simp) rfl _ rfl
      have h13 := hd ⟨13, .data⟩ (by simp) rfl _ rfl
      refine qe_run rfl ((wanted_of rfl rfl (hsz 141 (by decide)) h5).trans rfl) (ex_binE rfl h9 h13 (guard_bools _ _ _ _ _ _) (run_eql_bools _ _ _ Try.underlying4) rfl) QE.refl ?_
      rfl
    · exact stq (fun E => ex_pick rfl (E.d 5) (E.d 14) rfl)
    · exact stq (fun E => ex_move rfl (E.d 15))
    · exact stepq_chain rfl
    · exact stq (fun E => ex_pick rfl (E.d 16) (E.d 17) rfl)
    · exact stq (fun E => ex_assign rfl (E.d 18))
    intro u27_0 hr
    have zu27_0 := hr.size
    have Cx41 := hid (hr.new (S := (fun _ => False)))
    clear hr
    refine QChain.go fun Z act E => ?_
    refine qc_callF (args := #[.agg #[.int .i64 1, .int .i64 (1 + c0)], .pointer (some ⟨g, 0, none⟩), c2.val]) rfl (wanted_none rfl) rfl Try.func21 (args3 (E.d 0) (E.d 1) (E.d 2)) ((by have hq := Right_Q ((((((Hx23.out.mod Cx29.out (by intro k h1 h2; omega)).mod Cx34.out (fun _ _ h => h)).mod Cx35.out (fun _ _ h => h)).mod Cx36.out (fun _ _ h => h)).mod Cx40.out (by intro k h1 h2; omega)).mod Cx41.out (fun _ _ h => h)) 1 (1 + c0) c2 HO2.out HS2.out; rw [HBD.out] at hq; exact hq)) ?_
    rintro e u27_1a ⟨rfl, hm⟩
    have zu27_1a := hm.size
    refine ⟨_, rfl, hm.mono (fun _ _ h => h.elim), (fun _ => rfl), ?_⟩
    intro u27_1 hr
    have zu27_1 := hr.size
    have Cx42 := hid (Cx41.out.go hm hr)
    clear Cx41 hm hr Z act E
    refine QChain.go fun Z act E => ?_
    refine qc_callF (args := #[.agg #[.int .i64 1, .int .i64 (1 + c0)], .pointer (some ⟨g, 0, none⟩), c2.val]) rfl ((wanted_of rfl rfl (E.sz 141 (by decide)) (E.e 5 .chain)).trans rfl) rfl Try.func21 (args3 (E.d 6) (E.d 7) (E.d 8)) ((by have hq := Right_Q ((((((Hx23.out.mod Cx29.out (by intro k h1 h2; omega)).mod Cx34.out (fun _ _ h => h)).mod Cx35.out (fun _ _ h => h)).mod Cx36.out (fun _ _ h => h)).mod Cx40.out (by intro k h1 h2; omega)).mod Cx42.out (fun _ _ h => h)) 1 (1 + c0) c2 HO2.out HS2.out; rw [HBD.out] at hq; exact hq)) ?_
    rintro e u27_2a ⟨rfl, hm⟩
    have zu27_2a := hm.size
    refine ⟨_, rfl, hm.mono (fun _ _ h => h.elim), (fun _ => rfl), ?_⟩
    intro u27_2 hr
    have zu27_2 := hr.size
    have Cx43 := hid (Cx42.out.go hm hr)
    clear Cx42 hm hr Z act E
    refine QChain.go fun Z act E => ?_
    refine qc_callF (args := #[.agg #[.int .i64 1, .int .i64 (1 + c0)], .pointer (some ⟨wB.heap.size, 0, none⟩), c2.val]) rfl ((wanted_of rfl rfl (E.sz 141 (by decide)) (E.e 5 .guard)).trans rfl) rfl Try.func22 (args3 (E.d 10) (E.d 11) (E.d 12)) ((by have hq := RefRightC_1 (((((Hx28.out.mod Cx34.out (fun _ _ h => h)).mod Cx35.out (fun _ _ h => h)).mod Cx36.out (fun _ _ h => h)).mod Cx40.out (by intro k h1 h2; omega)).mod Cx43.out (fun _ _ h => h)) (by intro k h1; omega) HKY.out 1 (1 + c0) c2 HO2.out HS2.out; rw [HBD.out] at hq; exact hq)) ?_
    rintro e u27_3a ⟨rfl, hm⟩
    have zu27_3a := hm.size
    refine ⟨_, rfl, hm.mono (fun _ _ h => h.elim), (fun _ => rfl), ?_⟩
    intro u27_3 hr
    have zu27_3 := hr.size
    have Cx44 := hid (Cx43.out.go hm hr)
    clear Cx43 hm hr Z act E
    refine QChain.go fun Z act E => ?_
    refine qc_callF (args := #[]) rfl ((wanted_of rfl rfl (E.sz 152 (by decide)) (E.e 16 .chain)).trans rfl) rfl Try.func16 args0 (wakes04 _) ?_
    rintro e u27_4a ⟨rfl, hm⟩
    have zu27_4a := hm.size
    refine ⟨_, rfl, hm.mono (fun _ _ h => h.elim), (fun _ => rfl), ?_⟩
    intro u27_4 hr
    have zu27_4 := hr.size
    have Cx45 := hid (Cx44.out.go hm hr)
    clear Cx44 hm hr Z act E
    refine QChain.nil fun vs hl hzz hrows hne => ?_
    obtain ⟨Z, hYZ, hZb, hV⟩ := hzz
    have f19 := fvi hV hl 19
    rw [show vs = [gw vs 0, gw vs 1, gw vs 2, gw vs 3, gw vs 4, gw vs 5, gw vs 6, gw vs 7, gw vs 8, gw vs 9, gw vs 10, gw vs 11, gw vs 12, gw vs 13, gw vs 14, gw vs 15, gw vs 16, gw vs 17, gw vs 18, gw vs 19] from (gw_eta hl).trans rfl]
    have ha0 := HA0.out
    subst ha0
    clear HA0 hV hYZ hZb hsz0 hrows hne oe13 oe14 oe15 oe16
    simp only [putAll, Act.put, List.setIfInBounds_toArray, List.set_cons_zero, List.set_cons_succ, f19]
    clear hl f19
    go_wp2
    go_ret
    exact ⟨rfl, ((((((((Hx16.out.trans Cx19.out (fun _ _ h => h.elim)).trans Cx24.out (by intro k h1 h2; omega)).trans Cx29.out (by intro k h1 h2; omega)).trans Cx34.out (fun _ _ h => h.elim)).trans Cx35.out (fun _ _ h => h.elim)).trans Cx36.out (fun _ _ h => h.elim)).trans Cx40.out (by intro k h1 h2; omega)).trans Cx45.out (fun _ _ h => h.elim))⟩
  · skip
    obtain ⟨c2, ec2⟩ : ∃ c, c = ({ (cm1 a b h bs) with mr := 1 + ((dn : Nat) : Int) } : Cm) := ⟨_, rfl⟩
    have HO2 := hid (show c2.OK by rw [ec2]; exact ⟨⟨IA.out, IB.out, HO1.out.1.2.2.1, ISA.out, (by have := HDN.out; unfold I64; show _ ≤ 1 + _ ∧ 1 + _ ≤ _; omega)⟩, HO1.out.2⟩)
    have HBD := hid (show rightC [mkKey a b h bs] (1 + c0) c2 = false by rw [ec2]; exact bad_mr (k := 1 + c0) (show ¬ 1 + ((dn : Nat) : Int) = 1 by have := HDN.out; omega))
    have HS2 := hid (show I64 (1000 + c2.cl) by rw [ec2]; exact ISA.out)
    have HCX := Lib.hid ec2
    clear ec2
    go_upto_region 24 with (fail)
    generalize ha0 : Act.mk _ _ = a0
    have oe4 : a0.eval (.tmp 4) = .int .i64 ((dn : Nat) : Int) := by rw [← ha0]; rfl
    have oe16 : a0.eval (.tmp 16) = .pointer (some ⟨qx, 0, none⟩) := by rw [← ha0]; rfl
    have hsz0 : a0.tmps.size = 155 := by rw [← ha0]; rfl
    have HA0 := hid ha0
    clear ha0
    refine wp_region_Q1 155 hsz0 [120, 121, 122, 123, 124, 125, 126, 162] (fun k => (k = qx)) (fun k j => (k = 0 ∧ ((j = qx)))) (fun _ _ h => h.2) [qi (.pointer (some ⟨qx, 35, none⟩)), qi (.pointer (some ⟨qx, 36, none⟩)), qi (.int .i64 (cm1 a b h bs).mr), qi (.int .i64 ((dn : Nat) : Int)), qi (.int .i64 (1 + ((dn : Nat) : Int))), qi (.pointer (some ⟨qx, 35, none⟩)), qi (.pointer (some ⟨qx, 36, none⟩)), qv 0] ⟨qi_stable, qi_stable, qi_stable, qi_stable, qi_stable, qi_stable, qi_stable, qv_stable, trivial⟩ [7] ⟨?_, ?_, ?_, ?_, ?_, ?_, ?_, ?_, trivial⟩ ?_
    · exact stq (fun E => ex_field rfl Try.underlying32 rfl (by kernel_rfl) (E.v oe16))
    · exact stq (fun E => ex_field rfl Try.underlying30 rfl (by kernel_rfl) (E.d 0))
    · refine stepq_env rfl rfl rfl fun _ _ _ _ _ _ hm0 _ _ hd hub _ => ?_
      have h1 := hd ⟨1, .data⟩ (by simp) rfl _ rfl
      refine qe_run rfl (wanted_none rfl) (ex_load1 rfl Try.underlying3 rfl h1 ((((((Hx25.out.mod Cx29.out (by intro h2; omega)).mod Cx34.out (fun h => h)).mod Cx35.out (fun h => h)).mod Cx36.out (fun h => h)).mod hm0 (by intro h2; have hu := hub 0 7 rfl (by kernel_rfl); rcases h2 with ⟨h0, kk, hk, h2⟩ | h2 <;> omega)).c36 HO1.out.2.1)) QE.refl ?_
      rfl
    · exact stq (fun E => ex_move rfl (E.v oe4))
    · exact stq (fun E => ex_binE rfl (E.d 2) (E.d 3) (guard_ints _ _ _ _ _ _) (run_add_i _ _ Try.underlying3) (congrArg (Value.int .i64) (show IntKind.i64.wrap (1 + ((dn : Nat) : Int)) = _ from IntWalk.i64_in _ (by have := HDN.out; omega))))
    · exact stq (fun E => ex_field rfl Try.underlying32 rfl (by kernel_rfl) (E.v oe16))
    · exact stq (fun E => ex_field rfl Try.underlying30 rfl (by kernel_rfl) (E.d 5))
    · exact stepq_chain rfl
    intro u24_0 hr
    have zu24_0 := hr.size
    have Cx37 := hid (hr.new (S := (fun k => (k = qx))))
    have Hx38 := hid (((((Hx25.out.mod Cx29.out (by intro h2; omega)).mod Cx34.out (fun h => h)).mod Cx35.out (fun h => h)).mod Cx36.out (fun h => h)).mod hr (by intro h2; omega))
    clear Hx25
    clear hr
    refine QChain.go fun Z act E => ?_
    refine qc_store rfl (wanted_none rfl) rfl Hx38.out (off := 36) (vs := [.int .i64 (1 + ((dn : Nat) : Int))]) (by kernel_rfl) (by intro u hu; simp at hu; subst hu; rfl) (by have hdn := HDN.out; rw [List.size_toArray, Cm.len (shaF_len _)]; simp only [List.length_cons, List.length_nil]; omega) (E.d 6) (by rw [show act.eval ((.tmp 124)) = _ from (E.d 4)]; rfl) ?_
    intro u24_1a qc0 hm
    have qqx : Cs u24_1a (qx) (c2.cells : List Value).toArray 32 := by rw [show lay _ 36 _ = (c2.cells : List Value).toArray from (by rw [HCX.out]; exact lay_mr _ _ (shaF_len _))] at qc0; exact qc0
    clear qc0
    have zu24_1a := hm.size
    refine ⟨hm.mono (by intro k hk h; omega), (fun _ => rfl), ?_⟩
    intro u24_1 hr
    have zu24_1 := hr.size
    have Hx39 := hid (qqx.mod hr (by intro h2; omega))
    have Cx40 := hid (Cx37.out.goM hm hr (fun _ _ h => h))
    clear Cx37 hm hr Z act E qqx Hx38
    refine QChain.nil fun vs hl hzz hrows hne => ?_
    obtain ⟨Z, hYZ, hZb, hV⟩ := hzz
    have f3 := fvi hV hl 3
    rw [show vs = [gw vs 0, gw vs 1, gw vs 2, gw vs 3, gw vs 4, gw vs 5, gw vs 6, gw vs 7] from (gw_eta hl).trans rfl]
    have ha0 := HA0.out
    subst ha0
    clear HA0 hV hYZ hZb hsz0 hrows hne oe4 oe16
    simp only [putAll, Act.put, List.setIfInBounds_toArray, List.set_cons_zero, List.set_cons_succ, List.set_nil, f3]
    clear hl f3
    go_upto_region 27 with (fail)
    generalize ha0 : Act.mk _ _ = a0
    have oe13 : a0.eval (.tmp 13) = .pointer (some ⟨g, 0, none⟩) := by rw [← ha0]; rfl
    have oe14 : a0.eval (.tmp 14) = .pointer (some ⟨wB.heap.size, 0, none⟩) := by rw [← ha0]; rfl
    have oe15 : a0.eval (.tmp 15) = .pointer (some ⟨qf, 0, none⟩) := by rw [← ha0]; rfl
    have oe16 : a0.eval (.tmp 16) = .pointer (some ⟨qx, 0, none⟩) := by rw [← ha0]; rfl
    have hsz0 : a0.tmps.size = 155 := by rw [← ha0]; rfl
    have HA0 := hid ha0
    clear ha0
    refine wp_region_Q0 155 hsz0 [136, 137, 138, 139, 140, 141, 142, 143, 144, 145, 146, 147, 148, 149, 150, 151, 152, 153, 154, 12] [qi (.agg #[.int .i64 1, .int .i64 (1 + c0)]), qi (.pointer (some ⟨g, 0, none⟩)), qi (c2.val), qi (.bool false), qi (.bool true), qi (.bool true), qi (.agg #[.int .i64 1, .int .i64 (1 + c0)]), qi (.pointer (some ⟨g, 0, none⟩)), qi (c2.val), qi (.bool false), qi (.agg #[.int .i64 1, .int .i64 (1 + c0)]), qi (.pointer (some ⟨wB.heap.size, 0, none⟩)), qi (c2.val), qi (.bool false), qi (.bool true), qi (.bool true), qi (.bool true), qi (.bool true), qi (.bool true), qi (.bool true)] ⟨qi_stable, qi_stable, qi_stable, qi_stable, qi_stable, qi_stable, qi_stable, qi_stable, qi_stable, qi_stable, qi_stable, qi_stable, qi_stable, qi_stable, qi_stable, qi_stable, qi_stable, qi_stable, qi_stable, qi_stable, trivial⟩ [3, 9, 13, 17] ⟨?_, ?_, ?_, ?_, ?_, ?_, ?_, ?_, ?_, ?_, ?_, ?_, ?_, ?_, ?_, ?_, ?_, ?_, ?_, ?_, trivial⟩ ?_
    · exact stq (fun E => ex_loadA rfl Try.underlying24 rfl (off := 0) (cs := [.int .i64 1, .int .i64 (1 + c0)]) (by kernel_rfl) (E.v oe15) (Cs.whole (((((((Hx20.out.mod Cx24.out (by intro h2; omega)).mod Cx29.out (by intro h2; omega)).mod Cx34.out (fun h => h)).mod Cx35.out (fun h => h)).mod Cx36.out (fun h => h)).mod Cx40.out (by intro h2; omega)).mod E.m.old (by intro h2; omega))))
    · exact stq (fun E => ex_move rfl (E.v oe13))
    · exact stq (fun E => ex_loadA rfl Try.underlying32 rfl (off := 0) (cs := c2.cells) (by rw [Cm.len HO2.out.2.1]; exact size_commit) (E.v oe16) (Cs.whole (Hx39.out.mod E.m.old (by intro h2; omega))))
    · exact stepq_chain rfl
    · exact stq (fun E => ex_not rfl (E.d 3))
    · exact stq (fun E => ex_move rfl (E.d 4))
    · refine stepq_env rfl rfl rfl fun _ _ _ _ _ hm _ hout hsz hd _ _ => ?_
      have h5 := hd ⟨5, .guard⟩ (by simp) rfl _ rfl
      refine qe_run rfl ((wanted_of rfl rfl (hsz 141 (by decide)) h5).trans rfl) (ex_loadA rfl Try.underlying24 rfl (off := 0) (cs := [.int .i64 1, .int .i64 (1 + c0)]) (by kernel_rfl) ((hout 15 (by decide)).trans oe15) (Cs.whole (((((((Hx20.out.mod Cx24.out (by intro h2; omega)).mod Cx29.out (by intro h2; omega)).mod Cx34.out (fun h => h)).mod Cx35.out (fun h => h)).mod Cx36.out (fun h => h)).mod Cx40.out (by intro h2; omega)).mod hm.old (by intro h2; omega)))) QE.refl ?_
      rfl
    · refine stepq_env rfl rfl rfl fun _ _ _ _ _ _ _ hout hsz hd _ _ => ?_
      have h5 := hd ⟨5, .guard⟩ (by simp) rfl _ rfl
      refine qe_run rfl ((wanted_of rfl rfl (hsz 141 (by decide)) h5).trans rfl) (ex_move rfl ((hout 13 (by decide)).trans oe13)) QE.refl ?_
      rfl
    · refine stepq_env rfl rfl rfl fun _ _ _ _ _ hm _ hout hsz hd _ _ => ?_
      have h5 := hd ⟨5, .guard⟩ (by simp) rfl _ rfl
      refine qe_run rfl ((wanted_of rfl rfl (hsz 141 (by decide)) h5).trans rfl) (ex_loadA rfl Try.underlying32 rfl (off := 0) (cs := c2.cells) (by rw [Cm.len HO2.out.2.1]; exact size_commit) ((hout 16 (by decide)).trans oe16) (Cs.whole (Hx39.out.mod hm.old (by intro h2; omega)))) QE.refl ?_
      rfl
    · exact stepq_chain rfl
    · refine stepq_env rfl rfl rfl fun _ _ _ _ _ hm _ hout hsz hd _ _ => ?_
      have h5 := hd ⟨5, .guard⟩ (by simp) rfl _ rfl
      refine qe_run rfl ((wanted_of rfl rfl (hsz 141 (by decide)) h5).trans rfl) (ex_loadA rfl Try.underlying24 rfl (off := 0) (cs := [.int .i64 1, .int .i64 (1 + c0)]) (by kernel_rfl) ((hout 15 (by decide)).trans oe15) (Cs.whole (((((((Hx20.out.mod Cx24.out (by intro h2; omega)).mod Cx29.out (by intro h2; omega)).mod Cx34.out (fun h => h)).mod Cx35.out (fun h => h)).mod Cx36.out (fun h => h)).mod Cx40.out (by intro h2; omega)).mod hm.old (by intro h2; omega)))) QE.refl ?_
      rfl
    · refine stepq_env rfl rfl rfl fun _ _ _ _ _ _ _ hout hsz hd _ _ => ?_
      have h5 := hd ⟨5, .guard⟩ (by simp) rfl _ rfl
      refine qe_run rfl ((wanted_of rfl rfl (hsz 141 (by decide)) h5).trans rfl) (ex_move rfl ((hout 14 (by decide)).trans oe14)) QE.refl ?_
      rfl
    · refine stepq_env rfl rfl rfl fun _ _ _ _ _ hm _ hout hsz hd _ _ => ?_
      have h5 := hd ⟨5, .guard⟩ (by simp) rfl _ rfl
      refine qe_run rfl ((wanted_of rfl rfl (hsz 141 (by decide)) h5).trans rfl) (ex_loadA rfl Try.underlying32 rfl (off := 0) (cs := c2.cells) (by rw [Cm.len HO2.out.2.1]; exact size_commit) ((hout 16 (by decide)).trans oe16) (Cs.whole (Hx39.out.mod hm.old (by intro h2; omega)))) QE.refl ?_
      rfl
    · exact stepq_chain rfl
    · refine stepq_env rfl rfl rfl fun _ _ _ _ _ _ _ _ hsz hd _ _ => ?_
      have h5 := hd ⟨5, .guard⟩ (by simp) rfl _ rfl
      have h9 := hd ⟨9, .data⟩ (by simp) rfl _ rfl
      have h13 := hd ⟨13, .data⟩ (by simp) rfl _ rfl
      refine qe_run rfl ((wanted_of rfl rfl (hsz 141 (by decide)) h5).trans rfl) (ex_binE rfl h9 h13 (guard_bools _ _ _ _ _ _) (run_eql_bools _ _ _ Try.underlying4) rfl) QE.refl ?_
      rfl
    · exact stq (fun E => ex_pick rfl (E.d 5) (E.d 14) rfl)
    · exact stq (fun E => ex_move rfl (E.d 15))
    · exact stepq_chain rfl
    · exact stq (fun E => ex_pick rfl (E.d 16) (E.d 17) rfl)
    · exact stq (fun E => ex_assign rfl (E.d 18))
    intro u27_0 hr
    have zu27_0 := hr.size
    have Cx41 := hid (hr.new (S := (fun _ => False)))
    clear hr
    refine QChain.go fun Z act E => ?_
    refine qc_callF (args := #[.agg #[.int .i64 1, .int .i64 (1 + c0)], .pointer (some ⟨g, 0, none⟩), c2.val]) rfl (wanted_none rfl) rfl Try.func21 (args3 (E.d 0) (E.d 1) (E.d 2)) ((by have hq := Right_Q ((((((Hx23.out.mod Cx29.out (by intro k h1 h2; omega)).mod Cx34.out (fun _ _ h => h)).mod Cx35.out (fun _ _ h => h)).mod Cx36.out (fun _ _ h => h)).mod Cx40.out (by intro k h1 h2; omega)).mod Cx41.out (fun _ _ h => h)) 1 (1 + c0) c2 HO2.out HS2.out; rw [HBD.out] at hq; exact hq)) ?_
    rintro e u27_1a ⟨rfl, hm⟩
    have zu27_1a := hm.size
    refine ⟨_, rfl, hm.mono (fun _ _ h => h.elim), (fun _ => rfl), ?_⟩
    intro u27_1 hr
    have zu27_1 := hr.size
    have Cx42 := hid (Cx41.out.go hm hr)
    clear Cx41 hm hr Z act E
    refine QChain.go fun Z act E => ?_
    refine qc_callF (args := #[.agg #[.int .i64 1, .int .i64 (1 + c0)], .pointer (some ⟨g, 0, none⟩), c2.val]) rfl ((wanted_of rfl rfl (E.sz 141 (by decide)) (E.e 5 .chain)).trans rfl) rfl Try.func21 (args3 (E.d 6) (E.d 7) (E.d 8)) ((by have hq := Right_Q ((((((Hx23.out.mod Cx29.out (by intro k h1 h2; omega)).mod Cx34.out (fun _ _ h => h)).mod Cx35.out (fun _ _ h => h)).mod Cx36.out (fun _ _ h => h)).mod Cx40.out (by intro k h1 h2; omega)).mod Cx42.out (fun _ _ h => h)) 1 (1 + c0) c2 HO2.out HS2.out; rw [HBD.out] at hq; exact hq)) ?_
    rintro e u27_2a ⟨rfl, hm⟩
    have zu27_2a := hm.size
    refine ⟨_, rfl, hm.mono (fun _ _ h => h.elim), (fun _ => rfl), ?_⟩
    intro u27_2 hr
    have zu27_2 := hr.size
    have Cx43 := hid (Cx42.out.go hm hr)
    clear Cx42 hm hr Z act E
    refine QChain.go fun Z act E => ?_
    refine qc_callF (args := #[.agg #[.int .i64 1, .int .i64 (1 + c0)], .pointer (some ⟨wB.heap.size, 0, none⟩), c2.val]) rfl ((wanted_of rfl rfl (E.sz 141 (by decide)) (E.e 5 .guard)).trans rfl) rfl Try.func22 (args3 (E.d 10) (E.d 11) (E.d 12)) ((by have hq := RefRightC_1 (((((Hx28.out.mod Cx34.out (fun _ _ h => h)).mod Cx35.out (fun _ _ h => h)).mod Cx36.out (fun _ _ h => h)).mod Cx40.out (by intro k h1 h2; omega)).mod Cx43.out (fun _ _ h => h)) (by intro k h1; omega) HKY.out 1 (1 + c0) c2 HO2.out HS2.out; rw [HBD.out] at hq; exact hq)) ?_
    rintro e u27_3a ⟨rfl, hm⟩
    have zu27_3a := hm.size
    refine ⟨_, rfl, hm.mono (fun _ _ h => h.elim), (fun _ => rfl), ?_⟩
    intro u27_3 hr
    have zu27_3 := hr.size
    have Cx44 := hid (Cx43.out.go hm hr)
    clear Cx43 hm hr Z act E
    refine QChain.go fun Z act E => ?_
    refine qc_callF (args := #[]) rfl ((wanted_of rfl rfl (E.sz 152 (by decide)) (E.e 16 .chain)).trans rfl) rfl Try.func16 args0 (wakes04 _) ?_
    rintro e u27_4a ⟨rfl, hm⟩
    have zu27_4a := hm.size
    refine ⟨_, rfl, hm.mono (fun _ _ h => h.elim), (fun _ => rfl), ?_⟩
    intro u27_4 hr
    have zu27_4 := hr.size
    have Cx45 := hid (Cx44.out.go hm hr)
    clear Cx44 hm hr Z act E
    refine QChain.nil fun vs hl hzz hrows hne => ?_
    obtain ⟨Z, hYZ, hZb, hV⟩ := hzz
    have f19 := fvi hV hl 19
    rw [show vs = [gw vs 0, gw vs 1, gw vs 2, gw vs 3, gw vs 4, gw vs 5, gw vs 6, gw vs 7, gw vs 8, gw vs 9, gw vs 10, gw vs 11, gw vs 12, gw vs 13, gw vs 14, gw vs 15, gw vs 16, gw vs 17, gw vs 18, gw vs 19] from (gw_eta hl).trans rfl]
    have ha0 := HA0.out
    subst ha0
    clear HA0 hV hYZ hZb hsz0 hrows hne oe13 oe14 oe15 oe16
    simp only [putAll, Act.put, List.setIfInBounds_toArray, List.set_cons_zero, List.set_cons_succ, f19]
    clear hl f19
    go_wp2
    go_ret
    exact ⟨rfl, ((((((((Hx16.out.trans Cx19.out (fun _ _ h => h.elim)).trans Cx24.out (by intro k h1 h2; omega)).trans Cx29.out (by intro k h1 h2; omega)).trans Cx34.out (fun _ _ h => h.elim)).trans Cx35.out (fun _ _ h => h.elim)).trans Cx36.out (fun _ _ h => h.elim)).trans Cx40.out (by intro k h1 h2; omega)).trans Cx45.out (fun _ _ h => h.elim))⟩
  · skip
    obtain ⟨c2, ec2⟩ : ∃ c, c = ({ (cm1 a b h bs) with sb := 1000 + a + ((dn : Nat) : Int) } : Cm) := ⟨_, rfl⟩
    have HO2 := hid (show c2.OK by rw [ec2]; exact ⟨⟨IA.out, IB.out, HO1.out.1.2.2.1, (by have := WA.out; have := HDN.out; unfold I64; show _ ≤ 1000 + a + _ ∧ 1000 + a + _ ≤ _; omega), HO1.out.1.2.2.2.2⟩, HO1.out.2⟩)
    have HBD := hid (show rightC [mkKey a b h bs] (1 + c0) c2 = false by rw [ec2]; exact bad_sb (k := 1 + c0) (show ¬ 1000 + a + ((dn : Nat) : Int) = 1000 + a by have := HDN.out; omega))
    have HS2 := hid (show I64 (1000 + c2.cl) by rw [ec2]; exact ISA.out)
    have HCX := Lib.hid ec2
    clear ec2
    go_upto_region 26 with (fail)
    generalize ha0 : Act.mk _ _ = a0
    have oe4 : a0.eval (.tmp 4) = .int .i64 ((dn : Nat) : Int) := by rw [← ha0]; rfl
    have oe16 : a0.eval (.tmp 16) = .pointer (some ⟨qx, 0, none⟩) := by rw [← ha0]; rfl
    have hsz0 : a0.tmps.size = 155 := by rw [← ha0]; rfl
    have HA0 := hid ha0
    clear ha0
    refine wp_region_Q1 155 hsz0 [129, 130, 131, 132, 133, 134, 135, 162] (fun k => (k = qx)) (fun k j => (k = 0 ∧ ((j = qx)))) (fun _ _ h => h.2) [qi (.pointer (some ⟨qx, 35, none⟩)), qi (.pointer (some ⟨qx, 35, none⟩)), qi (.int .i64 (cm1 a b h bs).sb), qi (.int .i64 ((dn : Nat) : Int)), qi (.int .i64 (1000 + a + ((dn : Nat) : Int))), qi (.pointer (some ⟨qx, 35, none⟩)), qi (.pointer (some ⟨qx, 35, none⟩)), qv 0] ⟨qi_stable, qi_stable, qi_stable, qi_stable, qi_stable, qi_stable, qi_stable, qv_stable, trivial⟩ [7] ⟨?_, ?_, ?_, ?_, ?_, ?_, ?_, ?_, trivial⟩ ?_
    · exact stq (fun E => ex_field rfl Try.underlying32 rfl (by kernel_rfl) (E.v oe16))
    · exact stq (fun E => ex_field rfl Try.underlying30 rfl (by kernel_rfl) (E.d 0))
    · refine stepq_env rfl rfl rfl fun _ _ _ _ _ _ hm0 _ _ hd hub _ => ?_
      have h1 := hd ⟨1, .data⟩ (by simp) rfl _ rfl
      refine qe_run rfl (wanted_none rfl) (ex_load1 rfl Try.underlying3 rfl h1 ((((((Hx25.out.mod Cx29.out (by intro h2; omega)).mod Cx34.out (fun h => h)).mod Cx35.out (fun h => h)).mod Cx36.out (fun h => h)).mod hm0 (by intro h2; have hu := hub 0 7 rfl (by kernel_rfl); rcases h2 with ⟨h0, kk, hk, h2⟩ | h2 <;> omega)).c35 HO1.out.2.1)) QE.refl ?_
      rfl
    · exact stq (fun E => ex_move rfl (E.v oe4))
    · exact stq (fun E => ex_binE rfl (E.d 2) (E.d 3) (guard_ints _ _ _ _ _ _) (run_add_i _ _ Try.underlying3) (congrArg (Value.int .i64) (show IntKind.i64.wrap (1000 + a + ((dn : Nat) : Int)) = _ from IntWalk.i64_in _ (by have := WA.out; have := HDN.out; omega))))
    · exact stq (fun E => ex_field rfl Try.underlying32 rfl (by kernel_rfl) (E.v oe16))
    · exact stq (fun E => ex_field rfl Try.underlying30 rfl (by kernel_rfl) (E.d 5))
    · exact stepq_chain rfl
    intro u26_0 hr
    have zu26_0 := hr.size
    have Cx37 := hid (hr.new (S := (fun k => (k = qx))))
    have Hx38 := hid (((((Hx25.out.mod Cx29.out (by intro h2; omega)).mod Cx34.out (fun h => h)).mod Cx35.out (fun h => h)).mod Cx36.out (fun h => h)).mod hr (by intro h2; omega))
    clear Hx25
    clear hr
    refine QChain.go fun Z act E => ?_
    refine qc_store rfl (wanted_none rfl) rfl Hx38.out (off := 35) (vs := [.int .i64 (1000 + a + ((dn : Nat) : Int))]) (by kernel_rfl) (by intro u hu; simp at hu; subst hu; rfl) (by have hdn := HDN.out; rw [List.size_toArray, Cm.len (shaF_len _)]; simp only [List.length_cons, List.length_nil]; omega) (E.d 6) (by rw [show act.eval ((.tmp 133)) = _ from (E.d 4)]; rfl) ?_
    intro u26_1a qc0 hm
    have qqx : Cs u26_1a (qx) (c2.cells : List Value).toArray 32 := by rw [show lay _ 35 _ = (c2.cells : List Value).toArray from (by rw [HCX.out]; exact lay_sb _ _ (shaF_len _))] at qc0; exact qc0
    clear qc0
    have zu26_1a := hm.size
    refine ⟨hm.mono (by intro k hk h; omega), (fun _ => rfl), ?_⟩
    intro u26_1 hr
    have zu26_1 := hr.size
    have Hx39 := hid (qqx.mod hr (by intro h2; omega))
    have Cx40 := hid (Cx37.out.goM hm hr (fun _ _ h => h))
    clear Cx37 hm hr Z act E qqx Hx38
    refine QChain.nil fun vs hl hzz hrows hne => ?_
    obtain ⟨Z, hYZ, hZb, hV⟩ := hzz
    have f3 := fvi hV hl 3
    rw [show vs = [gw vs 0, gw vs 1, gw vs 2, gw vs 3, gw vs 4, gw vs 5, gw vs 6, gw vs 7] from (gw_eta hl).trans rfl]
    have ha0 := HA0.out
    subst ha0
    clear HA0 hV hYZ hZb hsz0 hrows hne oe4 oe16
    simp only [putAll, Act.put, List.setIfInBounds_toArray, List.set_cons_zero, List.set_cons_succ, List.set_nil, f3]
    clear hl f3
    go_upto_region 27 with (fail)
    generalize ha0 : Act.mk _ _ = a0
    have oe13 : a0.eval (.tmp 13) = .pointer (some ⟨g, 0, none⟩) := by rw [← ha0]; rfl
    have oe14 : a0.eval (.tmp 14) = .pointer (some ⟨wB.heap.size, 0, none⟩) := by rw [← ha0]; rfl
    have oe15 : a0.eval (.tmp 15) = .pointer (some ⟨qf, 0, none⟩) := by rw [← ha0]; rfl
    have oe16 : a0.eval (.tmp 16) = .pointer (some ⟨qx, 0, none⟩) := by rw [← ha0]; rfl
    have hsz0 : a0.tmps.size = 155 := by rw [← ha0]; rfl
    have HA0 := hid ha0
    clear ha0
    refine wp_region_Q0 155 hsz0 [136, 137, 138, 139, 140, 141, 142, 143, 144, 145, 146, 147, 148, 149, 150, 151, 152, 153, 154, 12] [qi (.agg #[.int .i64 1, .int .i64 (1 + c0)]), qi (.pointer (some ⟨g, 0, none⟩)), qi (c2.val), qi (.bool false), qi (.bool true), qi (.bool true), qi (.agg #[.int .i64 1, .int .i64 (1 + c0)]), qi (.pointer (some ⟨g, 0, none⟩)), qi (c2.val), qi (.bool false), qi (.agg #[.int .i64 1, .int .i64 (1 + c0)]), qi (.pointer (some ⟨wB.heap.size, 0, none⟩)), qi (c2.val), qi (.bool false), qi (.bool true), qi (.bool true), qi (.bool true), qi (.bool true), qi (.bool true), qi (.bool true)] ⟨qi_stable, qi_stable, qi_stable, qi_stable, qi_stable, qi_stable, qi_stable, qi_stable, qi_stable, qi_stable, qi_stable, qi_stable, qi_stable, qi_stable, qi_stable, qi_stable, qi_stable, qi_stable, qi_stable, qi_stable, trivial⟩ [3, 9, 13, 17] ⟨?_, ?_, ?_, ?_, ?_, ?_, ?_, ?_, ?_, ?_, ?_, ?_, ?_, ?_, ?_, ?_, ?_, ?_, ?_, ?_, trivial⟩ ?_
    · exact stq (fun E => ex_loadA rfl Try.underlying24 rfl (off := 0) (cs := [.int .i64 1, .int .i64 (1 + c0)]) (by kernel_rfl) (E.v oe15) (Cs.whole (((((((Hx20.out.mod Cx24.out (by intro h2; omega)).mod Cx29.out (by intro h2; omega)).mod Cx34.out (fun h => h)).mod Cx35.out (fun h => h)).mod Cx36.out (fun h => h)).mod Cx40.out (by intro h2; omega)).mod E.m.old (by intro h2; omega))))
    · exact stq (fun E => ex_move rfl (E.v oe13))
    · exact stq (fun E => ex_loadA rfl Try.underlying32 rfl (off := 0) (cs := c2.cells) (by rw [Cm.len HO2.out.2.1]; exact size_commit) (E.v oe16) (Cs.whole (Hx39.out.mod E.m.old (by intro h2; omega))))
    · exact stepq_chain rfl
    · exact stq (fun E => ex_not rfl (E.d 3))
    · exact stq (fun E => ex_move rfl (E.d 4))
    · refine stepq_env rfl rfl rfl fun _ _ _ _ _ hm _ hout hsz hd _ _ => ?_
      have h5 := hd ⟨5, .guard⟩ (by simp) rfl _ rfl
      refine qe_run rfl ((wanted_of rfl rfl (hsz 141 (by decide)) h5).trans rfl) (ex_loadA rfl Try.underlying24 rfl (off := 0) (cs := [.int .i64 1, .int .i64 (1 + c0)]) (by kernel_rfl) ((hout 15 (by decide)).trans oe15) (Cs.whole (((((((Hx20.out.mod Cx24.out (by intro h2; omega)).mod Cx29.out (by intro h2; omega)).mod Cx34.out (fun h => h)).mod Cx35.out (fun h => h)).mod Cx36.out (fun h => h)).mod Cx40.out (by intro h2; omega)).mod hm.old (by intro h2; omega)))) QE.refl ?_
      rfl
    · refine stepq_env rfl rfl rfl fun _ _ _ _ _ _ _ hout hsz hd _ _ => ?_
      have h5 := hd ⟨5, .guard⟩ (by simp) rfl _ rfl
      refine qe_run rfl ((wanted_of rfl rfl (hsz 141 (by decide)) h5).trans rfl) (ex_move rfl ((hout 13 (by decide)).trans oe13)) QE.refl ?_
      rfl
    · refine stepq_env rfl rfl rfl fun _ _ _ _ _ hm _ hout hsz hd _ _ => ?_
      have h5 := hd ⟨5, .guard⟩ (by simp) rfl _ rfl
      refine qe_run rfl ((wanted_of rfl rfl (hsz 141 (by decide)) h5).trans rfl) (ex_loadA rfl Try.underlying32 rfl (off := 0) (cs := c2.cells) (by rw [Cm.len HO2.out.2.1]; exact size_commit) ((hout 16 (by decide)).trans oe16) (Cs.whole (Hx39.out.mod hm.old (by intro h2; omega)))) QE.refl ?_
      rfl
    · exact stepq_chain rfl
    · refine stepq_env rfl rfl rfl fun _ _ _ _ _ hm _ hout hsz hd _ _ => ?_
      have h5 := hd ⟨5, .guard⟩ (by simp) rfl _ rfl
      refine qe_run rfl ((wanted_of rfl rfl (hsz 141 (by decide)) h5).trans rfl) (ex_loadA rfl Try.underlying24 rfl (off := 0) (cs := [.int .i64 1, .int .i64 (1 + c0)]) (by kernel_rfl) ((hout 15 (by decide)).trans oe15) (Cs.whole (((((((Hx20.out.mod Cx24.out (by intro h2; omega)).mod Cx29.out (by intro h2; omega)).mod Cx34.out (fun h => h)).mod Cx35.out (fun h => h)).mod Cx36.out (fun h => h)).mod Cx40.out (by intro h2; omega)).mod hm.old (by intro h2; omega)))) QE.refl ?_
      rfl
    · refine stepq_env rfl rfl rfl fun _ _ _ _ _ _ _ hout hsz hd _ _ => ?_
      have h5 := hd ⟨5, .guard⟩ (by simp) rfl _ rfl
      refine qe_run rfl ((wanted_of rfl rfl (hsz 141 (by decide)) h5).trans rfl) (ex_move rfl ((hout 14 (by decide)).trans oe14)) QE.refl ?_
      rfl
    · refine stepq_env rfl rfl rfl fun _ _ _ _ _ hm _ hout hsz hd _ _ => ?_
      have h5 := hd ⟨5, .guard⟩ (by simp) rfl _ rfl
      refine qe_run rfl ((wanted_of rfl rfl (hsz 141 (by decide)) h5).trans rfl) (ex_loadA rfl Try.underlying32 rfl (off := 0) (cs := c2.cells) (by rw [Cm.len HO2.out.2.1]; exact size_commit) ((hout 16 (by decide)).trans oe16) (Cs.whole (Hx39.out.mod hm.old (by intro h2; omega)))) QE.refl ?_
      rfl
    · exact stepq_chain rfl
    · refine stepq_env rfl rfl rfl fun _ _ _ _ _ _ _ _ hsz hd _ _ => ?_
      have h5 := hd ⟨5, .guard⟩ (by simp) rfl _ rfl
      have h9 := hd ⟨9, .data⟩ (by simp) rfl _ rfl
      have h13 := hd ⟨13, .data⟩ (by simp) rfl _ rfl
      refine qe_run rfl ((wanted_of rfl rfl (hsz 141 (by decide)) h5).trans rfl) (ex_binE rfl h9 h13 (guard_bools _ _ _ _ _ _) (run_eql_bools _ _ _ Try.underlying4) rfl) QE.refl ?_
      rfl
    · exact stq (fun E => ex_pick rfl (E.d 5) (E.d 14) rfl)
    · exact stq (fun E => ex_move rfl (E.d 15))
    · exact stepq_chain rfl
    · exact stq (fun E => ex_pick rfl (E.d 16) (E.d 17) rfl)
    · exact stq (fun E => ex_assign rfl (E.d 18))
    intro u27_0 hr
    have zu27_0 := hr.size
    have Cx41 := hid (hr.new (S := (fun _ => False)))
    clear hr
    refine QChain.go fun Z act E => ?_
    refine qc_callF (args := #[.agg #[.int .i64 1, .int .i64 (1 + c0)], .pointer (some ⟨g, 0, none⟩), c2.val]) rfl (wanted_none rfl) rfl Try.func21 (args3 (E.d 0) (E.d 1) (E.d 2)) ((by have hq := Right_Q ((((((Hx23.out.mod Cx29.out (by intro k h1 h2; omega)).mod Cx34.out (fun _ _ h => h)).mod Cx35.out (fun _ _ h => h)).mod Cx36.out (fun _ _ h => h)).mod Cx40.out (by intro k h1 h2; omega)).mod Cx41.out (fun _ _ h => h)) 1 (1 + c0) c2 HO2.out HS2.out; rw [HBD.out] at hq; exact hq)) ?_
    rintro e u27_1a ⟨rfl, hm⟩
    have zu27_1a := hm.size
    refine ⟨_, rfl, hm.mono (fun _ _ h => h.elim), (fun _ => rfl), ?_⟩
    intro u27_1 hr
    have zu27_1 := hr.size
    have Cx42 := hid (Cx41.out.go hm hr)
    clear Cx41 hm hr Z act E
    refine QChain.go fun Z act E => ?_
    refine qc_callF (args := #[.agg #[.int .i64 1, .int .i64 (1 + c0)], .pointer (some ⟨g, 0, none⟩), c2.val]) rfl ((wanted_of rfl rfl (E.sz 141 (by decide)) (E.e 5 .chain)).trans rfl) rfl Try.func21 (args3 (E.d 6) (E.d 7) (E.d 8)) ((by have hq := Right_Q ((((((Hx23.out.mod Cx29.out (by intro k h1 h2; omega)).mod Cx34.out (fun _ _ h => h)).mod Cx35.out (fun _ _ h => h)).mod Cx36.out (fun _ _ h => h)).mod Cx40.out (by intro k h1 h2; omega)).mod Cx42.out (fun _ _ h => h)) 1 (1 + c0) c2 HO2.out HS2.out; rw [HBD.out] at hq; exact hq)) ?_
    rintro e u27_2a ⟨rfl, hm⟩
    have zu27_2a := hm.size
    refine ⟨_, rfl, hm.mono (fun _ _ h => h.elim), (fun _ => rfl), ?_⟩
    intro u27_2 hr
    have zu27_2 := hr.size
    have Cx43 := hid (Cx42.out.go hm hr)
    clear Cx42 hm hr Z act E
    refine QChain.go fun Z act E => ?_
    refine qc_callF (args := #[.agg #[.int .i64 1, .int .i64 (1 + c0)], .pointer (some ⟨wB.heap.size, 0, none⟩), c2.val]) rfl ((wanted_of rfl rfl (E.sz 141 (by decide)) (E.e 5 .guard)).trans rfl) rfl Try.func22 (args3 (E.d 10) (E.d 11) (E.d 12)) ((by have hq := RefRightC_1 (((((Hx28.out.mod Cx34.out (fun _ _ h => h)).mod Cx35.out (fun _ _ h => h)).mod Cx36.out (fun _ _ h => h)).mod Cx40.out (by intro k h1 h2; omega)).mod Cx43.out (fun _ _ h => h)) (by intro k h1; omega) HKY.out 1 (1 + c0) c2 HO2.out HS2.out; rw [HBD.out] at hq; exact hq)) ?_
    rintro e u27_3a ⟨rfl, hm⟩
    have zu27_3a := hm.size
    refine ⟨_, rfl, hm.mono (fun _ _ h => h.elim), (fun _ => rfl), ?_⟩
    intro u27_3 hr
    have zu27_3 := hr.size
    have Cx44 := hid (Cx43.out.go hm hr)
    clear Cx43 hm hr Z act E
    refine QChain.go fun Z act E => ?_
    refine qc_callF (args := #[]) rfl ((wanted_of rfl rfl (E.sz 152 (by decide)) (E.e 16 .chain)).trans rfl) rfl Try.func16 args0 (wakes04 _) ?_
    rintro e u27_4a ⟨rfl, hm⟩
    have zu27_4a := hm.size
    refine ⟨_, rfl, hm.mono (fun _ _ h => h.elim), (fun _ => rfl), ?_⟩
    intro u27_4 hr
    have zu27_4 := hr.size
    have Cx45 := hid (Cx44.out.go hm hr)
    clear Cx44 hm hr Z act E
    refine QChain.nil fun vs hl hzz hrows hne => ?_
    obtain ⟨Z, hYZ, hZb, hV⟩ := hzz
    have f19 := fvi hV hl 19
    rw [show vs = [gw vs 0, gw vs 1, gw vs 2, gw vs 3, gw vs 4, gw vs 5, gw vs 6, gw vs 7, gw vs 8, gw vs 9, gw vs 10, gw vs 11, gw vs 12, gw vs 13, gw vs 14, gw vs 15, gw vs 16, gw vs 17, gw vs 18, gw vs 19] from (gw_eta hl).trans rfl]
    have ha0 := HA0.out
    subst ha0
    clear HA0 hV hYZ hZb hsz0 hrows hne oe13 oe14 oe15 oe16
    simp only [putAll, Act.put, List.setIfInBounds_toArray, List.set_cons_zero, List.set_cons_succ, f19]
    clear hl f19
    go_wp2
    go_ret
    exact ⟨rfl, ((((((((Hx16.out.trans Cx19.out (fun _ _ h => h.elim)).trans Cx24.out (by intro k h1 h2; omega)).trans Cx29.out (by intro k h1 h2; omega)).trans Cx34.out (fun _ _ h => h.elim)).trans Cx35.out (fun _ _ h => h.elim)).trans Cx36.out (fun _ _ h => h.elim)).trans Cx40.out (by intro k h1 h2; omega)).trans Cx45.out (fun _ _ h => h.elim))⟩
  · skip
    obtain ⟨c2, ec2⟩ : ∃ c, c = ({ (cm1 a b h bs) with sb := 0, mr := 0 } : Cm) := ⟨_, rfl⟩
    have HO2 := hid (show c2.OK by rw [ec2]; exact ⟨⟨IA.out, IB.out, HO1.out.1.2.2.1, (show I64 0 by unfold I64; decide), (show I64 0 by unfold I64; decide)⟩, HO1.out.2⟩)
    have HBD := hid (show rightC [mkKey a b h bs] (1 + c0) c2 = false by rw [ec2]; exact bad_sb (k := 1 + c0) (show ¬ 0 = 1000 + a by have := WA.out; omega))
    have HS2 := hid (show I64 (1000 + c2.cl) by rw [ec2]; exact ISA.out)
    have HCX := Lib.hid ec2
    clear ec2
    go_upto_region 14 with (fail)
    generalize ha0 : Act.mk _ _ = a0
    have oe16 : a0.eval (.tmp 16) = .pointer (some ⟨qx, 0, none⟩) := by rw [← ha0]; rfl
    have hsz0 : a0.tmps.size = 155 := by rw [← ha0]; rfl
    have HA0 := hid ha0
    clear ha0
    refine wp_region_Q1 155 hsz0 [82, 83, 157] (fun k => (k = qx)) (fun k j => (k = 0 ∧ ((j = qx)))) (fun _ _ h => h.2) [qi (.agg #[.int .i64 0, .int .i64 0]), qi (.pointer (some ⟨qx, 35, none⟩)), qv 0] ⟨qi_stable, qi_stable, qv_stable, trivial⟩ [2] ⟨?_, ?_, ?_, trivial⟩ ?_
    · exact stq (fun E => ex_build0 rfl (r := #[.int .i64 0, .int .i64 0]) (by kernel_rfl))
    · exact stq (fun E => ex_field rfl Try.underlying32 rfl (by kernel_rfl) (E.v oe16))
    · exact stepq_chain rfl
    intro u14_0 hr
    have zu14_0 := hr.size
    have Cx37 := hid (hr.new (S := (fun k => (k = qx))))
    have Hx38 := hid (((((Hx25.out.mod Cx29.out (by intro h2; omega)).mod Cx34.out (fun h => h)).mod Cx35.out (fun h => h)).mod Cx36.out (fun h => h)).mod hr (by intro h2; omega))
    clear Hx25
    clear hr
    refine QChain.go fun Z act E => ?_
    refine qc_store rfl (wanted_none rfl) rfl Hx38.out (off := 35) (vs := [.int .i64 0, .int .i64 0]) (by kernel_rfl) (by intro u hu; simp at hu; subst hu; rfl) (by have hdn := HDN.out; rw [List.size_toArray, Cm.len (shaF_len _)]; simp only [List.length_cons, List.length_nil]; omega) (E.d 1) (by rw [show act.eval ((.tmp 82)) = _ from (E.d 0)]; rfl) ?_
    intro u14_1a qc0 hm
    have qqx : Cs u14_1a (qx) (c2.cells : List Value).toArray 32 := by rw [show lay _ 35 _ = (c2.cells : List Value).toArray from (by rw [HCX.out]; exact lay_sig _ _ _ (shaF_len _))] at qc0; exact qc0
    clear qc0
    have zu14_1a := hm.size
    refine ⟨hm.mono (by intro k hk h; omega), (fun _ => rfl), ?_⟩
    intro u14_1 hr
    have zu14_1 := hr.size
    have Hx39 := hid (qqx.mod hr (by intro h2; omega))
    have Cx40 := hid (Cx37.out.goM hm hr (fun _ _ h => h))
    clear Cx37 hm hr Z act E qqx Hx38
    refine QChain.nil fun vs hl hzz hrows hne => ?_
    obtain ⟨Z, hYZ, hZb, hV⟩ := hzz
    rw [show vs = [gw vs 0, gw vs 1, gw vs 2] from (gw_eta hl).trans rfl]
    have ha0 := HA0.out
    subst ha0
    clear HA0 hV hYZ hZb hsz0 hrows hne oe16
    simp only [putAll, Act.put, List.setIfInBounds_toArray, List.set_cons_zero, List.set_cons_succ, List.set_nil]
    clear hl
    go_upto_region 27 with (fail)
    generalize ha0 : Act.mk _ _ = a0
    have oe13 : a0.eval (.tmp 13) = .pointer (some ⟨g, 0, none⟩) := by rw [← ha0]; rfl
    have oe14 : a0.eval (.tmp 14) = .pointer (some ⟨wB.heap.size, 0, none⟩) := by rw [← ha0]; rfl
    have oe15 : a0.eval (.tmp 15) = .pointer (some ⟨qf, 0, none⟩) := by rw [← ha0]; rfl
    have oe16 : a0.eval (.tmp 16) = .pointer (some ⟨qx, 0, none⟩) := by rw [← ha0]; rfl
    have hsz0 : a0.tmps.size = 155 := by rw [← ha0]; rfl
    have HA0 := hid ha0
    clear ha0
    refine wp_region_Q0 155 hsz0 [136, 137, 138, 139, 140, 141, 142, 143, 144, 145, 146, 147, 148, 149, 150, 151, 152, 153, 154, 12] [qi (.agg #[.int .i64 1, .int .i64 (1 + c0)]), qi (.pointer (some ⟨g, 0, none⟩)), qi (c2.val), qi (.bool false), qi (.bool true), qi (.bool true), qi (.agg #[.int .i64 1, .int .i64 (1 + c0)]), qi (.pointer (some ⟨g, 0, none⟩)), qi (c2.val), qi (.bool false), qi (.agg #[.int .i64 1, .int .i64 (1 + c0)]), qi (.pointer (some ⟨wB.heap.size, 0, none⟩)), qi (c2.val), qi (.bool false), qi (.bool true), qi (.bool true), qi (.bool true), qi (.bool true), qi (.bool true), qi (.bool true)] ⟨qi_stable, qi_stable, qi_stable, qi_stable, qi_stable, qi_stable, qi_stable, qi_stable, qi_stable, qi_stable, qi_stable, qi_stable, qi_stable, qi_stable, qi_stable, qi_stable, qi_stable, qi_stable, qi_stable, qi_stable, trivial⟩ [3, 9, 13, 17] ⟨?_, ?_, ?_, ?_, ?_, ?_, ?_, ?_, ?_, ?_, ?_, ?_, ?_, ?_, ?_, ?_, ?_, ?_, ?_, ?_, trivial⟩ ?_
    · exact stq (fun E => ex_loadA rfl Try.underlying24 rfl (off := 0) (cs := [.int .i64 1, .int .i64 (1 + c0)]) (by kernel_rfl) (E.v oe15) (Cs.whole (((((((Hx20.out.mod Cx24.out (by intro h2; omega)).mod Cx29.out (by intro h2; omega)).mod Cx34.out (fun h => h)).mod Cx35.out (fun h => h)).mod Cx36.out (fun h => h)).mod Cx40.out (by intro h2; omega)).mod E.m.old (by intro h2; omega))))
    · exact stq (fun E => ex_move rfl (E.v oe13))
    · exact stq (fun E => ex_loadA rfl Try.underlying32 rfl (off := 0) (cs := c2.cells) (by rw [Cm.len HO2.out.2.1]; exact size_commit) (E.v oe16) (Cs.whole (Hx39.out.mod E.m.old (by intro h2; omega))))
    · exact stepq_chain rfl
    · exact stq (fun E => ex_not rfl (E.d 3))
    · exact stq (fun E => ex_move rfl (E.d 4))
    · refine stepq_env rfl rfl rfl fun _ _ _ _ _ hm _ hout hsz hd _ _ => ?_
      have h5 := hd ⟨5, .guard⟩ (by simp) rfl _ rfl
      refine qe_run rfl ((wanted_of rfl rfl (hsz 141 (by decide)) h5).trans rfl) (ex_loadA rfl Try.underlying24 rfl (off := 0) (cs := [.int .i64 1, .int .i64 (1 + c0)]) (by kernel_rfl) ((hout 15 (by decide)).trans oe15) (Cs.whole (((((((Hx20.out.mod Cx24.out (by intro h2; omega)).mod Cx29.out (by intro h2; omega)).mod Cx34.out (fun h => h)).mod Cx35.out (fun h => h)).mod Cx36.out (fun h => h)).mod Cx40.out (by intro h2; omega)).mod hm.old (by intro h2; omega)))) QE.refl ?_
      rfl
    · refine stepq_env rfl rfl rfl fun _ _ _ _ _ _ _ hout hsz hd _ _ => ?_
      have h5 := hd ⟨5, .guard⟩ (by simp) rfl _ rfl
      refine qe_run rfl ((wanted_of rfl rfl (hsz 141 (by decide)) h5).trans rfl) (ex_move rfl ((hout 13 (by decide)).trans oe13)) QE.refl ?_
      rfl
    · refine stepq_env rfl rfl rfl fun _ _ _ _ _ hm _ hout hsz hd _ _ => ?_
      have h5 := hd ⟨5, .guard⟩ (by simp) rfl _ rfl
      refine qe_run rfl ((wanted_of rfl rfl (hsz 141 (by decide)) h5).trans rfl) (ex_loadA rfl Try.underlying32 rfl (off := 0) (cs := c2.cells) (by rw [Cm.len HO2.out.2.1]; exact size_commit) ((hout 16 (by decide)).trans oe16) (Cs.whole (Hx39.out.mod hm.old (by intro h2; omega)))) QE.refl ?_
      rfl
    · exact stepq_chain rfl
    · refine stepq_env rfl rfl rfl fun _ _ _ _ _ hm _ hout hsz hd _ _ => ?_
      have h5 := hd ⟨5, .guard⟩ (by simp) rfl _ rfl
      refine qe_run rfl ((wanted_of rfl rfl (hsz 141 (by decide)) h5).trans rfl) (ex_loadA rfl Try.underlying24 rfl (off := 0) (cs := [.int .i64 1, .int .i64 (1 + c0)]) (by kernel_rfl) ((hout 15 (by decide)).trans oe15) (Cs.whole (((((((Hx20.out.mod Cx24.out (by intro h2; omega)).mod Cx29.out (by intro h2; omega)).mod Cx34.out (fun h => h)).mod Cx35.out (fun h => h)).mod Cx36.out (fun h => h)).mod Cx40.out (by intro h2; omega)).mod hm.old (by intro h2; omega)))) QE.refl ?_
      rfl
    · refine stepq_env rfl rfl rfl fun _ _ _ _ _ _ _ hout hsz hd _ _ => ?_
      have h5 := hd ⟨5, .guard⟩ (by simp) rfl _ rfl
      refine qe_run rfl ((wanted_of rfl rfl (hsz 141 (by decide)) h5).trans rfl) (ex_move rfl ((hout 14 (by decide)).trans oe14)) QE.refl ?_
      rfl
    · refine stepq_env rfl rfl rfl fun _ _ _ _ _ hm _ hout hsz hd _ _ => ?_
      have h5 := hd ⟨5, .guard⟩ (by simp) rfl _ rfl
      refine qe_run rfl ((wanted_of rfl rfl (hsz 141 (by decide)) h5).trans rfl) (ex_loadA rfl Try.underlying32 rfl (off := 0) (cs := c2.cells) (by rw [Cm.len HO2.out.2.1]; exact size_commit) ((hout 16 (by decide)).trans oe16) (Cs.whole (Hx39.out.mod hm.old (by intro h2; omega)))) QE.refl ?_
      rfl
    · exact stepq_chain rfl
    · refine stepq_env rfl rfl rfl fun _ _ _ _ _ _ _ _ hsz hd _ _ => ?_
      have h5 := hd ⟨5, .guard⟩ (by simp) rfl _ rfl
      have h9 := hd ⟨9, .data⟩ (by simp) rfl _ rfl
      have h13 := hd ⟨13, .data⟩ (by simp) rfl _ rfl
      refine qe_run rfl ((wanted_of rfl rfl (hsz 141 (by decide)) h5).trans rfl) (ex_binE rfl h9 h13 (guard_bools _ _ _ _ _ _) (run_eql_bools _ _ _ Try.underlying4) rfl) QE.refl ?_
      rfl
    · exact stq (fun E => ex_pick rfl (E.d 5) (E.d 14) rfl)
    · exact stq (fun E => ex_move rfl (E.d 15))
    · exact stepq_chain rfl
    · exact stq (fun E => ex_pick rfl (E.d 16) (E.d 17) rfl)
    · exact stq (fun E => ex_assign rfl (E.d 18))
    intro u27_0 hr
    have zu27_0 := hr.size
    have Cx41 := hid (hr.new (S := (fun _ => False)))
    clear hr
    refine QChain.go fun Z act E => ?_
    refine qc_callF (args := #[.agg #[.int .i64 1, .int .i64 (1 + c0)], .pointer (some ⟨g, 0, none⟩), c2.val]) rfl (wanted_none rfl) rfl Try.func21 (args3 (E.d 0) (E.d 1) (E.d 2)) ((by have hq := Right_Q ((((((Hx23.out.mod Cx29.out (by intro k h1 h2; omega)).mod Cx34.out (fun _ _ h => h)).mod Cx35.out (fun _ _ h => h)).mod Cx36.out (fun _ _ h => h)).mod Cx40.out (by intro k h1 h2; omega)).mod Cx41.out (fun _ _ h => h)) 1 (1 + c0) c2 HO2.out HS2.out; rw [HBD.out] at hq; exact hq)) ?_
    rintro e u27_1a ⟨rfl, hm⟩
    have zu27_1a := hm.size
    refine ⟨_, rfl, hm.mono (fun _ _ h => h.elim), (fun _ => rfl), ?_⟩
    intro u27_1 hr
    have zu27_1 := hr.size
    have Cx42 := hid (Cx41.out.go hm hr)
    clear Cx41 hm hr Z act E
    refine QChain.go fun Z act E => ?_
    refine qc_callF (args := #[.agg #[.int .i64 1, .int .i64 (1 + c0)], .pointer (some ⟨g, 0, none⟩), c2.val]) rfl ((wanted_of rfl rfl (E.sz 141 (by decide)) (E.e 5 .chain)).trans rfl) rfl Try.func21 (args3 (E.d 6) (E.d 7) (E.d 8)) ((by have hq := Right_Q ((((((Hx23.out.mod Cx29.out (by intro k h1 h2; omega)).mod Cx34.out (fun _ _ h => h)).mod Cx35.out (fun _ _ h => h)).mod Cx36.out (fun _ _ h => h)).mod Cx40.out (by intro k h1 h2; omega)).mod Cx42.out (fun _ _ h => h)) 1 (1 + c0) c2 HO2.out HS2.out; rw [HBD.out] at hq; exact hq)) ?_
    rintro e u27_2a ⟨rfl, hm⟩
    have zu27_2a := hm.size
    refine ⟨_, rfl, hm.mono (fun _ _ h => h.elim), (fun _ => rfl), ?_⟩
    intro u27_2 hr
    have zu27_2 := hr.size
    have Cx43 := hid (Cx42.out.go hm hr)
    clear Cx42 hm hr Z act E
    refine QChain.go fun Z act E => ?_
    refine qc_callF (args := #[.agg #[.int .i64 1, .int .i64 (1 + c0)], .pointer (some ⟨wB.heap.size, 0, none⟩), c2.val]) rfl ((wanted_of rfl rfl (E.sz 141 (by decide)) (E.e 5 .guard)).trans rfl) rfl Try.func22 (args3 (E.d 10) (E.d 11) (E.d 12)) ((by have hq := RefRightC_1 (((((Hx28.out.mod Cx34.out (fun _ _ h => h)).mod Cx35.out (fun _ _ h => h)).mod Cx36.out (fun _ _ h => h)).mod Cx40.out (by intro k h1 h2; omega)).mod Cx43.out (fun _ _ h => h)) (by intro k h1; omega) HKY.out 1 (1 + c0) c2 HO2.out HS2.out; rw [HBD.out] at hq; exact hq)) ?_
    rintro e u27_3a ⟨rfl, hm⟩
    have zu27_3a := hm.size
    refine ⟨_, rfl, hm.mono (fun _ _ h => h.elim), (fun _ => rfl), ?_⟩
    intro u27_3 hr
    have zu27_3 := hr.size
    have Cx44 := hid (Cx43.out.go hm hr)
    clear Cx43 hm hr Z act E
    refine QChain.go fun Z act E => ?_
    refine qc_callF (args := #[]) rfl ((wanted_of rfl rfl (E.sz 152 (by decide)) (E.e 16 .chain)).trans rfl) rfl Try.func16 args0 (wakes04 _) ?_
    rintro e u27_4a ⟨rfl, hm⟩
    have zu27_4a := hm.size
    refine ⟨_, rfl, hm.mono (fun _ _ h => h.elim), (fun _ => rfl), ?_⟩
    intro u27_4 hr
    have zu27_4 := hr.size
    have Cx45 := hid (Cx44.out.go hm hr)
    clear Cx44 hm hr Z act E
    refine QChain.nil fun vs hl hzz hrows hne => ?_
    obtain ⟨Z, hYZ, hZb, hV⟩ := hzz
    have f19 := fvi hV hl 19
    rw [show vs = [gw vs 0, gw vs 1, gw vs 2, gw vs 3, gw vs 4, gw vs 5, gw vs 6, gw vs 7, gw vs 8, gw vs 9, gw vs 10, gw vs 11, gw vs 12, gw vs 13, gw vs 14, gw vs 15, gw vs 16, gw vs 17, gw vs 18, gw vs 19] from (gw_eta hl).trans rfl]
    have ha0 := HA0.out
    subst ha0
    clear HA0 hV hYZ hZb hsz0 hrows hne oe13 oe14 oe15 oe16
    simp only [putAll, Act.put, List.setIfInBounds_toArray, List.set_cons_zero, List.set_cons_succ, f19]
    clear hl f19
    go_wp2
    go_ret
    exact ⟨rfl, ((((((((Hx16.out.trans Cx19.out (fun _ _ h => h.elim)).trans Cx24.out (by intro k h1 h2; omega)).trans Cx29.out (by intro k h1 h2; omega)).trans Cx34.out (fun _ _ h => h.elim)).trans Cx35.out (fun _ _ h => h.elim)).trans Cx36.out (fun _ _ h => h.elim)).trans Cx40.out (by intro k h1 h2; omega)).trans Cx45.out (fun _ _ h => h.elim))⟩
end Go.Proofs.Ytgnmdnmmemdemaa

set_option maxRecDepth 100000
set_option linter.unusedVariables false
namespace Go.Proofs.Ytgnmdnmmemdemaa.commitRight
open Go Go.RowKit Go.Gv Go.ChangeShapes Go.WideShapes Go.ChangeAt
open Go.ChangeMaps (open_string shut_string)

theorem own : ownKnob Try.prog.godebug = none := by kernel_rfl
theorem laidOut : laidOutB Try.prog = true := by kernel_rfl

theorem lifted (os : Os) (started : os.Started) (H : Type) (enc : TypeId × Value → H) :
    ReturnsInHanded {} Try.checked os 4 .any (Rows.commitRightSpec.pre6 enc Try.prog Try.f4 Rows.commitRightRow.domain false) (Rows.commitRightSpec.post enc Try.prog Try.f4 false true false false) := by
  refine returnsInHanded_of_change (C := Try.checked) own started (by kernel_rfl) Try.func4
    (ChangeSpec.witness6 (enc := enc) (C := Try.checked) false ⟨#[], #[.agg #[.int .i64 0, .int .i64 0], .agg #[.int .u8 0, .int .u8 0, .int .u8 0, .int .u8 0, .int .u8 0, .int .u8 0, .int .u8 0, .int .u8 0, .int .u8 0, .int .u8 0, .int .u8 0, .int .u8 0, .int .u8 0, .int .u8 0, .int .u8 0, .int .u8 0, .int .u8 0, .int .u8 0, .int .u8 0, .int .u8 0, .int .u8 0, .int .u8 0, .int .u8 0, .int .u8 0, .int .u8 0, .int .u8 0, .int .u8 0, .int .u8 0, .int .u8 0, .int .u8 0, .int .u8 0, .int .u8 0], .slice none 0 0, .int .i64 0, .int .i64 0, .int .i64 0], []⟩ 8 (by kernel_rfl) (by kernel_rfl) (by kernel_rfl) (by kernel_rfl)) ?_
  intro W base args ds gs before hval0 hW hcnd _
  have hval : ∀ (j : Nat) t v, Try.f4.params[j]? = some t → args[j]? = some v → Value.okWide Try.prog W .any base t v := hval0
  have hW' := hW
  obtain ⟨p, q, hA0, hV, rfl, hfz, hnd⟩ := hW
  have hA : DataW.TrodAll enc Try.prog W 0 (fun _ => true) true Try.f4.params.toList args.toList ds p := hA0
  rw [Try.params4] at hA hval
  obtain ⟨v0, vs0, d0, ds0, p0, q0, hargs, rfl, rfl, h0, r0⟩ := trodAll_cons hA
  obtain ⟨v1, vs1, d1, ds1, p1, q1, rfl, rfl, rfl, h1, r1⟩ := trodAll_cons r0
  obtain ⟨v2, vs2, d2, ds2, p2, q2, rfl, rfl, rfl, h2, r2⟩ := trodAll_cons r1
  obtain ⟨v3, vs3, d3, ds3, p3, q3, rfl, rfl, rfl, h3, r3⟩ := trodAll_cons r2
  obtain ⟨v4, vs4, d4, ds4, p4, q4, rfl, rfl, rfl, h4, r4⟩ := trodAll_cons r3
  obtain ⟨v5, vs5, d5, ds5, p5, q5, rfl, rfl, rfl, h5, r5⟩ := trodAll_cons r4
  obtain ⟨rfl, rfl, rfl⟩ := trodAll_nil r5
  obtain rfl : args = #[v0, v1, v2, v3, v4, v5] := by cases args; simp_all
  obtain ⟨rfl, rfl⟩ := trodVars_none hV
  have k0 := h0
  have lt0 : ∀ x ∈ p0, x.block < W.heap.size := by obtain ⟨m, hm⟩ := k0; exact DataW.trod_lt m _ _ _ hm
  have k1 := h1
  have lt1 : ∀ x ∈ p1, x.block < W.heap.size := by obtain ⟨m, hm⟩ := k1; exact DataW.trod_lt m _ _ _ hm
  have k2 := h2
  have lt2 : ∀ x ∈ p2, x.block < W.heap.size := by obtain ⟨m, hm⟩ := k2; exact DataW.trod_lt m _ _ _ hm
  have k3 := h3
  have lt3 : ∀ x ∈ p3, x.block < W.heap.size := by obtain ⟨m, hm⟩ := k3; exact DataW.trod_lt m _ _ _ hm
  have k4 := h4
  have lt4 : ∀ x ∈ p4, x.block < W.heap.size := by obtain ⟨m, hm⟩ := k4; exact DataW.trod_lt m _ _ _ hm
  have k5 := h5
  have lt5 : ∀ x ∈ p5, x.block < W.heap.size := by obtain ⟨m, hm⟩ := k5; exact DataW.trod_lt m _ _ _ hm
  obtain ⟨a0, c0, e0, n0, b0⟩ := name_of_trod (hval 0 26 v0 rfl rfl) h0
  subst e0
  obtain ⟨l1, e1, n1, b1⟩ := hash_of_trod (hval 1 28 v1 rfl rfl) h1
  subst e1
  obtain ⟨b2, w2, o2⟩ := bytes_of_trod (hval 2 36 v2 rfl rfl) h2
  obtain ⟨a3, rfl, rfl, rfl, w3⟩ := open_int Try.underlying3 (hval 3 3 v3 rfl rfl) h3
  obtain ⟨a4, rfl, rfl, rfl, w4⟩ := open_int Try.underlying3 (hval 4 3 v4 rfl rfl) h4
  obtain ⟨a5, rfl, rfl, rfl, w5⟩ := open_int Try.underlying3 (hval 5 3 v5 rfl rfl) h5
  clear hA0 hval0
  have hrd3 : RdR (fun k => k < W.heap.size) b2.length W v2 b2 := ⟨w2, w2.block_lt, Nat.le_refl _⟩
  refine (CommitRight_walk a0 c0 l1 b2 v2 a3 a4 a5 n0 b0 ⟨n1, b1⟩ (i64_bd w3) (i64_bd w4) (i64_bd w5) W hrd3).mono fun e W' ⟨he, hmod⟩ => ?_
  subst he
  have bel : Below W.heap.size W W' := hmod.below (Nat.le_refl _) (fun _ _ => id)
  exact ⟨_, rfl, _, _, _, [], _, [], hW', trodAll_mk1 (shut_bool Try.underlying4 _), (trodAll_cons_mk (Below.trod laidOut (by kernel_rfl) (of_decide_eq_true (by kernel_rfl)) k0 bel lt0) (trodAll_cons_mk (Below.trod laidOut (by kernel_rfl) (of_decide_eq_true (by kernel_rfl)) k1 bel lt1) (trodAll_cons_mk (Below.trod laidOut (by kernel_rfl) (of_decide_eq_true (by kernel_rfl)) k2 bel lt2) (trodAll_cons_mk (Below.trod laidOut (by kernel_rfl) (of_decide_eq_true (by kernel_rfl)) k3 bel lt3) (trodAll_cons_mk (Below.trod laidOut (by kernel_rfl) (of_decide_eq_true (by kernel_rfl)) k4 bel lt4) (trodAll_cons_mk (Below.trod laidOut (by kernel_rfl) (of_decide_eq_true (by kernel_rfl)) k5 bel lt5) trodAll_mk0)))))), rfl, bel.frame _, fun h => by cases h⟩

theorem over : Rows.commitRightRow.holds Try.pinned (OpenSpec.ofChange Rows.commitRightSpec) :=
  OpenClaim.holds_of_wide 4 Try.f4 rfl rfl rfl rfl rfl rfl rfl ⟨rfl, rfl, rfl, rfl, rfl⟩ rfl rfl rfl rfl rfl (by kernel_rfl) Try.func4 (by kernel_rfl)
    (of_decide_eq_true (by kernel_rfl)) (by unfold Func.isWrapper; first | (rw [if_pos (by decide +kernel)]; kernel_rfl) | (rw [if_neg (by decide +kernel)]; exact ⟨rfl, rfl⟩))
    (fun os started H enc _ => lifted os started H enc)

theorem proved : Rows.CommitRightSaid := over
end Go.Proofs.Ytgnmdnmmemdemaa.commitRight
