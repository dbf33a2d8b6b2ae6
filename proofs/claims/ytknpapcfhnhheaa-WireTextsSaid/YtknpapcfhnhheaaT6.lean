/- Texts that are built one behind the other: XWt1, XRf1. No condition. -/
import Derived.Test.YtknpapcfhnhheaaT5
/- Package wire: the texts that are signed, a batch's hash. -/
set_option maxRecDepth 100000
set_option linter.unusedVariables false
namespace Go.Proofs.Ytknpapcfhnhheaa
open Go Go.RowKit Go.Gv


/-- a word, as a row -/
def wordB (s : ByteArray) : List Int := encN (bytesOf s).length ++ bytesOf s
abbrev wStamp : ByteArray := { data := #[115, 116, 97, 109, 112] }
abbrev wAck : ByteArray := { data := #[97, 99, 107] }
abbrev wProm : ByteArray := { data := #[112, 114, 111, 109, 105, 115, 101] }
abbrev wDeny : ByteArray := { data := #[100, 101, 110, 121] }
abbrev wProp : ByteArray := { data := #[112, 114, 111, 112, 111, 115, 97, 108] }
abbrev wVote : ByteArray := { data := #[118, 111, 116, 101] }
def stampT (x : St) : List Int := wordB wStamp ++ (encI x.rp ++ (nameB x.cl x.sq ++ (x.h ++ encN x.tm)))
def ackT (x : St) : List Int := wordB wAck ++ (encI x.rp ++ (nameB x.cl x.sq ++ (x.h ++ encN x.tm)))
def promT (x : Pm) : List Int := wordB wProm ++ (encI x.rp ++ (encI x.ep ++ (encN x.fl ++ listB ceB x.l)))
def denyT (x : Dn) : List Int := wordB wDeny ++ (encI x.rp ++ encI x.ix)
def propT (x : Pr) : List Int := wordB wProp ++ (encI x.ep ++ (encI x.rn ++ (encI (x.vl + 1) ++ (encI x.rp ++ shaF (baB x.ba)))))
def voteT (x : Vt) : List Int := wordB wVote ++ (encI x.kd ++ (encI x.ep ++ (encI x.rd ++ (encI x.rp ++ x.h))))
/-- a function from a thing to bytes; to a hash -/
def Makes {α : Type} (A : Rep α) (F : FuncId) (f : α → List Int) : Prop := ∀ (R2 : Nat → Prop) (cs : List Value) (x : α) (w : World), A.rd R2 w cs x → (∀ k, R2 k → k < w.heap.size) → (f x).length ≤ 900000 →
  Calls Try.prog F #[.agg cs.toArray] w fun e w' => ∃ v', e = .returned v' ∧ OwR (New w w') 900000 w' v' (f x) ∧ Mod (fun _ => False) w w'
def Hashes {α : Type} (A : Rep α) (F : FuncId) (f : α → List Int) : Prop := ∀ (R2 : Nat → Prop) (cs : List Value) (x : α) (w : World), A.rd R2 w cs x → (∀ k, R2 k → k < w.heap.size) → (f x).length ≤ 900000 →
  Calls Try.prog F #[.agg cs.toArray] w fun e w' => e = .returned (hv (shaF (f x))) ∧ Mod (fun _ => False) w w'
set_option maxHeartbeats 2000000 in
theorem text_Q (s : ByteArray) (w : World) (hs : s.size ≤ 1000) : Calls Try.prog 63 #[.string s] w fun e w' => ∃ g, e = .returned (.pointer (some ⟨g, 0, none⟩)) ∧ WrR (New w w') 900000 w' g (wordB s) ∧ Mod (fun _ => False) w w' := by
  have HS := Lib.hid hs
  have HL := hid (show ([] ++ (encN (bytesOf s).length ++ bytesOf s)).length ≤ 900000 by have := (encN_len10 (n := (bytesOf s).length) (by unfold U64; rw [bytesOf_len]; omega)).2; simp only [List.nil_append, List.length_append]; rw [bytesOf_len] at *; omega)
  clear hs
  go_enter Try.func63, Try.ntmps63
  go_upto_region 1 with (fail)
  have HM0 := hid (Mod.refl (fun _ => False) w)
  go_upto_region 1 with (fail)
  generalize ha0 : Act.mk _ _ = a0
  have oe0 : a0.eval (.tmp 0) = .string s := by rw [← ha0]; rfl
  have hsz0 : a0.tmps.size = 7 := by rw [← ha0]; rfl
  have HA0 := hid ha0
  clear ha0
  refine wp_region_Q0 7 hsz0 [3, 4, 5, 6, 2] [qv 0, qi (.string s), qr w.heap.size (fun _ => False) (fun R w v => RdR R 1000000 w v (bytesOf s)), qv 1, qv 1] ⟨qv_stable, qi_stable, (qr_stable rdR_cells), qv_stable, qv_stable, trivial⟩ [0, 3] ⟨?_, ?_, ?_, ?_, ?_, trivial⟩ ?_
  · exact stepq_chain rfl
  · exact stq (fun E => ex_move rfl (E.v oe0))
  · refine stepq_env rfl rfl rfl fun _ _ _ _ hZ hm _ _ _ hd _ _ => ?_
    have h1 := hd ⟨1, .data⟩ (by simp) rfl _ rfl
    exact qe_strB rfl (wanted_none rfl) rfl h1 (by have := HS.out; omega) hm.size (fun j hj => (hZ j hj).2) (fun _ _ h => h)
  · exact stepq_chain rfl
  · refine stepq_env rfl rfl rfl fun _ _ _ _ _ _ _ _ _ hd _ _ => ?_
    have h3 := hd ⟨3, .data⟩ (by simp) rfl _ rfl
    exact qe_run rfl (wanted_none rfl) (ex_assign rfl rfl) QE.refl h3
  intro u1_0 hr
  have zu1_0 := hr.size
  have Cx1 := hid (hr.new (S := (fun _ => False)))
  clear hr
  refine QChain.go fun Z act E => ?_
  refine qc_callF (args := #[]) rfl (wanted_none rfl) rfl Try.func44 args0 (NewWriter_Q _) ?_
  rintro e u1_1a ⟨g, rfl, qwr, hm⟩
  have zu1_1a := hm.size
  refine ⟨_, rfl, hm.mono (fun _ _ h => h.elim), (fun _ => rfl), ?_⟩
  intro u1_1 hr
  have zu1_1 := hr.size
  have Hx2 := hid ((qwr.widen (R' := (fun k => (New u1_0 u1_1a k))) (fun _ h => h) (Nat.le_refl _)).mod hr (by intro k h1 h2; omega))
  have Cx3 := hid (Cx1.out.go hm hr)
  clear Cx1 hm hr Z act E qwr
  refine QChain.go fun Z act E => ?_
  have h2q : qr w.heap.size (fun _ => False) (fun R w v => RdR R 1000000 w v (bytesOf s)) Z ([] ++ [.pointer (some ⟨g, 0, none⟩)]) (act.eval (.tmp 5)) _ := E.d 2
  obtain ⟨R2, hR2, hrd2⟩ := h2q
  refine qc_callF (args := #[.pointer (some ⟨g, 0, none⟩), act.eval (.tmp 5)]) rfl (wanted_none rfl) rfl Try.func107 (args2 (chv (v := .pointer (some ⟨g, 0, none⟩)) (E.d 0)) rfl) (WRow_Q Hx2.out hrd2 (by intro k h1 h2; have hr2 := hR2 k h1; exact hr2.2.2 ⟨by omega, E.YZ k (by (try dsimp only); omega)⟩) HL.out) ?_
  rintro e u1_2a ⟨rfl, qwr, hm⟩
  have zu1_2a := hm.size
  refine ⟨_, rfl, hm.mono (by intro k hk h; omega), (fun _ => rfl), ?_⟩
  intro u1_2 hr
  have zu1_2 := hr.size
  have Hx4 := hid ((qwr.widen (R' := (fun k => (New u1_0 u1_1a k) ∨ (New u1_1 u1_2a k))) (fun _ h => h) (Nat.le_refl _)).mod hr (by intro k h1 h2; omega))
  have Cx5 := hid (Cx3.out.goM hm hr (by intro k h0 h2; omega))
  clear Cx3 hm hr qwr Hx2
  refine QChain.nil fun vs hl hzz hrows hne => ?_
  obtain ⟨Z, hYZ, hZb, hV⟩ := hzz
  have f0 := fvc hV hl 0
  have f1 := fvi hV hl 1
  have f3 := fvc hV hl 3
  have f4 := fvc hV hl 4
  rw [show vs = [gw vs 0, gw vs 1, gw vs 2, gw vs 3, gw vs 4] from (gw_eta hl).trans rfl]
  have ha0 := HA0.out
  subst ha0
  clear HA0 hV hYZ hZb hsz0 hrows hne oe0
  simp only [putAll, Act.put, List.setIfInBounds_toArray, List.set_cons_zero, List.set_cons_succ, f0, f1, f3, f4]
  clear hl f0 f1 f3 f4
  go_wp2
  go_ret
  have hq := (Hx4.out.widen (R' := (fun k => New w u1_2 k)) (by intro k h1; omega) (Nat.le_refl _))
  rw [List.nil_append] at hq
  exact ⟨_, rfl, hq, (HM0.out.trans Cx5.out (fun _ _ h => h.elim))⟩
set_option maxHeartbeats 4000000 in
theorem StampText_Q : Makes StR 14 stampT := by
  intro R2 cs x w hx hB2 hl
  obtain ⟨rfl, hok⟩ := hx
  have HBT := Lib.hid hB2
  have HOK := Lib.hid hok
  have HL := Lib.hid hl
  clear hB2 hl hok
  unfold stampT wStamp at HL
  go_enter Try.func14, Try.ntmps14
  go_upto_region 1 with (fail)
  obtain ⟨w1, hw1⟩ : ∃ zz, zz = (w.alloc (.cells (x.cells : List Value).toArray 30)) := ⟨_, rfl⟩
  change Code.wp _ _ _ _ (w.alloc (.cells (x.cells : List Value).toArray 30))
  rw [← hw1]
  have HB1 := hid (show Cs w1 (w.heap.size) (x.cells : List Value).toArray 30 by rw [hw1]; exact Cs.new _ _ _)
  have hm : Mod (fun _ => False) w w1 := by rw [hw1]; exact (Mod.refl _ _).alloc _
  have HM0 := hid (show Mod (fun _ => False) w w1 from hm.mono (fun _ _ h => h.elim))
  have hs1 : w1.heap.size = w.heap.size + 1 := by rw [hw1]; simp
  clear hw1 hm
  go_upto_region 1 with (fail)
  generalize ha0 : Act.mk _ _ = a0
  have oe1 : a0.eval (.tmp 1) = .pointer (some ⟨w.heap.size, 0, none⟩) := by rw [← ha0]; rfl
  have hsz0 : a0.tmps.size = 20 := by rw [← ha0]; rfl
  have HA0 := hid ha0
  clear ha0
  refine wp_region_Q0 20 hsz0 [4, 5, 6, 7, 3] [qv 0, qi (.pointer (some ⟨w.heap.size, 0, none⟩)), qi (.int .i64 x.rp), qv 1, qv 1] ⟨qv_stable, qi_stable, qi_stable, qv_stable, qv_stable, trivial⟩ [0, 3] ⟨?_, ?_, ?_, ?_, ?_, trivial⟩ ?_
  · exact stepq_chain rfl
  · exact stq (fun E => ex_field rfl Try.underlying30 rfl (by kernel_rfl) (E.v oe1))
  · exact stq (fun E => ex_load1 rfl Try.underlying3 rfl (E.d 1) (Cs.pre1 (HB1.out.mod E.m.old (by intro h2; omega)) rfl))
  · exact stepq_chain rfl
  · refine stepq_env rfl rfl rfl fun _ _ _ _ _ _ _ _ _ hd _ _ => ?_
    have h3 := hd ⟨3, .data⟩ (by simp) rfl _ rfl
    exact qe_run rfl (wanted_none rfl) (ex_assign rfl rfl) QE.refl h3
  intro u1_0 hr
  have zu1_0 := hr.size
  have Cx1 := hid (hr.new (S := (fun _ => False)))
  clear hr
  refine QChain.go fun Z act E => ?_
  refine qc_callF (args := #[.string { data := #[115, 116, 97, 109, 112] }]) rfl (wanted_none rfl) rfl Try.func63 (args1 rfl) (text_Q { data := #[115, 116, 97, 109, 112] } _ (by decide)) ?_
  rintro e u1_1a ⟨g, rfl, qwr, hm⟩
  have zu1_1a := hm.size
  refine ⟨_, rfl, hm.mono (fun _ _ h => h.elim), (fun _ => rfl), ?_⟩
  intro u1_1 hr
  have zu1_1 := hr.size
  have Hx2 := hid ((qwr.widen (R' := (fun k => (New u1_0 u1_1a k))) (fun _ h => h) (Nat.le_refl _)).mod hr (by intro k h1 h2; omega))
  have Cx3 := hid (Cx1.out.go hm hr)
  clear Cx1 hm hr Z act E qwr
  refine QChain.go fun Z act E => ?_
  refine qc_callF (args := #[.pointer (some ⟨g, 0, none⟩), .int .i64 x.rp]) rfl (wanted_none rfl) rfl Try.func64 (args2 (chv (v := .pointer (some ⟨g, 0, none⟩)) (E.d 0)) (E.d 2)) (WInt_Q Hx2.out HOK.out.rp (by have := HL.out; simp only [List.length_append] at this ⊢; omega)) ?_
  rintro e u1_2a ⟨rfl, qwr, hm⟩
  have zu1_2a := hm.size
  refine ⟨_, rfl, hm.mono (by intro k hk h; omega), (fun _ => rfl), ?_⟩
  intro u1_2 hr
  have zu1_2 := hr.size
  have Hx4 := hid ((qwr.widen (R' := (fun k => (New u1_0 u1_1a k) ∨ (New u1_1 u1_2a k))) (fun _ h => h) (Nat.le_refl _)).mod hr (by intro k h1 h2; omega))
  have Cx5 := hid (Cx3.out.goM hm hr (by intro k h0 h2; omega))
  clear Cx3 hm hr Z act E qwr Hx2
  refine QChain.nil fun vs hl hzz hrows hne => ?_
  obtain ⟨Z, hYZ, hZb, hV⟩ := hzz
  have f0 := fvc hV hl 0
  have f3 := fvc hV hl 3
  have f4 := fvc hV hl 4
  rw [show vs = [gw vs 0, gw vs 1, gw vs 2, gw vs 3, gw vs 4] from (gw_eta hl).trans rfl]
  have ha0 := HA0.out
  subst ha0
  clear HA0 hV hYZ hZb hsz0 hrows hne oe1
  simp only [putAll, Act.put, List.setIfInBounds_toArray, List.set_cons_zero, List.set_cons_succ, f0, f3, f4]
  clear hl f0 f3 f4
  go_upto_region 2 with (fail)
  generalize ha0 : Act.mk _ _ = a0
  have oe1 : a0.eval (.tmp 1) = .pointer (some ⟨w.heap.size, 0, none⟩) := by rw [← ha0]; rfl
  have oe3 : a0.eval (.tmp 3) = .pointer (some ⟨g, 0, none⟩) := by rw [← ha0]; rfl
  have hsz0 : a0.tmps.size = 20 := by rw [← ha0]; rfl
  have HA0 := hid ha0
  clear ha0
  refine wp_region_Q1 20 hsz0 [8, 9, 10, 11] (fun k => (New u1_0 u1_1a k) ∨ (New u1_1 u1_2a k)) (fun k j => (k = 0 ∧ ((New u1_0 u1_1a j) ∨ (New u1_1 u1_2a j)))) (fun _ _ h => h.2) [qi (.pointer (some ⟨g, 0, none⟩)), qi (.pointer (some ⟨w.heap.size, 1, none⟩)), qi (.agg #[.int .i64 x.cl, .int .i64 x.sq]), qi (.tuple #[])] ⟨qi_stable, qi_stable, qi_stable, qi_stable, trivial⟩ [3] ⟨?_, ?_, ?_, ?_, trivial⟩ ?_
  · exact stq (fun E => ex_move rfl (E.v oe3))
  · exact stq (fun E => ex_field rfl Try.underlying30 rfl (by kernel_rfl) (E.v oe1))
  · exact stq (fun E => ex_loadA rfl Try.underlying23 rfl (off := 1) (cs := [.int .i64 x.cl, .int .i64 x.sq]) (by kernel_rfl) (E.d 1) (Cs.preA ((HB1.out.mod Cx5.out (fun h => h)).mod E.m (by intro h2; omega)) rfl))
  · exact stepq_chain rfl
  intro u2_0 hr
  have zu2_0 := hr.size
  have Cx6 := hid (hr.new (S := (fun k => (New u1_0 u1_1a k) ∨ (New u1_1 u1_2a k))))
  have Hx7 := hid (Hx4.out.mod hr (by intro k h1 h2; omega))
  clear Hx4
  clear hr
  refine QChain.go fun Z act E => ?_
  refine qc_callF (args := #[.pointer (some ⟨g, 0, none⟩), .agg #[.int .i64 x.cl, .int .i64 x.sq]]) rfl (wanted_none rfl) rfl Try.func65 (args2 (E.d 0) (E.d 2)) (PutName_Q Hx7.out (by intro k h1; omega) HOK.out.cl HOK.out.sq (by have := HL.out; simp only [List.length_append] at this ⊢; omega)) ?_
  rintro e u2_1a ⟨rfl, qwr, hm⟩
  have zu2_1a := hm.size
  refine ⟨_, rfl, hm.mono (by intro k hk h; omega), (fun _ => rfl), ?_⟩
  intro u2_1 hr
  have zu2_1 := hr.size
  have Hx8 := hid ((qwr.widen (R' := (fun k => (New u1_0 u1_1a k) ∨ (New u1_1 u1_2a k) ∨ (New u2_0 u2_1a k))) (by intro k h1; omega) (Nat.le_refl _)).mod hr (by intro k h1 h2; omega))
  have Cx9 := hid (Cx6.out.goM hm hr (fun _ _ h => h))
  clear Cx6 hm hr Z act E qwr Hx7
  refine QChain.nil fun vs hl hzz hrows hne => ?_
  obtain ⟨Z, hYZ, hZb, hV⟩ := hzz
  have f0 := fvi hV hl 0
  have f3 := fvi hV hl 3
  rw [show vs = [gw vs 0, gw vs 1, gw vs 2, gw vs 3] from (gw_eta hl).trans rfl]
  have ha0 := HA0.out
  subst ha0
  clear HA0 hV hYZ hZb hsz0 hrows hne oe1 oe3
  simp only [putAll, Act.put, List.setIfInBounds_toArray, List.set_cons_zero, List.set_cons_succ, f0, f3]
  clear hl f0 f3
  go_upto_region 3 with (fail)
  generalize ha0 : Act.mk _ _ = a0
  have oe1 : a0.eval (.tmp 1) = .pointer (some ⟨w.heap.size, 0, none⟩) := by rw [← ha0]; rfl
  have oe3 : a0.eval (.tmp 3) = .pointer (some ⟨g, 0, none⟩) := by rw [← ha0]; rfl
  have hsz0 : a0.tmps.size = 20 := by rw [← ha0]; rfl
  have HA0 := hid ha0
  clear ha0
  refine wp_region_Q1 20 hsz0 [12, 13, 14, 15, 16, 17, 18, 19, 2] (fun k => (New u1_0 u1_1a k) ∨ (New u1_1 u1_2a k) ∨ (New u2_0 u2_1a k)) (fun k j => (k = 0 ∧ ((New u1_0 u1_1a j) ∨ (New u1_1 u1_2a j) ∨ (New u2_0 u2_1a j))) ∨ (k = 1 ∧ ((New u1_0 u1_1a j) ∨ (New u1_1 u1_2a j) ∨ (New u2_0 u2_1a j)))) (by intro k j h; (try dsimp only at h ⊢); omega) [qi (.pointer (some ⟨g, 0, none⟩)), qi (.pointer (some ⟨w.heap.size, 3, none⟩)), qi (hv x.h), qi (.pointer (some ⟨g, 0, none⟩)), qi (.pointer (some ⟨w.heap.size, 35, none⟩)), qi (.int .u64 (x.tm : Nat)), qi (.pointer (some ⟨g, 0, none⟩)), qv 2, qv 2] ⟨qi_stable, qi_stable, qi_stable, qi_stable, qi_stable, qi_stable, qi_stable, qv_stable, qv_stable, trivial⟩ [3, 6, 7] ⟨?_, ?_, ?_, ?_, ?_, ?_, ?_, ?_, ?_, trivial⟩ ?_
  · exact stq (fun E => ex_move rfl (E.v oe3))
  · exact stq (fun E => ex_field rfl Try.underlying30 rfl (by kernel_rfl) (E.v oe1))
  · exact stq (fun E => ex_loadA rfl Try.underlying25 rfl (off := 3) (cs := x.h.map bv) (by rw [List.length_map, HOK.out.h.1]; exact size_hash) (E.d 1) (Cs.midA (((HB1.out.mod Cx5.out (fun h => h)).mod Cx9.out (by intro h2; omega)).mod E.m (by intro h2; omega)) rfl))
  · exact stepq_chain rfl
  · exact stq (fun E => ex_field rfl Try.underlying30 rfl (by kernel_rfl) (E.v oe1))
  · exact stq (fun E => ex_load1 rfl Try.underlying26 rfl (E.d 4) (Cs.post1 (m := 32) (k := 0) (((HB1.out.mod Cx5.out (fun h => h)).mod Cx9.out (by intro h2; omega)).mod E.m (by intro h2; omega)) (by rw [List.length_map]; exact HOK.out.h.1) rfl rfl))
  · exact stepq_chain rfl
  · exact stepq_chain rfl
  · refine stepq_env rfl rfl rfl fun _ _ _ _ _ _ _ _ _ hd _ _ => ?_
    have h7 := hd ⟨7, .data⟩ (by simp) rfl _ rfl
    exact qe_run rfl (wanted_none rfl) (ex_assign rfl rfl) QE.refl h7
  intro u3_0 hr
  have zu3_0 := hr.size
  have Cx10 := hid (hr.new (S := (fun k => (New u1_0 u1_1a k) ∨ (New u1_1 u1_2a k) ∨ (New u2_0 u2_1a k))))
  have Hx11 := hid (Hx8.out.mod hr (by intro k h1 h2; omega))
  clear Hx8
  clear hr
  refine QChain.go fun Z act E => ?_
  refine qc_callF (args := #[.pointer (some ⟨g, 0, none⟩), hv x.h]) rfl (wanted_none rfl) rfl Try.func66 (args2 (E.d 0) (E.d 2)) (WHash_Q Hx11.out HOK.out.h (by have := HL.out; simp only [List.length_append] at this ⊢; omega)) ?_
  rintro e u3_1a ⟨rfl, qwr, hm⟩
  have zu3_1a := hm.size
  refine ⟨_, rfl, hm.mono (by intro k hk h; omega), (fun _ => rfl), ?_⟩
  intro u3_1 hr
  have zu3_1 := hr.size
  have Hx12 := hid ((qwr.widen (R' := (fun k => (New u1_0 u1_1a k) ∨ (New u1_1 u1_2a k) ∨ (New u2_0 u2_1a k) ∨ (New u3_0 u3_1a k))) (by intro k h1; omega) (Nat.le_refl _)).mod hr (by intro k h1 h2; omega))
  have Cx13 := hid (Cx10.out.goM hm hr (fun _ _ h => h))
  clear Cx10 hm hr Z act E qwr Hx11
  refine QChain.go fun Z act E => ?_
  refine qc_callF (args := #[.pointer (some ⟨g, 0, none⟩), .int .u64 (x.tm : Nat)]) rfl (wanted_none rfl) rfl Try.func67 (args2 (E.d 3) (E.d 5)) (WNum_Q Hx12.out HOK.out.tm (by have := HL.out; simp only [List.length_append] at this ⊢; omega)) ?_
  rintro e u3_2a ⟨rfl, qwr, hm⟩
  have zu3_2a := hm.size
  refine ⟨_, rfl, hm.mono (by intro k hk h; omega), (fun _ => rfl), ?_⟩
  intro u3_2 hr
  have zu3_2 := hr.size
  have Hx14 := hid ((qwr.widen (R' := (fun k => (New u1_0 u1_1a k) ∨ (New u1_1 u1_2a k) ∨ (New u2_0 u2_1a k) ∨ (New u3_0 u3_1a k) ∨ (New u3_1 u3_2a k))) (by intro k h1; omega) (Nat.le_refl _)).mod hr (by intro k h1 h2; omega))
  have Cx15 := hid (Cx13.out.goM hm hr (by intro k h0 h2; omega))
  clear Cx13 hm hr Z act E qwr Hx12
  refine QChain.go fun Z act E => ?_
  refine qc_callF (args := #[.pointer (some ⟨g, 0, none⟩)]) rfl (wanted_none rfl) rfl Try.func50 (args1 (E.d 6)) (WBytes_Q Hx14.out) ?_
  rintro e u3_3a ⟨vb, rfl, qout, hm⟩
  have zu3_3a := hm.size
  refine ⟨_, rfl, hm.mono (fun _ _ h => h.elim), (fun _ => rfl), ?_⟩
  intro u3_3 hr
  have zu3_3 := hr.size
  have Hx16 := hid ((qout.widen (R' := (fun k => (New u3_2 u3_3a k))) (fun _ h => h) (Nat.le_refl _)).mod hr (by intro k h1 h2; omega))
  have hmr := Mod.after hm hr
  have Hx17 := hid (Hx14.out.mod hmr (by intro k h1 h2; omega))
  clear Hx14
  clear hmr
  have Cx18 := hid (Cx15.out.go hm hr)
  clear Cx15 hm hr Z act E qout
  refine QChain.nil fun vs hl hzz hrows hne => ?_
  obtain ⟨Z, hYZ, hZb, hV⟩ := hzz
  have f0 := fvi hV hl 0
  have f3 := fvi hV hl 3
  have f6 := fvi hV hl 6
  have f7 := fvc hV hl 7
  have f8 := fvc hV hl 8
  rw [show vs = [gw vs 0, gw vs 1, gw vs 2, gw vs 3, gw vs 4, gw vs 5, gw vs 6, gw vs 7, gw vs 8] from (gw_eta hl).trans rfl]
  have ha0 := HA0.out
  subst ha0
  clear HA0 hV hYZ hZb hsz0 hrows hne oe1 oe3
  simp only [putAll, Act.put, List.setIfInBounds_toArray, List.set_cons_zero, List.set_cons_succ, f0, f3, f6, f7, f8]
  clear hl f0 f3 f6 f7 f8
  go_wp2
  go_ret
  have hq := (Hx16.out.widen (R' := (fun k => New w u3_3 k)) (by intro k h1; omega) (Nat.le_refl _))
  simp only [List.append_assoc, List.nil_append] at hq
  exact ⟨vb, rfl, by simpa only [stampT, wStamp, List.append_assoc] using hq, (((HM0.out.trans Cx5.out (fun _ _ h => h.elim)).trans Cx9.out (by intro k h1 h2; omega)).trans Cx18.out (by intro k h1 h2; omega))⟩
set_option maxHeartbeats 4000000 in
theorem AckText_Q : Makes StR 17 ackT := by
  intro R2 cs x w hx hB2 hl
  obtain ⟨rfl, hok⟩ := hx
  have HBT := Lib.hid hB2
  have HOK := Lib.hid hok
  have HL := Lib.hid hl
  clear hB2 hl hok
  unfold ackT wAck at HL
  go_enter Try.func17, Try.ntmps17
  go_upto_region 1 with (fail)
  obtain ⟨w1, hw1⟩ : ∃ zz, zz = (w.alloc (.cells (x.cells : List Value).toArray 44)) := ⟨_, rfl⟩
  change Code.wp _ _ _ _ (w.alloc (.cells (x.cells : List Value).toArray 44))
  rw [← hw1]
  have HB1 := hid (show Cs w1 (w.heap.size) (x.cells : List Value).toArray 44 by rw [hw1]; exact Cs.new _ _ _)
  have hm : Mod (fun _ => False) w w1 := by rw [hw1]; exact (Mod.refl _ _).alloc _
  have HM0 := hid (show Mod (fun _ => False) w w1 from hm.mono (fun _ _ h => h.elim))
  have hs1 : w1.heap.size = w.heap.size + 1 := by rw [hw1]; simp
  clear hw1 hm
  go_upto_region 1 with (fail)
  generalize ha0 : Act.mk _ _ = a0
  have oe1 : a0.eval (.tmp 1) = .pointer (some ⟨w.heap.size, 0, none⟩) := by rw [← ha0]; rfl
  have hsz0 : a0.tmps.size = 20 := by rw [← ha0]; rfl
  have HA0 := hid ha0
  clear ha0
  refine wp_region_Q0 20 hsz0 [4, 5, 6, 7, 3] [qv 0, qi (.pointer (some ⟨w.heap.size, 0, none⟩)), qi (.int .i64 x.rp), qv 1, qv 1] ⟨qv_stable, qi_stable, qi_stable, qv_stable, qv_stable, trivial⟩ [0, 3] ⟨?_, ?_, ?_, ?_, ?_, trivial⟩ ?_
  · exact stepq_chain rfl
  · exact stq (fun E => ex_field rfl Try.underlying44 rfl (by kernel_rfl) (E.v oe1))
  · exact stq (fun E => ex_load1 rfl Try.underlying3 rfl (E.d 1) (Cs.pre1 (HB1.out.mod E.m.old (by intro h2; omega)) rfl))
  · exact stepq_chain rfl
  · refine stepq_env rfl rfl rfl fun _ _ _ _ _ _ _ _ _ hd _ _ => ?_
    have h3 := hd ⟨3, .data⟩ (by simp) rfl _ rfl
    exact qe_run rfl (wanted_none rfl) (ex_assign rfl rfl) QE.refl h3
  intro u1_0 hr
  have zu1_0 := hr.size
  have Cx1 := hid (hr.new (S := (fun _ => False)))
  clear hr
  refine QChain.go fun Z act E => ?_
  refine qc_callF (args := #[.string { data := #[97, 99, 107] }]) rfl (wanted_none rfl) rfl Try.func63 (args1 rfl) (text_Q { data := #[97, 99, 107] } _ (by decide)) ?_
  rintro e u1_1a ⟨g, rfl, qwr, hm⟩
  have zu1_1a := hm.size
  refine ⟨_, rfl, hm.mono (fun _ _ h => h.elim), (fun _ => rfl), ?_⟩
  intro u1_1 hr
  have zu1_1 := hr.size
  have Hx2 := hid ((qwr.widen (R' := (fun k => (New u1_0 u1_1a k))) (fun _ h => h) (Nat.le_refl _)).mod hr (by intro k h1 h2; omega))
  have Cx3 := hid (Cx1.out.go hm hr)
  clear Cx1 hm hr Z act E qwr
  refine QChain.go fun Z act E => ?_
  refine qc_callF (args := #[.pointer (some ⟨g, 0, none⟩), .int .i64 x.rp]) rfl (wanted_none rfl) rfl Try.func64 (args2 (chv (v := .pointer (some ⟨g, 0, none⟩)) (E.d 0)) (E.d 2)) (WInt_Q Hx2.out HOK.out.rp (by have := HL.out; simp only [List.length_append] at this ⊢; omega)) ?_
  rintro e u1_2a ⟨rfl, qwr, hm⟩
  have zu1_2a := hm.size
  refine ⟨_, rfl, hm.mono (by intro k hk h; omega), (fun _ => rfl), ?_⟩
  intro u1_2 hr
  have zu1_2 := hr.size
  have Hx4 := hid ((qwr.widen (R' := (fun k => (New u1_0 u1_1a k) ∨ (New u1_1 u1_2a k))) (fun _ h => h) (Nat.le_refl _)).mod hr (by intro k h1 h2; omega))
  have Cx5 := hid (Cx3.out.goM hm hr (by intro k h0 h2; omega))
  clear Cx3 hm hr Z act E qwr Hx2
  refine QChain.nil fun vs hl hzz hrows hne => ?_
  obtain ⟨Z, hYZ, hZb, hV⟩ := hzz
  have f0 := fvc hV hl 0
  have f3 := fvc hV hl 3
  have f4 := fvc hV hl 4
  rw [show vs = [gw vs 0, gw vs 1, gw vs 2, gw vs 3, gw vs 4] from (gw_eta hl).trans rfl]
  have ha0 := HA0.out
  subst ha0
  clear HA0 hV hYZ hZb hsz0 hrows hne oe1
  simp only [putAll, Act.put, List.setIfInBounds_toArray, List.set_cons_zero, List.set_cons_succ, f0, f3, f4]
  clear hl f0 f3 f4
  go_upto_region 2 with (fail)
  generalize ha0 : Act.mk _ _ = a0
  have oe1 : a0.eval (.tmp 1) = .pointer (some ⟨w.heap.size, 0, none⟩) := by rw [← ha0]; rfl
  have oe3 : a0.eval (.tmp 3) = .pointer (some ⟨g, 0, none⟩) := by rw [← ha0]; rfl
  have hsz0 : a0.tmps.size = 20 := by rw [← ha0]; rfl
  have HA0 := hid ha0
  clear ha0
  refine wp_region_Q1 20 hsz0 [8, 9, 10, 11] (fun k => (New u1_0 u1_1a k) ∨ (New u1_1 u1_2a k)) (fun k j => (k = 0 ∧ ((New u1_0 u1_1a j) ∨ (New u1_1 u1_2a j)))) (fun _ _ h => h.2) [qi (.pointer (some ⟨g, 0, none⟩)), qi (.pointer (some ⟨w.heap.size, 1, none⟩)), qi (.agg #[.int .i64 x.cl, .int .i64 x.sq]), qi (.tuple #[])] ⟨qi_stable, qi_stable, qi_stable, qi_stable, trivial⟩ [3] ⟨?_, ?_, ?_, ?_, trivial⟩ ?_
  · exact stq (fun E => ex_move rfl (E.v oe3))
  · exact stq (fun E => ex_field rfl Try.underlying44 rfl (by kernel_rfl) (E.v oe1))
  · exact stq (fun E => ex_loadA rfl Try.underlying23 rfl (off := 1) (cs := [.int .i64 x.cl, .int .i64 x.sq]) (by kernel_rfl) (E.d 1) (Cs.preA ((HB1.out.mod Cx5.out (fun h => h)).mod E.m (by intro h2; omega)) rfl))
  · exact stepq_chain rfl
  intro u2_0 hr
  have zu2_0 := hr.size
  have Cx6 := hid (hr.new (S := (fun k => (New u1_0 u1_1a k) ∨ (New u1_1 u1_2a k))))
  have Hx7 := hid (Hx4.out.mod hr (by intro k h1 h2; omega))
  clear Hx4
  clear hr
  refine QChain.go fun Z act E => ?_
  refine qc_callF (args := #[.pointer (some ⟨g, 0, none⟩), .agg #[.int .i64 x.cl, .int .i64 x.sq]]) rfl (wanted_none rfl) rfl Try.func65 (args2 (E.d 0) (E.d 2)) (PutName_Q Hx7.out (by intro k h1; omega) HOK.out.cl HOK.out.sq (by have := HL.out; simp only [List.length_append] at this ⊢; omega)) ?_
  rintro e u2_1a ⟨rfl, qwr, hm⟩
  have zu2_1a := hm.size
  refine ⟨_, rfl, hm.mono (by intro k hk h; omega), (fun _ => rfl), ?_⟩
  intro u2_1 hr
  have zu2_1 := hr.size
  have Hx8 := hid ((qwr.widen (R' := (fun k => (New u1_0 u1_1a k) ∨ (New u1_1 u1_2a k) ∨ (New u2_0 u2_1a k))) (by intro k h1; omega) (Nat.le_refl _)).mod hr (by intro k h1 h2; omega))
  have Cx9 := hid (Cx6.out.goM hm hr (fun _ _ h => h))
  clear Cx6 hm hr Z act E qwr Hx7
  refine QChain.nil fun vs hl hzz hrows hne => ?_
  obtain ⟨Z, hYZ, hZb, hV⟩ := hzz
  have f0 := fvi hV hl 0
  have f3 := fvi hV hl 3
  rw [show vs = [gw vs 0, gw vs 1, gw vs 2, gw vs 3] from (gw_eta hl).trans rfl]
  have ha0 := HA0.out
  subst ha0
  clear HA0 hV hYZ hZb hsz0 hrows hne oe1 oe3
  simp only [putAll, Act.put, List.setIfInBounds_toArray, List.set_cons_zero, List.set_cons_succ, f0, f3]
  clear hl f0 f3
  go_upto_region 3 with (fail)
  generalize ha0 : Act.mk _ _ = a0
  have oe1 : a0.eval (.tmp 1) = .pointer (some ⟨w.heap.size, 0, none⟩) := by rw [← ha0]; rfl
  have oe3 : a0.eval (.tmp 3) = .pointer (some ⟨g, 0, none⟩) := by rw [← ha0]; rfl
  have hsz0 : a0.tmps.size = 20 := by rw [← ha0]; rfl
  have HA0 := hid ha0
  clear ha0
  refine wp_region_Q1 20 hsz0 [12, 13, 14, 15, 16, 17, 18, 19, 2] (fun k => (New u1_0 u1_1a k) ∨ (New u1_1 u1_2a k) ∨ (New u2_0 u2_1a k)) (fun k j => (k = 0 ∧ ((New u1_0 u1_1a j) ∨ (New u1_1 u1_2a j) ∨ (New u2_0 u2_1a j))) ∨ (k = 1 ∧ ((New u1_0 u1_1a j) ∨ (New u1_1 u1_2a j) ∨ (New u2_0 u2_1a j)))) (by intro k j h; (try dsimp only at h ⊢); omega) [qi (.pointer (some ⟨g, 0, none⟩)), qi (.pointer (some ⟨w.heap.size, 3, none⟩)), qi (hv x.h), qi (.pointer (some ⟨g, 0, none⟩)), qi (.pointer (some ⟨w.heap.size, 35, none⟩)), qi (.int .u64 (x.tm : Nat)), qi (.pointer (some ⟨g, 0, none⟩)), qv 2, qv 2] ⟨qi_stable, qi_stable, qi_stable, qi_stable, qi_stable, qi_stable, qi_stable, qv_stable, qv_stable, trivial⟩ [3, 6, 7] ⟨?_, ?_, ?_, ?_, ?_, ?_, ?_, ?_, ?_, trivial⟩ ?_
  · exact stq (fun E => ex_move rfl (E.v oe3))
  · exact stq (fun E => ex_field rfl Try.underlying44 rfl (by kernel_rfl) (E.v oe1))
  · exact stq (fun E => ex_loadA rfl Try.underlying25 rfl (off := 3) (cs := x.h.map bv) (by rw [List.length_map, HOK.out.h.1]; exact size_hash) (E.d 1) (Cs.midA (((HB1.out.mod Cx5.out (fun h => h)).mod Cx9.out (by intro h2; omega)).mod E.m (by intro h2; omega)) rfl))
  · exact stepq_chain rfl
  · exact stq (fun E => ex_field rfl Try.underlying44 rfl (by kernel_rfl) (E.v oe1))
  · exact stq (fun E => ex_load1 rfl Try.underlying26 rfl (E.d 4) (Cs.post1 (m := 32) (k := 0) (((HB1.out.mod Cx5.out (fun h => h)).mod Cx9.out (by intro h2; omega)).mod E.m (by intro h2; omega)) (by rw [List.length_map]; exact HOK.out.h.1) rfl rfl))
  · exact stepq_chain rfl
  · exact stepq_chain rfl
  · refine stepq_env rfl rfl rfl fun _ _ _ _ _ _ _ _ _ hd _ _ => ?_
    have h7 := hd ⟨7, .data⟩ (by simp) rfl _ rfl
    exact qe_run rfl (wanted_none rfl) (ex_assign rfl rfl) QE.refl h7
  intro u3_0 hr
  have zu3_0 := hr.size
  have Cx10 := hid (hr.new (S := (fun k => (New u1_0 u1_1a k) ∨ (New u1_1 u1_2a k) ∨ (New u2_0 u2_1a k))))
  have Hx11 := hid (Hx8.out.mod hr (by intro k h1 h2; omega))
  clear Hx8
  clear hr
  refine QChain.go fun Z act E => ?_
  refine qc_callF (args := #[.pointer (some ⟨g, 0, none⟩), hv x.h]) rfl (wanted_none rfl) rfl Try.func66 (args2 (E.d 0) (E.d 2)) (WHash_Q Hx11.out HOK.out.h (by have := HL.out; simp only [List.length_append] at this ⊢; omega)) ?_
  rintro e u3_1a ⟨rfl, qwr, hm⟩
  have zu3_1a := hm.size
  refine ⟨_, rfl, hm.mono (by intro k hk h; omega), (fun _ => rfl), ?_⟩
  intro u3_1 hr
  have zu3_1 := hr.size
  have Hx12 := hid ((qwr.widen (R' := (fun k => (New u1_0 u1_1a k) ∨ (New u1_1 u1_2a k) ∨ (New u2_0 u2_1a k) ∨ (New u3_0 u3_1a k))) (by intro k h1; omega) (Nat.le_refl _)).mod hr (by intro k h1 h2; omega))
  have Cx13 := hid (Cx10.out.goM hm hr (fun _ _ h => h))
  clear Cx10 hm hr Z act E qwr Hx11
  refine QChain.go fun Z act E => ?_
  refine qc_callF (args := #[.pointer (some ⟨g, 0, none⟩), .int .u64 (x.tm : Nat)]) rfl (wanted_none rfl) rfl Try.func67 (args2 (E.d 3) (E.d 5)) (WNum_Q Hx12.out HOK.out.tm (by have := HL.out; simp only [List.length_append] at this ⊢; omega)) ?_
  rintro e u3_2a ⟨rfl, qwr, hm⟩
  have zu3_2a := hm.size
  refine ⟨_, rfl, hm.mono (by intro k hk h; omega), (fun _ => rfl), ?_⟩
  intro u3_2 hr
  have zu3_2 := hr.size
  have Hx14 := hid ((qwr.widen (R' := (fun k => (New u1_0 u1_1a k) ∨ (New u1_1 u1_2a k) ∨ (New u2_0 u2_1a k) ∨ (New u3_0 u3_1a k) ∨ (New u3_1 u3_2a k))) (by intro k h1; omega) (Nat.le_refl _)).mod hr (by intro k h1 h2; omega))
  have Cx15 := hid (Cx13.out.goM hm hr (by intro k h0 h2; omega))
  clear Cx13 hm hr Z act E qwr Hx12
  refine QChain.go fun Z act E => ?_
  refine qc_callF (args := #[.pointer (some ⟨g, 0, none⟩)]) rfl (wanted_none rfl) rfl Try.func50 (args1 (E.d 6)) (WBytes_Q Hx14.out) ?_
  rintro e u3_3a ⟨vb, rfl, qout, hm⟩
  have zu3_3a := hm.size
  refine ⟨_, rfl, hm.mono (fun _ _ h => h.elim), (fun _ => rfl), ?_⟩
  intro u3_3 hr
  have zu3_3 := hr.size
  have Hx16 := hid ((qout.widen (R' := (fun k => (New u3_2 u3_3a k))) (fun _ h => h) (Nat.le_refl _)).mod hr (by intro k h1 h2; omega))
  have hmr := Mod.after hm hr
  have Hx17 := hid (Hx14.out.mod hmr (by intro k h1 h2; omega))
  clear Hx14
  clear hmr
  have Cx18 := hid (Cx15.out.go hm hr)
  clear Cx15 hm hr Z act E qout
  refine QChain.nil fun vs hl hzz hrows hne => ?_
  obtain ⟨Z, hYZ, hZb, hV⟩ := hzz
  have f0 := fvi hV hl 0
  have f3 := fvi hV hl 3
  have f6 := fvi hV hl 6
  have f7 := fvc hV hl 7
  have f8 := fvc hV hl 8
  rw [show vs = [gw vs 0, gw vs 1, gw vs 2, gw vs 3, gw vs 4, gw vs 5, gw vs 6, gw vs 7, gw vs 8] from (gw_eta hl).trans rfl]
  have ha0 := HA0.out
  subst ha0
  clear HA0 hV hYZ hZb hsz0 hrows hne oe1 oe3
  simp only [putAll, Act.put, List.setIfInBounds_toArray, List.set_cons_zero, List.set_cons_succ, f0, f3, f6, f7, f8]
  clear hl f0 f3 f6 f7 f8
  go_wp2
  go_ret
  have hq := (Hx16.out.widen (R' := (fun k => New w u3_3 k)) (by intro k h1; omega) (Nat.le_refl _))
  simp only [List.append_assoc, List.nil_append] at hq
  exact ⟨vb, rfl, by simpa only [ackT, wAck, List.append_assoc] using hq, (((HM0.out.trans Cx5.out (fun _ _ h => h.elim)).trans Cx9.out (by intro k h1 h2; omega)).trans Cx18.out (by intro k h1 h2; omega))⟩
set_option maxHeartbeats 4000000 in
theorem DenyText_Q : Makes DnR 16 denyT := by
  intro R2 cs x w hx hB2 hl
  obtain ⟨rfl, hok⟩ := hx
  have HBT := Lib.hid hB2
  have HOK := Lib.hid hok
  have HL := Lib.hid hl
  clear hB2 hl hok
  unfold denyT wDeny at HL
  go_enter Try.func16, Try.ntmps16
  go_upto_region 1 with (fail)
  obtain ⟨w1, hw1⟩ : ∃ zz, zz = (w.alloc (.cells (x.cells : List Value).toArray 34)) := ⟨_, rfl⟩
  change Code.wp _ _ _ _ (w.alloc (.cells (x.cells : List Value).toArray 34))
  rw [← hw1]
  have HB1 := hid (show Cs w1 (w.heap.size) (x.cells : List Value).toArray 34 by rw [hw1]; exact Cs.new _ _ _)
  have hm : Mod (fun _ => False) w w1 := by rw [hw1]; exact (Mod.refl _ _).alloc _
  have HM0 := hid (show Mod (fun _ => False) w w1 from hm.mono (fun _ _ h => h.elim))
  have hs1 : w1.heap.size = w.heap.size + 1 := by rw [hw1]; simp
  clear hw1 hm
  go_upto_region 1 with (fail)
  generalize ha0 : Act.mk _ _ = a0
  have oe1 : a0.eval (.tmp 1) = .pointer (some ⟨w.heap.size, 0, none⟩) := by rw [← ha0]; rfl
  have hsz0 : a0.tmps.size = 11 := by rw [← ha0]; rfl
  have HA0 := hid ha0
  clear ha0
  refine wp_region_Q0 11 hsz0 [3, 4, 5, 6, 7, 8, 9, 10, 2] [qv 0, qi (.pointer (some ⟨w.heap.size, 0, none⟩)), qi (.int .i64 x.rp), qv 1, qi (.pointer (some ⟨w.heap.size, 1, none⟩)), qi (.int .i64 x.ix), qv 2, qv 3, qv 3] ⟨qv_stable, qi_stable, qi_stable, qv_stable, qi_stable, qi_stable, qv_stable, qv_stable, qv_stable, trivial⟩ [0, 3, 6, 7] ⟨?_, ?_, ?_, ?_, ?_, ?_, ?_, ?_, ?_, trivial⟩ ?_
  · exact stepq_chain rfl
  · exact stq (fun E => ex_field rfl Try.underlying34 rfl (by kernel_rfl) (E.v oe1))
  · exact stq (fun E => ex_load1 rfl Try.underlying3 rfl (E.d 1) (Cs.lit1 (HB1.out.mod E.m.old (by intro h2; omega)) rfl))
  · exact stepq_chain rfl
  · exact stq (fun E => ex_field rfl Try.underlying34 rfl (by kernel_rfl) (E.v oe1))
  · exact stq (fun E => ex_load1 rfl Try.underlying3 rfl (E.d 4) (Cs.lit1 (HB1.out.mod E.m.old (by intro h2; omega)) rfl))
  · exact stepq_chain rfl
  · exact stepq_chain rfl
  · refine stepq_env rfl rfl rfl fun _ _ _ _ _ _ _ _ _ hd _ _ => ?_
    have h7 := hd ⟨7, .data⟩ (by simp) rfl _ rfl
    exact qe_run rfl (wanted_none rfl) (ex_assign rfl rfl) QE.refl h7
  intro u1_0 hr
  have zu1_0 := hr.size
  have Cx1 := hid (hr.new (S := (fun _ => False)))
  clear hr
  refine QChain.go fun Z act E => ?_
  refine qc_callF (args := #[.string { data := #[100, 101, 110, 121] }]) rfl (wanted_none rfl) rfl Try.func63 (args1 rfl) (text_Q { data := #[100, 101, 110, 121] } _ (by decide)) ?_
  rintro e u1_1a ⟨g, rfl, qwr, hm⟩
  have zu1_1a := hm.size
  refine ⟨_, rfl, hm.mono (fun _ _ h => h.elim), (fun _ => rfl), ?_⟩
  intro u1_1 hr
  have zu1_1 := hr.size
  have Hx2 := hid ((qwr.widen (R' := (fun k => (New u1_0 u1_1a k))) (fun _ h => h) (Nat.le_refl _)).mod hr (by intro k h1 h2; omega))
  have Cx3 := hid (Cx1.out.go hm hr)
  clear Cx1 hm hr Z act E qwr
  refine QChain.go fun Z act E => ?_
  refine qc_callF (args := #[.pointer (some ⟨g, 0, none⟩), .int .i64 x.rp]) rfl (wanted_none rfl) rfl Try.func64 (args2 (chv (v := .pointer (some ⟨g, 0, none⟩)) (E.d 0)) (E.d 2)) (WInt_Q Hx2.out HOK.out.rp (by have := HL.out; simp only [List.length_append] at this ⊢; omega)) ?_
  rintro e u1_2a ⟨rfl, qwr, hm⟩
  have zu1_2a := hm.size
  refine ⟨_, rfl, hm.mono (by intro k hk h; omega), (fun _ => rfl), ?_⟩
  intro u1_2 hr
  have zu1_2 := hr.size
  have Hx4 := hid ((qwr.widen (R' := (fun k => (New u1_0 u1_1a k) ∨ (New u1_1 u1_2a k))) (fun _ h => h) (Nat.le_refl _)).mod hr (by intro k h1 h2; omega))
  have Cx5 := hid (Cx3.out.goM hm hr (by intro k h0 h2; omega))
  clear Cx3 hm hr Z act E qwr Hx2
  refine QChain.go fun Z act E => ?_
  refine qc_callF (args := #[.pointer (some ⟨g, 0, none⟩), .int .i64 x.ix]) rfl (wanted_none rfl) rfl Try.func64 (args2 (chv (v := .pointer (some ⟨g, 0, none⟩)) (E.d 3)) (E.d 5)) (WInt_Q Hx4.out HOK.out.ix (by have := HL.out; simp only [List.length_append] at this ⊢; omega)) ?_
  rintro e u1_3a ⟨rfl, qwr, hm⟩
  have zu1_3a := hm.size
  refine ⟨_, rfl, hm.mono (by intro k hk h; omega), (fun _ => rfl), ?_⟩
  intro u1_3 hr
  have zu1_3 := hr.size
  have Hx6 := hid ((qwr.widen (R' := (fun k => (New u1_0 u1_1a k) ∨ (New u1_1 u1_2a k) ∨ (New u1_2 u1_3a k))) (by intro k h1; omega) (Nat.le_refl _)).mod hr (by intro k h1 h2; omega))
  have Cx7 := hid (Cx5.out.goM hm hr (by intro k h0 h2; omega))
  clear Cx5 hm hr Z act E qwr Hx4
  refine QChain.go fun Z act E => ?_
  refine qc_callF (args := #[.pointer (some ⟨g, 0, none⟩)]) rfl (wanted_none rfl) rfl Try.func50 (args1 (chv (v := .pointer (some ⟨g, 0, none⟩)) (E.d 6))) (WBytes_Q Hx6.out) ?_
  rintro e u1_4a ⟨vb, rfl, qout, hm⟩
  have zu1_4a := hm.size
  refine ⟨_, rfl, hm.mono (fun _ _ h => h.elim), (fun _ => rfl), ?_⟩
  intro u1_4 hr
  have zu1_4 := hr.size
  have Hx8 := hid ((qout.widen (R' := (fun k => (New u1_3 u1_4a k))) (fun _ h => h) (Nat.le_refl _)).mod hr (by intro k h1 h2; omega))
  have hmr := Mod.after hm hr
  have Hx9 := hid (Hx6.out.mod hmr (by intro k h1 h2; omega))
  clear Hx6
  clear hmr
  have Cx10 := hid (Cx7.out.go hm hr)
  clear Cx7 hm hr Z act E qout
  refine QChain.nil fun vs hl hzz hrows hne => ?_
  obtain ⟨Z, hYZ, hZb, hV⟩ := hzz
  have f0 := fvc hV hl 0
  have f3 := fvc hV hl 3
  have f6 := fvc hV hl 6
  have f7 := fvc hV hl 7
  have f8 := fvc hV hl 8
  rw [show vs = [gw vs 0, gw vs 1, gw vs 2, gw vs 3, gw vs 4, gw vs 5, gw vs 6, gw vs 7, gw vs 8] from (gw_eta hl).trans rfl]
  have ha0 := HA0.out
  subst ha0
  clear HA0 hV hYZ hZb hsz0 hrows hne oe1
  simp only [putAll, Act.put, List.setIfInBounds_toArray, List.set_cons_zero, List.set_cons_succ, f0, f3, f6, f7, f8]
  clear hl f0 f3 f6 f7 f8
  go_wp2
  go_ret
  have hq := (Hx8.out.widen (R' := (fun k => New w u1_4 k)) (by intro k h1; omega) (Nat.le_refl _))
  simp only [List.append_assoc, List.nil_append] at hq
  exact ⟨vb, rfl, by simpa only [denyT, wDeny, List.append_assoc] using hq, (HM0.out.trans Cx10.out (fun _ _ h => h.elim))⟩
set_option maxHeartbeats 4000000 in
theorem VoteText_Q : Makes VtR 15 voteT := by
  intro R2 cs x w hx hB2 hl
  obtain ⟨rfl, hok⟩ := hx
  have HBT := Lib.hid hB2
  have HOK := Lib.hid hok
  have HL := Lib.hid hl
  clear hB2 hl hok
  unfold voteT wVote at HL
  go_enter Try.func15, Try.ntmps15
  go_upto_region 1 with (fail)
  obtain ⟨w1, hw1⟩ : ∃ zz, zz = (w.alloc (.cells (x.cells : List Value).toArray 32)) := ⟨_, rfl⟩
  change Code.wp _ _ _ _ (w.alloc (.cells (x.cells : List Value).toArray 32))
  rw [← hw1]
  have HB1 := hid (show Cs w1 (w.heap.size) (x.cells : List Value).toArray 32 by rw [hw1]; exact Cs.new _ _ _)
  have hm : Mod (fun _ => False) w w1 := by rw [hw1]; exact (Mod.refl _ _).alloc _
  have HM0 := hid (show Mod (fun _ => False) w w1 from hm.mono (fun _ _ h => h.elim))
  have hs1 : w1.heap.size = w.heap.size + 1 := by rw [hw1]; simp
  clear hw1 hm
  go_upto_region 1 with (fail)
  generalize ha0 : Act.mk _ _ = a0
  have oe1 : a0.eval (.tmp 1) = .pointer (some ⟨w.heap.size, 0, none⟩) := by rw [← ha0]; rfl
  have hsz0 : a0.tmps.size = 20 := by rw [← ha0]; rfl
  have HA0 := hid ha0
  clear ha0
  refine wp_region_Q0 20 hsz0 [3, 4, 5, 6, 7, 8, 9, 10, 11, 12, 13, 14, 15, 16, 17, 18, 19, 2] [qv 0, qi (.pointer (some ⟨w.heap.size, 0, none⟩)), qi (.int .i64 x.kd), qv 1, qi (.pointer (some ⟨w.heap.size, 1, none⟩)), qi (.int .i64 x.ep), qv 2, qi (.pointer (some ⟨w.heap.size, 2, none⟩)), qi (.int .i64 x.rd), qv 3, qi (.pointer (some ⟨w.heap.size, 3, none⟩)), qi (.int .i64 x.rp), qv 4, qi (.pointer (some ⟨w.heap.size, 4, none⟩)), qi (hv x.h), qv 5, qv 6, qv 6] ⟨qv_stable, qi_stable, qi_stable, qv_stable, qi_stable, qi_stable, qv_stable, qi_stable, qi_stable, qv_stable, qi_stable, qi_stable, qv_stable, qi_stable, qi_stable, qv_stable, qv_stable, qv_stable, trivial⟩ [0, 3, 6, 9, 12, 15, 16] ⟨?_, ?_, ?_, ?_, ?_, ?_, ?_, ?_, ?_, ?_, ?_, ?_, ?_, ?_, ?_, ?_, ?_, ?_, trivial⟩ ?_
  · exact stepq_chain rfl
  · exact stq (fun E => ex_field rfl Try.underlying32 rfl (by kernel_rfl) (E.v oe1))
  · exact stq (fun E => ex_load1 rfl Try.underlying3 rfl (E.d 1) (Cs.pre1 (HB1.out.mod E.m.old (by intro h2; omega)) rfl))
  · exact stepq_chain rfl
  · exact stq (fun E => ex_field rfl Try.underlying32 rfl (by kernel_rfl) (E.v oe1))
  · exact stq (fun E => ex_load1 rfl Try.underlying3 rfl (E.d 4) (Cs.pre1 (HB1.out.mod E.m.old (by intro h2; omega)) rfl))
  · exact stepq_chain rfl
  · exact stq (fun E => ex_field rfl Try.underlying32 rfl (by kernel_rfl) (E.v oe1))
  · exact stq (fun E => ex_load1 rfl Try.underlying3 rfl (E.d 7) (Cs.pre1 (HB1.out.mod E.m.old (by intro h2; omega)) rfl))
  · exact stepq_chain rfl
  · exact stq (fun E => ex_field rfl Try.underlying32 rfl (by kernel_rfl) (E.v oe1))
  · exact stq (fun E => ex_load1 rfl Try.underlying3 rfl (E.d 10) (Cs.pre1 (HB1.out.mod E.m.old (by intro h2; omega)) rfl))
  · exact stepq_chain rfl
  · exact stq (fun E => ex_field rfl Try.underlying32 rfl (by kernel_rfl) (E.v oe1))
  · exact stq (fun E => ex_loadA rfl Try.underlying25 rfl (off := 4) (cs := x.h.map bv) (by rw [List.length_map, HOK.out.h.1]; exact size_hash) (E.d 13) (Cs.midA (HB1.out.mod E.m.old (by intro h2; omega)) rfl))
  · exact stepq_chain rfl
  · exact stepq_chain rfl
  · refine stepq_env rfl rfl rfl fun _ _ _ _ _ _ _ _ _ hd _ _ => ?_
    have h16 := hd ⟨16, .data⟩ (by simp) rfl _ rfl
    exact qe_run rfl (wanted_none rfl) (ex_assign rfl rfl) QE.refl h16
  intro u1_0 hr
  have zu1_0 := hr.size
  have Cx1 := hid (hr.new (S := (fun _ => False)))
  clear hr
  refine QChain.go fun Z act E => ?_
  refine qc_callF (args := #[.string { data := #[118, 111, 116, 101] }]) rfl (wanted_none rfl) rfl Try.func63 (args1 rfl) (text_Q { data := #[118, 111, 116, 101] } _ (by decide)) ?_
  rintro e u1_1a ⟨g, rfl, qwr, hm⟩
  have zu1_1a := hm.size
  refine ⟨_, rfl, hm.mono (fun _ _ h => h.elim), (fun _ => rfl), ?_⟩
  intro u1_1 hr
  have zu1_1 := hr.size
  have Hx2 := hid ((qwr.widen (R' := (fun k => (New u1_0 u1_1a k))) (fun _ h => h) (Nat.le_refl _)).mod hr (by intro k h1 h2; omega))
  have Cx3 := hid (Cx1.out.go hm hr)
  clear Cx1 hm hr Z act E qwr
  refine QChain.go fun Z act E => ?_
  refine qc_callF (args := #[.pointer (some ⟨g, 0, none⟩), .int .i64 x.kd]) rfl (wanted_none rfl) rfl Try.func64 (args2 (chv (v := .pointer (some ⟨g, 0, none⟩)) (E.d 0)) (E.d 2)) (WInt_Q Hx2.out HOK.out.kd (by have := HL.out; simp only [List.length_append] at this ⊢; omega)) ?_
  rintro e u1_2a ⟨rfl, qwr, hm⟩
  have zu1_2a := hm.size
  refine ⟨_, rfl, hm.mono (by intro k hk h; omega), (fun _ => rfl), ?_⟩
  intro u1_2 hr
  have zu1_2 := hr.size
  have Hx4 := hid ((qwr.widen (R' := (fun k => (New u1_0 u1_1a k) ∨ (New u1_1 u1_2a k))) (fun _ h => h) (Nat.le_refl _)).mod hr (by intro k h1 h2; omega))
  have Cx5 := hid (Cx3.out.goM hm hr (by intro k h0 h2; omega))
  clear Cx3 hm hr Z act E qwr Hx2
  refine QChain.go fun Z act E => ?_
  refine qc_callF (args := #[.pointer (some ⟨g, 0, none⟩), .int .i64 x.ep]) rfl (wanted_none rfl) rfl Try.func64 (args2 (chv (v := .pointer (some ⟨g, 0, none⟩)) (E.d 3)) (E.d 5)) (WInt_Q Hx4.out HOK.out.ep (by have := HL.out; simp only [List.length_append] at this ⊢; omega)) ?_
  rintro e u1_3a ⟨rfl, qwr, hm⟩
  have zu1_3a := hm.size
  refine ⟨_, rfl, hm.mono (by intro k hk h; omega), (fun _ => rfl), ?_⟩
  intro u1_3 hr
  have zu1_3 := hr.size
  have Hx6 := hid ((qwr.widen (R' := (fun k => (New u1_0 u1_1a k) ∨ (New u1_1 u1_2a k) ∨ (New u1_2 u1_3a k))) (by intro k h1; omega) (Nat.le_refl _)).mod hr (by intro k h1 h2; omega))
  have Cx7 := hid (Cx5.out.goM hm hr (by intro k h0 h2; omega))
  clear Cx5 hm hr Z act E qwr Hx4
  refine QChain.go fun Z act E => ?_
  refine qc_callF (args := #[.pointer (some ⟨g, 0, none⟩), .int .i64 x.rd]) rfl (wanted_none rfl) rfl Try.func64 (args2 (chv (v := .pointer (some ⟨g, 0, none⟩)) (E.d 6)) (E.d 8)) (WInt_Q Hx6.out HOK.out.rd (by have := HL.out; simp only [List.length_append] at this ⊢; omega)) ?_
  rintro e u1_4a ⟨rfl, qwr, hm⟩
  have zu1_4a := hm.size
  refine ⟨_, rfl, hm.mono (by intro k hk h; omega), (fun _ => rfl), ?_⟩
  intro u1_4 hr
  have zu1_4 := hr.size
  have Hx8 := hid ((qwr.widen (R' := (fun k => (New u1_0 u1_1a k) ∨ (New u1_1 u1_2a k) ∨ (New u1_2 u1_3a k) ∨ (New u1_3 u1_4a k))) (by intro k h1; omega) (Nat.le_refl _)).mod hr (by intro k h1 h2; omega))
  have Cx9 := hid (Cx7.out.goM hm hr (by intro k h0 h2; omega))
  clear Cx7 hm hr Z act E qwr Hx6
  refine QChain.go fun Z act E => ?_
  refine qc_callF (args := #[.pointer (some ⟨g, 0, none⟩), .int .i64 x.rp]) rfl (wanted_none rfl) rfl Try.func64 (args2 (chv (v := .pointer (some ⟨g, 0, none⟩)) (E.d 9)) (E.d 11)) (WInt_Q Hx8.out HOK.out.rp (by have := HL.out; simp only [List.length_append] at this ⊢; omega)) ?_
  rintro e u1_5a ⟨rfl, qwr, hm⟩
  have zu1_5a := hm.size
  refine ⟨_, rfl, hm.mono (by intro k hk h; omega), (fun _ => rfl), ?_⟩
  intro u1_5 hr
  have zu1_5 := hr.size
  have Hx10 := hid ((qwr.widen (R' := (fun k => (New u1_0 u1_1a k) ∨ (New u1_1 u1_2a k) ∨ (New u1_2 u1_3a k) ∨ (New u1_3 u1_4a k) ∨ (New u1_4 u1_5a k))) (by intro k h1; omega) (Nat.le_refl _)).mod hr (by intro k h1 h2; omega))
  have Cx11 := hid (Cx9.out.goM hm hr (by intro k h0 h2; omega))
  clear Cx9 hm hr Z act E qwr Hx8
  refine QChain.go fun Z act E => ?_
  refine qc_callF (args := #[.pointer (some ⟨g, 0, none⟩), hv x.h]) rfl (wanted_none rfl) rfl Try.func66 (args2 (chv (v := .pointer (some ⟨g, 0, none⟩)) (E.d 12)) (E.d 14)) (WHash_Q Hx10.out HOK.out.h (by have := HL.out; simp only [List.length_append] at this ⊢; omega)) ?_
  rintro e u1_6a ⟨rfl, qwr, hm⟩
  have zu1_6a := hm.size
  refine ⟨_, rfl, hm.mono (by intro k hk h; omega), (fun _ => rfl), ?_⟩
  intro u1_6 hr
  have zu1_6 := hr.size
  have Hx12 := hid ((qwr.widen (R' := (fun k => (New u1_0 u1_1a k) ∨ (New u1_1 u1_2a k) ∨ (New u1_2 u1_3a k) ∨ (New u1_3 u1_4a k) ∨ (New u1_4 u1_5a k) ∨ (New u1_5 u1_6a k))) (by intro k h1; omega) (Nat.le_refl _)).mod hr (by intro k h1 h2; omega))
  have Cx13 := hid (Cx11.out.goM hm hr (by intro k h0 h2; omega))
  clear Cx11 hm hr Z act E qwr Hx10
  refine QChain.go fun Z act E => ?_
  refine qc_callF (args := #[.pointer (some ⟨g, 0, none⟩)]) rfl (wanted_none rfl) rfl Try.func50 (args1 (chv (v := .pointer (some ⟨g, 0, none⟩)) (E.d 15))) (WBytes_Q Hx12.out) ?_
  rintro e u1_7a ⟨vb, rfl, qout, hm⟩
  have zu1_7a := hm.size
  refine ⟨_, rfl, hm.mono (fun _ _ h => h.elim), (fun _ => rfl), ?_⟩
  intro u1_7 hr
  have zu1_7 := hr.size
  have Hx14 := hid ((qout.widen (R' := (fun k => (New u1_6 u1_7a k))) (fun _ h => h) (Nat.le_refl _)).mod hr (by intro k h1 h2; omega))
  have hmr := Mod.after hm hr
  have Hx15 := hid (Hx12.out.mod hmr (by intro k h1 h2; omega))
  clear Hx12
  clear hmr
  have Cx16 := hid (Cx13.out.go hm hr)
  clear Cx13 hm hr Z act E qout
  refine QChain.nil fun vs hl hzz hrows hne => ?_
  obtain ⟨Z, hYZ, hZb, hV⟩ := hzz
  have f0 := fvc hV hl 0
  have f3 := fvc hV hl 3
  have f6 := fvc hV hl 6
  have f9 := fvc hV hl 9
  have f12 := fvc hV hl 12
  have f15 := fvc hV hl 15
  have f16 := fvc hV hl 16
  have f17 := fvc hV hl 17
  rw [show vs = [gw vs 0, gw vs 1, gw vs 2, gw vs 3, gw vs 4, gw vs 5, gw vs 6, gw vs 7, gw vs 8, gw vs 9, gw vs 10, gw vs 11, gw vs 12, gw vs 13, gw vs 14, gw vs 15, gw vs 16, gw vs 17] from (gw_eta hl).trans rfl]
  have ha0 := HA0.out
  subst ha0
  clear HA0 hV hYZ hZb hsz0 hrows hne oe1
  simp only [putAll, Act.put, List.setIfInBounds_toArray, List.set_cons_zero, List.set_cons_succ, f0, f3, f6, f9, f12, f15, f16, f17]
  clear hl f0 f3 f6 f9 f12 f15 f16 f17
  go_wp2
  go_ret
  have hq := (Hx14.out.widen (R' := (fun k => New w u1_7 k)) (by intro k h1; omega) (Nat.le_refl _))
  simp only [List.append_assoc, List.nil_append] at hq
  exact ⟨vb, rfl, by simpa only [voteT, wVote, List.append_assoc] using hq, (HM0.out.trans Cx16.out (fun _ _ h => h.elim))⟩
set_option maxHeartbeats 4000000 in
theorem PromiseText_Q : Makes PmR 57 promT := by
  intro R2 cs x w hx hB2 hl
  obtain ⟨v_l, rfl, hok, hs0⟩ := hx
  have HS0 := Lib.hid hs0
  clear hs0
  have HBT := Lib.hid hB2
  have HOK := Lib.hid hok
  have HL := Lib.hid hl
  clear hB2 hl hok
  unfold promT wProm at HL
  go_enter Try.func57, Try.ntmps57
  go_upto_region 1 with (fail)
  obtain ⟨w1, hw1⟩ : ∃ zz, zz = (w.alloc (.cells (x.cells v_l : List Value).toArray 55)) := ⟨_, rfl⟩
  change Code.wp _ _ _ _ (w.alloc (.cells (x.cells v_l : List Value).toArray 55))
  rw [← hw1]
  have HB1 := hid (show Cs w1 (w.heap.size) (x.cells v_l : List Value).toArray 55 by rw [hw1]; exact Cs.new _ _ _)
  have hm : Mod (fun _ => False) w w1 := by rw [hw1]; exact (Mod.refl _ _).alloc _
  have HM0 := hid (show Mod (fun _ => False) w w1 from hm.mono (fun _ _ h => h.elim))
  have hs1 : w1.heap.size = w.heap.size + 1 := by rw [hw1]; simp
  have Hx1 := hid (HS0.out.mod hm (fun _ _ h => h))
  clear HS0
  clear hw1 hm
  go_upto_region 1 with (fail)
  generalize ha0 : Act.mk _ _ = a0
  have oe1 : a0.eval (.tmp 1) = .pointer (some ⟨w.heap.size, 0, none⟩) := by rw [← ha0]; rfl
  have hsz0 : a0.tmps.size = 20 := by rw [← ha0]; rfl
  have HA0 := hid ha0
  clear ha0
  refine wp_region_Q0 20 hsz0 [4, 5, 6, 7, 8, 9, 10, 11, 12, 13, 3] [qv 0, qi (.pointer (some ⟨w.heap.size, 0, none⟩)), qi (.int .i64 x.rp), qv 1, qi (.pointer (some ⟨w.heap.size, 1, none⟩)), qi (.int .i64 x.ep), qv 2, qi (.pointer (some ⟨w.heap.size, 2, none⟩)), qi (.int .u64 (x.fl : Nat)), qv 3, qv 3] ⟨qv_stable, qi_stable, qi_stable, qv_stable, qi_stable, qi_stable, qv_stable, qi_stable, qi_stable, qv_stable, qv_stable, trivial⟩ [0, 3, 6, 9] ⟨?_, ?_, ?_, ?_, ?_, ?_, ?_, ?_, ?_, ?_, ?_, trivial⟩ ?_
  · exact stepq_chain rfl
  · exact stq (fun E => ex_field rfl Try.underlying55 rfl (by kernel_rfl) (E.v oe1))
  · exact stq (fun E => ex_load1 rfl Try.underlying3 rfl (E.d 1) (Cs.lit1 (HB1.out.mod E.m.old (by intro h2; omega)) rfl))
  · exact stepq_chain rfl
  · exact stq (fun E => ex_field rfl Try.underlying55 rfl (by kernel_rfl) (E.v oe1))
  · exact stq (fun E => ex_load1 rfl Try.underlying3 rfl (E.d 4) (Cs.lit1 (HB1.out.mod E.m.old (by intro h2; omega)) rfl))
  · exact stepq_chain rfl
  · exact stq (fun E => ex_field rfl Try.underlying55 rfl (by kernel_rfl) (E.v oe1))
  · exact stq (fun E => ex_load1 rfl Try.underlying26 rfl (E.d 7) (Cs.lit1 (HB1.out.mod E.m.old (by intro h2; omega)) rfl))
  · exact stepq_chain rfl
  · refine stepq_env rfl rfl rfl fun _ _ _ _ _ _ _ _ _ hd _ _ => ?_
    have h9 := hd ⟨9, .data⟩ (by simp) rfl _ rfl
    exact qe_run rfl (wanted_none rfl) (ex_assign rfl rfl) QE.refl h9
  intro u1_0 hr
  have zu1_0 := hr.size
  have Cx2 := hid (hr.new (S := (fun _ => False)))
  clear hr
  refine QChain.go fun Z act E => ?_
  refine qc_callF (args := #[.string { data := #[112, 114, 111, 109, 105, 115, 101] }]) rfl (wanted_none rfl) rfl Try.func63 (args1 rfl) (text_Q { data := #[112, 114, 111, 109, 105, 115, 101] } _ (by decide)) ?_
  rintro e u1_1a ⟨g, rfl, qwr, hm⟩
  have zu1_1a := hm.size
  refine ⟨_, rfl, hm.mono (fun _ _ h => h.elim), (fun _ => rfl), ?_⟩
  intro u1_1 hr
  have zu1_1 := hr.size
  have Hx3 := hid ((qwr.widen (R' := (fun k => (New u1_0 u1_1a k))) (fun _ h => h) (Nat.le_refl _)).mod hr (by intro k h1 h2; omega))
  have Cx4 := hid (Cx2.out.go hm hr)
  clear Cx2 hm hr Z act E qwr
  refine QChain.go fun Z act E => ?_
  refine qc_callF (args := #[.pointer (some ⟨g, 0, none⟩), .int .i64 x.rp]) rfl (wanted_none rfl) rfl Try.func64 (args2 (chv (v := .pointer (some ⟨g, 0, none⟩)) (E.d 0)) (E.d 2)) (WInt_Q Hx3.out HOK.out.1 (by have := HL.out; simp only [List.length_append] at this ⊢; omega)) ?_
  rintro e u1_2a ⟨rfl, qwr, hm⟩
  have zu1_2a := hm.size
  refine ⟨_, rfl, hm.mono (by intro k hk h; omega), (fun _ => rfl), ?_⟩
  intro u1_2 hr
  have zu1_2 := hr.size
  have Hx5 := hid ((qwr.widen (R' := (fun k => (New u1_0 u1_1a k) ∨ (New u1_1 u1_2a k))) (fun _ h => h) (Nat.le_refl _)).mod hr (by intro k h1 h2; omega))
  have Cx6 := hid (Cx4.out.goM hm hr (by intro k h0 h2; omega))
  clear Cx4 hm hr Z act E qwr Hx3
  refine QChain.go fun Z act E => ?_
  refine qc_callF (args := #[.pointer (some ⟨g, 0, none⟩), .int .i64 x.ep]) rfl (wanted_none rfl) rfl Try.func64 (args2 (chv (v := .pointer (some ⟨g, 0, none⟩)) (E.d 3)) (E.d 5)) (WInt_Q Hx5.out HOK.out.2.1 (by have := HL.out; simp only [List.length_append] at this ⊢; omega)) ?_
  rintro e u1_3a ⟨rfl, qwr, hm⟩
  have zu1_3a := hm.size
  refine ⟨_, rfl, hm.mono (by intro k hk h; omega), (fun _ => rfl), ?_⟩
  intro u1_3 hr
  have zu1_3 := hr.size
  have Hx7 := hid ((qwr.widen (R' := (fun k => (New u1_0 u1_1a k) ∨ (New u1_1 u1_2a k) ∨ (New u1_2 u1_3a k))) (by intro k h1; omega) (Nat.le_refl _)).mod hr (by intro k h1 h2; omega))
  have Cx8 := hid (Cx6.out.goM hm hr (by intro k h0 h2; omega))
  clear Cx6 hm hr Z act E qwr Hx5
  refine QChain.go fun Z act E => ?_
  refine qc_callF (args := #[.pointer (some ⟨g, 0, none⟩), .int .u64 (x.fl : Nat)]) rfl (wanted_none rfl) rfl Try.func67 (args2 (chv (v := .pointer (some ⟨g, 0, none⟩)) (E.d 6)) (E.d 8)) (WNum_Q Hx7.out HOK.out.2.2.1 (by have := HL.out; simp only [List.length_append] at this ⊢; omega)) ?_
  rintro e u1_4a ⟨rfl, qwr, hm⟩
  have zu1_4a := hm.size
  refine ⟨_, rfl, hm.mono (by intro k hk h; omega), (fun _ => rfl), ?_⟩
  intro u1_4 hr
  have zu1_4 := hr.size
  have Hx9 := hid ((qwr.widen (R' := (fun k => (New u1_0 u1_1a k) ∨ (New u1_1 u1_2a k) ∨ (New u1_2 u1_3a k) ∨ (New u1_3 u1_4a k))) (by intro k h1; omega) (Nat.le_refl _)).mod hr (by intro k h1 h2; omega))
  have Cx10 := hid (Cx8.out.goM hm hr (by intro k h0 h2; omega))
  clear Cx8 hm hr Z act E qwr Hx7
  refine QChain.nil fun vs hl hzz hrows hne => ?_
  obtain ⟨Z, hYZ, hZb, hV⟩ := hzz
  have f0 := fvc hV hl 0
  have f3 := fvc hV hl 3
  have f6 := fvc hV hl 6
  have f9 := fvc hV hl 9
  have f10 := fvc hV hl 10
  rw [show vs = [gw vs 0, gw vs 1, gw vs 2, gw vs 3, gw vs 4, gw vs 5, gw vs 6, gw vs 7, gw vs 8, gw vs 9, gw vs 10] from (gw_eta hl).trans rfl]
  have ha0 := HA0.out
  subst ha0
  clear HA0 hV hYZ hZb hsz0 hrows hne oe1
  simp only [putAll, Act.put, List.setIfInBounds_toArray, List.set_cons_zero, List.set_cons_succ, f0, f3, f6, f9, f10]
  clear hl f0 f3 f6 f9 f10
  go_upto_region 2 with (fail)
  generalize ha0 : Act.mk _ _ = a0
  have oe1 : a0.eval (.tmp 1) = .pointer (some ⟨w.heap.size, 0, none⟩) := by rw [← ha0]; rfl
  have oe3 : a0.eval (.tmp 3) = .pointer (some ⟨g, 0, none⟩) := by rw [← ha0]; rfl
  have hsz0 : a0.tmps.size = 20 := by rw [← ha0]; rfl
  have HA0 := hid ha0
  clear ha0
  refine wp_region_Q1 20 hsz0 [14, 15, 16, 17] (fun k => (New u1_0 u1_1a k) ∨ (New u1_1 u1_2a k) ∨ (New u1_2 u1_3a k) ∨ (New u1_3 u1_4a k)) (fun k j => (k = 0 ∧ ((New u1_0 u1_1a j) ∨ (New u1_1 u1_2a j) ∨ (New u1_2 u1_3a j) ∨ (New u1_3 u1_4a j)))) (fun _ _ h => h.2) [qi (.pointer (some ⟨g, 0, none⟩)), qi (.pointer (some ⟨w.heap.size, 3, none⟩)), qi (v_l), qi (.tuple #[])] ⟨qi_stable, qi_stable, qi_stable, qi_stable, trivial⟩ [3] ⟨?_, ?_, ?_, ?_, trivial⟩ ?_
  · exact stq (fun E => ex_move rfl (E.v oe3))
  · exact stq (fun E => ex_field rfl Try.underlying55 rfl (by kernel_rfl) (E.v oe1))
  · exact stq (fun E => ex_load1 rfl Try.underlying53 rfl (E.d 1) (Cs.lit1 ((HB1.out.mod Cx10.out (fun h => h)).mod E.m (by intro h2; omega)) rfl))
  · exact stepq_chain rfl
  intro u2_0 hr
  have zu2_0 := hr.size
  have Cx11 := hid (hr.new (S := (fun k => (New u1_0 u1_1a k) ∨ (New u1_1 u1_2a k) ∨ (New u1_2 u1_3a k) ∨ (New u1_3 u1_4a k))))
  have Hx12 := hid (Hx9.out.mod hr (by intro k h1 h2; omega))
  clear Hx9
  clear hr
  refine QChain.go fun Z act E => ?_
  refine qc_callF (args := #[.pointer (some ⟨g, 0, none⟩), v_l, .func (.func 98) #[] #[]]) rfl (wanted_none rfl) rfl Try.func105 (args3 (E.d 0) (E.d 2) rfl) (PutList_Ce _ _ _ _ _ _ _ Hx12.out (by intro k h1; omega) ((Hx1.out.mod Cx10.out (fun _ _ h => h)).mod Cx11.out (by intro k h1 h2; have hb := HBT.out k h1; omega)) (by intro k h1; have hb := HBT.out k h1; omega) (by intro k h1 h2; have hb := HBT.out k h2; omega) (by have := HL.out; simp only [List.length_append] at this ⊢; omega)) ?_
  rintro e u2_1a ⟨rfl, qwr, hm⟩
  have zu2_1a := hm.size
  refine ⟨_, rfl, hm.mono (by intro k hk h; omega), (fun _ => rfl), ?_⟩
  intro u2_1 hr
  have zu2_1 := hr.size
  have Hx13 := hid ((qwr.widen (R' := (fun k => (New u1_0 u1_1a k) ∨ (New u1_1 u1_2a k) ∨ (New u1_2 u1_3a k) ∨ (New u1_3 u1_4a k) ∨ (New u2_0 u2_1a k))) (by intro k h1; omega) (Nat.le_refl _)).mod hr (by intro k h1 h2; omega))
  have Cx14 := hid (Cx11.out.goM hm hr (fun _ _ h => h))
  clear Cx11 hm hr Z act E qwr Hx12
  refine QChain.nil fun vs hl hzz hrows hne => ?_
  obtain ⟨Z, hYZ, hZb, hV⟩ := hzz
  have f0 := fvi hV hl 0
  have f3 := fvi hV hl 3
  rw [show vs = [gw vs 0, gw vs 1, gw vs 2, gw vs 3] from (gw_eta hl).trans rfl]
  have ha0 := HA0.out
  subst ha0
  clear HA0 hV hYZ hZb hsz0 hrows hne oe1 oe3
  simp only [putAll, Act.put, List.setIfInBounds_toArray, List.set_cons_zero, List.set_cons_succ, f0, f3]
  clear hl f0 f3
  go_upto_region 3 with (fail)
  generalize ha0 : Act.mk _ _ = a0
  have oe3 : a0.eval (.tmp 3) = .pointer (some ⟨g, 0, none⟩) := by rw [← ha0]; rfl
  have hsz0 : a0.tmps.size = 20 := by rw [← ha0]; rfl
  have HA0 := hid ha0
  clear ha0
  refine wp_region_Q0 20 hsz0 [18, 19, 2] [qi (.pointer (some ⟨g, 0, none⟩)), qv 0, qv 0] ⟨qi_stable, qv_stable, qv_stable, trivial⟩ [1] ⟨?_, ?_, ?_, trivial⟩ ?_
  · exact stq (fun E => ex_move rfl (E.v oe3))
  · exact stepq_chain rfl
  · refine stepq_env rfl rfl rfl fun _ _ _ _ _ _ _ _ _ hd _ _ => ?_
    have h1 := hd ⟨1, .data⟩ (by simp) rfl _ rfl
    exact qe_run rfl (wanted_none rfl) (ex_assign rfl rfl) QE.refl h1
  intro u3_0 hr
  have zu3_0 := hr.size
  have Cx15 := hid (hr.new (S := (fun _ => False)))
  clear hr
  refine QChain.go fun Z act E => ?_
  refine qc_callF (args := #[.pointer (some ⟨g, 0, none⟩)]) rfl (wanted_none rfl) rfl Try.func50 (args1 (E.d 0)) (WBytes_Q (Hx13.out.mod Cx15.out (fun _ _ h => h))) ?_
  rintro e u3_1a ⟨vb, rfl, qout, hm⟩
  have zu3_1a := hm.size
  refine ⟨_, rfl, hm.mono (fun _ _ h => h.elim), (fun _ => rfl), ?_⟩
  intro u3_1 hr
  have zu3_1 := hr.size
  have Hx16 := hid ((qout.widen (R' := (fun k => (New u3_0 u3_1a k))) (fun _ h => h) (Nat.le_refl _)).mod hr (by intro k h1 h2; omega))
  have Cx17 := hid (Cx15.out.go hm hr)
  clear Cx15 hm hr Z act E qout
  refine QChain.nil fun vs hl hzz hrows hne => ?_
  obtain ⟨Z, hYZ, hZb, hV⟩ := hzz
  have f0 := fvi hV hl 0
  have f1 := fvc hV hl 1
  have f2 := fvc hV hl 2
  rw [show vs = [gw vs 0, gw vs 1, gw vs 2] from (gw_eta hl).trans rfl]
  have ha0 := HA0.out
  subst ha0
  clear HA0 hV hYZ hZb hsz0 hrows hne oe3
  simp only [putAll, Act.put, List.setIfInBounds_toArray, List.set_cons_zero, List.set_cons_succ, f0, f1, f2]
  clear hl f0 f1 f2
  go_wp2
  go_ret
  have hq := (Hx16.out.widen (R' := (fun k => New w u3_1 k)) (by intro k h1; omega) (Nat.le_refl _))
  simp only [List.append_assoc, List.nil_append] at hq
  exact ⟨vb, rfl, by simpa only [promT, wProm, List.append_assoc] using hq, (((HM0.out.trans Cx10.out (fun _ _ h => h.elim)).trans Cx14.out (by intro k h1 h2; omega)).trans Cx17.out (fun _ _ h => h.elim))⟩
set_option maxHeartbeats 4000000 in
theorem BatchHash_Q : Hashes BaR 42 baB := by
  intro R2 cs x w hx hB2 hl
  obtain ⟨v_ps, v_os, v_ts, rfl, hok, hs0, hs1, hs2⟩ := hx
  have HS0 := Lib.hid hs0
  clear hs0
  have HS1 := Lib.hid hs1
  clear hs1
  have HS2 := Lib.hid hs2
  clear hs2
  have HBT := Lib.hid hB2
  have HOK := Lib.hid hok
  have HL := Lib.hid hl
  clear hB2 hl hok
  have HLN := hid (show ([] ++ baB x).length ≤ 900000 by rw [List.nil_append]; exact HL.out)
  go_enter Try.func42, Try.ntmps42
  go_upto_region 1 with (fail)
  obtain ⟨w1, hw1⟩ : ∃ zz, zz = ((w.alloc (.cells (x.cells v_ps v_os v_ts : List Value).toArray 60)).alloc (.cells #[.int .u8 0, .int .u8 0, .int .u8 0, .int .u8 0, .int .u8 0, .int .u8 0, .int .u8 0, .int .u8 0, .int .u8 0, .int .u8 0, .int .u8 0, .int .u8 0, .int .u8 0, .int .u8 0, .int .u8 0, .int .u8 0, .int .u8 0, .int .u8 0, .int .u8 0, .int .u8 0, .int .u8 0, .int .u8 0, .int .u8 0, .int .u8 0, .int .u8 0, .int .u8 0, .int .u8 0, .int .u8 0, .int .u8 0, .int .u8 0, .int .u8 0, .int .u8 0] 25)) := ⟨_, rfl⟩
  change Code.wp _ _ _ _ ((w.alloc (.cells (x.cells v_ps v_os v_ts : List Value).toArray 60)).alloc (.cells #[.int .u8 0, .int .u8 0, .int .u8 0, .int .u8 0, .int .u8 0, .int .u8 0, .int .u8 0, .int .u8 0, .int .u8 0, .int .u8 0, .int .u8 0, .int .u8 0, .int .u8 0, .int .u8 0, .int .u8 0, .int .u8 0, .int .u8 0, .int .u8 0, .int .u8 0, .int .u8 0, .int .u8 0, .int .u8 0, .int .u8 0, .int .u8 0, .int .u8 0, .int .u8 0, .int .u8 0, .int .u8 0, .int .u8 0, .int .u8 0, .int .u8 0, .int .u8 0] 25))
  rw [← hw1]
  have HB1 := hid (show Cs w1 (w.heap.size) (x.cells v_ps v_os v_ts : List Value).toArray 60 by rw [hw1]; exact (Cs.new _ _ _).alloc _)
  have HB2 := hid (show Cs w1 (w.heap.size + 1) #[.int .u8 0, .int .u8 0, .int .u8 0, .int .u8 0, .int .u8 0, .int .u8 0, .int .u8 0, .int .u8 0, .int .u8 0, .int .u8 0, .int .u8 0, .int .u8 0, .int .u8 0, .int .u8 0, .int .u8 0, .int .u8 0, .int .u8 0, .int .u8 0, .int .u8 0, .int .u8 0, .int .u8 0, .int .u8 0, .int .u8 0, .int .u8 0, .int .u8 0, .int .u8 0, .int .u8 0, .int .u8 0, .int .u8 0, .int .u8 0, .int .u8 0, .int .u8 0] 25 by rw [hw1]; exact Cs_newN _ _ _ (by simp))
  have hm : Mod (fun _ => False) w w1 := by rw [hw1]; exact ((Mod.refl _ _).alloc _).alloc _
  have HM0 := hid (show Mod (fun _ => False) w w1 from hm.mono (fun _ _ h => h.elim))
  have hs1 : w1.heap.size = w.heap.size + 2 := by rw [hw1]; simp
  have Hx1 := hid (HS0.out.mod hm (fun _ _ h => h))
  clear HS0
  have Hx2 := hid (HS1.out.mod hm (fun _ _ h => h))
  clear HS1
  have Hx3 := hid (HS2.out.mod hm (fun _ _ h => h))
  clear HS2
  clear hw1 hm
  go_upto_region 1 with (fail)
  generalize ha0 : Act.mk _ _ = a0
  have hsz0 : a0.tmps.size = 11 := by rw [← ha0]; rfl
  have HA0 := hid ha0
  clear ha0
  refine wp_region_Q0 11 hsz0 [4, 3] [qv 0, qv 0] ⟨qv_stable, qv_stable, trivial⟩ [0] ⟨?_, ?_, trivial⟩ ?_
  · exact stepq_chain rfl
  · refine stepq_env rfl rfl rfl fun _ _ _ _ _ _ _ _ _ hd _ _ => ?_
    have h0 := hd ⟨0, .data⟩ (by simp) rfl _ rfl
    exact qe_run rfl (wanted_none rfl) (ex_assign rfl rfl) QE.refl h0
  intro u1_0 hr
  have zu1_0 := hr.size
  have Cx4 := hid (hr.new (S := (fun _ => False)))
  clear hr
  refine QChain.go fun Z act E => ?_
  refine qc_callF (args := #[]) rfl (wanted_none rfl) rfl Try.func44 args0 (NewWriter_Q _) ?_
  rintro e u1_1a ⟨g, rfl, qwr, hm⟩
  have zu1_1a := hm.size
  refine ⟨_, rfl, hm.mono (fun _ _ h => h.elim), (fun _ => rfl), ?_⟩
  intro u1_1 hr
  have zu1_1 := hr.size
  have Hx5 := hid ((qwr.widen (R' := (fun k => (New u1_0 u1_1a k))) (fun _ h => h) (Nat.le_refl _)).mod hr (by intro k h1 h2; omega))
  have Cx6 := hid (Cx4.out.go hm hr)
  clear Cx4 hm hr Z act E qwr
  refine QChain.nil fun vs hl hzz hrows hne => ?_
  obtain ⟨Z, hYZ, hZb, hV⟩ := hzz
  have f0 := fvc hV hl 0
  have f1 := fvc hV hl 1
  rw [show vs = [gw vs 0, gw vs 1] from (gw_eta hl).trans rfl]
  have ha0 := HA0.out
  subst ha0
  clear HA0 hV hYZ hZb hsz0 hrows hne
  simp only [putAll, Act.put, List.setIfInBounds_toArray, List.set_cons_zero, List.set_cons_succ, f0, f1]
  clear hl f0 f1
  go_upto_region 2 with (fail)
  generalize ha0 : Act.mk _ _ = a0
  have oe1 : a0.eval (.tmp 1) = .pointer (some ⟨w.heap.size, 0, none⟩) := by rw [← ha0]; rfl
  have oe3 : a0.eval (.tmp 3) = .pointer (some ⟨g, 0, none⟩) := by rw [← ha0]; rfl
  have hsz0 : a0.tmps.size = 11 := by rw [← ha0]; rfl
  have HA0 := hid ha0
  clear ha0
  refine wp_region_Q1 11 hsz0 [5, 6, 7] (fun k => (New u1_0 u1_1a k)) (fun k j => (k = 0 ∧ ((New u1_0 u1_1a j)))) (fun _ _ h => h.2) [qi (.pointer (some ⟨g, 0, none⟩)), qi (.agg (x.cells v_ps v_os v_ts).toArray), qi (.tuple #[])] ⟨qi_stable, qi_stable, qi_stable, trivial⟩ [2] ⟨?_, ?_, ?_, trivial⟩ ?_
  · exact stq (fun E => ex_move rfl (E.v oe3))
  · exact stq (fun E => ex_loadA rfl Try.underlying60 rfl (off := 0) (cs := x.cells v_ps v_os v_ts) (by kernel_rfl) (E.v oe1) (Cs.whole ((HB1.out.mod Cx6.out (fun h => h)).mod E.m (by intro h2; omega))))
  · exact stepq_chain rfl
  intro u2_0 hr
  have zu2_0 := hr.size
  have Cx7 := hid (hr.new (S := (fun k => (New u1_0 u1_1a k))))
  have Hx8 := hid (Hx5.out.mod hr (by intro k h1 h2; omega))
  clear Hx5
  clear hr
  refine QChain.go fun Z act E => ?_
  refine qc_callF (args := #[.pointer (some ⟨g, 0, none⟩), .agg (x.cells v_ps v_os v_ts).toArray]) rfl (wanted_none rfl) rfl Try.func95 (args2 (E.d 0) (E.d 1)) (PutBa_Q _ _ _ _ _ _ _ Hx8.out (by intro k h1; omega) ⟨_, _, _, rfl, HOK.out, ((Hx1.out.mod Cx6.out (fun _ _ h => h)).mod Cx7.out (by intro k h1 h2; have hb := HBT.out k h1; omega)), ((Hx2.out.mod Cx6.out (fun _ _ h => h)).mod Cx7.out (by intro k h1 h2; have hb := HBT.out k h1; omega)), ((Hx3.out.mod Cx6.out (fun _ _ h => h)).mod Cx7.out (by intro k h1 h2; have hb := HBT.out k h1; omega))⟩ (by intro k h1; have hb := HBT.out k h1; omega) (by intro k h1 h2; have hb := HBT.out k h2; omega) HLN.out) ?_
  rintro e u2_1a ⟨rfl, qwr, hm⟩
  have zu2_1a := hm.size
  refine ⟨_, rfl, hm.mono (by intro k hk h; omega), (fun _ => rfl), ?_⟩
  intro u2_1 hr
  have zu2_1 := hr.size
  have Hx9 := hid ((qwr.widen (R' := (fun k => (New u1_0 u1_1a k) ∨ (New u2_0 u2_1a k))) (fun _ h => h) (Nat.le_refl _)).mod hr (by intro k h1 h2; omega))
  have Cx10 := hid (Cx7.out.goM hm hr (fun _ _ h => h))
  clear Cx7 hm hr Z act E qwr Hx8
  refine QChain.nil fun vs hl hzz hrows hne => ?_
  obtain ⟨Z, hYZ, hZb, hV⟩ := hzz
  have f0 := fvi hV hl 0
  have f2 := fvi hV hl 2
  rw [show vs = [gw vs 0, gw vs 1, gw vs 2] from (gw_eta hl).trans rfl]
  have ha0 := HA0.out
  subst ha0
  clear HA0 hV hYZ hZb hsz0 hrows hne oe1 oe3
  simp only [putAll, Act.put, List.setIfInBounds_toArray, List.set_cons_zero, List.set_cons_succ, f0, f2]
  clear hl f0 f2
  go_upto_region 3 with (fail)
  generalize ha0 : Act.mk _ _ = a0
  have oe2 : a0.eval (.tmp 2) = .pointer (some ⟨w.heap.size + 1, 0, none⟩) := by rw [← ha0]; rfl
  have oe3 : a0.eval (.tmp 3) = .pointer (some ⟨g, 0, none⟩) := by rw [← ha0]; rfl
  have hsz0 : a0.tmps.size = 11 := by rw [← ha0]; rfl
  have HA0 := hid ha0
  clear ha0
  refine wp_region_Q1 11 hsz0 [8, 9, 10, 14] (fun k => (k = w.heap.size + 1)) (fun k j => (k = 2 ∧ ((j = w.heap.size + 1)))) (fun _ _ h => h.2) [qi (.pointer (some ⟨g, 0, none⟩)), qv 0, qi (hv (shaF ([] ++ baB x))), qv 2] ⟨qi_stable, qv_stable, qi_stable, qv_stable, trivial⟩ [1, 2, 3] ⟨?_, ?_, ?_, ?_, trivial⟩ ?_
  · exact stq (fun E => ex_move rfl (E.v oe3))
  · exact stepq_chain rfl
  · exact stepq_chain rfl
  · exact stepq_chain rfl
  intro u3_0 hr
  have zu3_0 := hr.size
  have Cx11 := hid (hr.new (S := (fun k => (k = w.heap.size + 1))))
  have Hx12 := hid (((HB2.out.mod Cx6.out (fun h => h)).mod Cx10.out (by intro h2; omega)).mod hr (by intro h2; omega))
  clear HB2
  clear hr
  refine QChain.go fun Z act E => ?_
  refine qc_callF (args := #[.pointer (some ⟨g, 0, none⟩)]) rfl (wanted_none rfl) rfl Try.func50 (args1 (E.d 0)) (WBytes_Q (Hx9.out.mod Cx11.out (by intro k h1 h2; omega))) ?_
  rintro e u3_1a ⟨vb, rfl, qout, hm⟩
  have zu3_1a := hm.size
  refine ⟨_, rfl, hm.mono (fun _ _ h => h.elim), (fun _ => rfl), ?_⟩
  intro u3_1 hr
  have zu3_1 := hr.size
  have Hx13 := hid ((qout.widen (R' := (fun k => (New u3_0 u3_1a k))) (fun _ h => h) (Nat.le_refl _)).mod hr (by intro k h1 h2; omega))
  have hmr := Mod.after hm hr
  have Hx14 := hid (Hx12.out.mod hmr (by intro h2; omega))
  clear Hx12
  clear hmr
  have Cx15 := hid (Cx11.out.go hm hr)
  clear Cx11 hm hr Z act E qout
  refine QChain.go fun Z act E => ?_
  refine qc_callF (args := #[vb]) rfl (wanted_none rfl) rfl Try.func96 (args1 (chv (v := vb) (E.d 1))) (Sum_any vb ([] ++ baB x) _ Hx13.out.rd.1 HLN.out) ?_
  rintro e u3_2a ⟨rfl, hm⟩
  have zu3_2a := hm.size
  refine ⟨_, rfl, hm.mono (fun _ _ h => h.elim), (fun _ => rfl), ?_⟩
  intro u3_2 hr
  have zu3_2 := hr.size
  have hmr := Mod.after hm hr
  have Hx16 := hid (Hx14.out.mod hmr (by intro h2; omega))
  have Hx17 := hid (Hx13.out.mod hmr (by intro k h1 h2; omega))
  clear Hx14 Hx13
  clear hmr
  have Cx18 := hid (Cx15.out.go hm hr)
  clear Cx15 hm hr Z act E
  refine QChain.go fun Z act E => ?_
  refine qc_store rfl (wanted_none rfl) rfl Hx16.out (off := 0) (vs := (shaF ([] ++ baB x)).map bv) (by rw [List.length_map, shaF_len]; exact size_hash) (ints_oneCell .u8 _) (by rw [List.length_map, shaF_len]; decide) (E.v oe2) (by rw [show act.eval ((.tmp 10)) = _ from (E.d 2)]; rfl) ?_
  intro u3_3a qc0 hm
  have qB2 : Cs u3_3a (w.heap.size + 1) ((shaF ([] ++ baB x)).map bv : List Value).toArray 25 := by rw [show lay _ 0 _ = ((shaF ([] ++ baB x)).map bv : List Value).toArray from lay_whole _ _ (by rw [List.length_map, shaF_len]; rfl)] at qc0; exact qc0
  clear qc0
  have zu3_3a := hm.size
  refine ⟨hm.mono (by intro k hk h; omega), (fun _ => rfl), ?_⟩
  intro u3_3 hr
  have zu3_3 := hr.size
  have Hx19 := hid (qB2.mod hr (by intro h2; omega))
  have hmr := hm.two hr
  have Hx20 := hid (Hx17.out.mod hmr (by intro k h1 h2; omega))
  clear Hx17
  clear hmr
  have Cx21 := hid (Cx18.out.goM hm hr (fun _ _ h => h))
  clear Cx18 hm hr Z act E qB2 Hx16
  refine QChain.nil fun vs hl hzz hrows hne => ?_
  obtain ⟨Z, hYZ, hZb, hV⟩ := hzz
  have f0 := fvi hV hl 0
  have f1 := fvc hV hl 1
  have f2 := fvi hV hl 2
  rw [show vs = [gw vs 0, gw vs 1, gw vs 2, gw vs 3] from (gw_eta hl).trans rfl]
  have ha0 := HA0.out
  subst ha0
  clear HA0 hV hYZ hZb hsz0 hrows hne oe2 oe3
  simp only [putAll, Act.put, List.setIfInBounds_toArray, List.set_cons_zero, List.set_cons_succ, List.set_nil, f0, f1, f2]
  clear hl f0 f1 f2
  go_wp2
  have hs := Hx19.out
  rw [List.nil_append] at hs
  have hsz : (Try.prog.info? 25).map (·.size) = some ((shaF (baB x)).map bv).length := by rw [List.length_map, shaF_len]; exact size_hash
  exact bodyPost_ret (results_cellA rfl _ _ (w.heap.size + 1) ((shaF (baB x)).map bv) rfl (fun k u hu => by rw [Cs.cell hs]; simpa using hu) Try.underlying25 rfl hsz) rfl ⟨rfl, (((HM0.out.trans Cx6.out (fun _ _ h => h.elim)).trans Cx10.out (by intro k h1 h2; omega)).trans Cx21.out (by intro k h1 h2; omega))⟩
set_option maxHeartbeats 4000000 in
theorem ProposalText_Q : ∀ (R2 : Nat → Prop) (cs : List Value) (x : Pr) (w : World), PrR.rd R2 w cs x → (∀ k, R2 k → k < w.heap.size) → ((propT x).length ≤ 900000 ∧ x.vl < 9223372036854775807) ∧ (baB x.ba).length ≤ 900000 → Calls Try.prog 60 #[.agg cs.toArray] w fun e w' => ∃ v', e = .returned v' ∧ OwR (New w w') 900000 w' v' (propT x) ∧ Mod (fun _ => False) w w' := by
  intro R2 cs x w hx hB2 hl
  obtain ⟨v_ps, v_os, v_ts, rfl, hok, hs0, hs1, hs2⟩ := hx
  have HS0 := Lib.hid hs0
  clear hs0
  have HS1 := Lib.hid hs1
  clear hs1
  have HS2 := Lib.hid hs2
  clear hs2
  have HBT := Lib.hid hB2
  have HOK := Lib.hid hok
  have HL := Lib.hid hl
  clear hB2 hl hok
  have HLB := hid (show (baB x.ba).length ≤ 900000 from HL.out.2)
  have HV := hid (show x.vl < 9223372036854775807 from HL.out.1.2)
  replace HL := Lib.hid HL.out.1.1
  unfold propT wProp at HL
  go_enter Try.func60, Try.ntmps60
  go_upto_region 1 with (fail)
  obtain ⟨w1, hw1⟩ : ∃ zz, zz = (w.alloc (.cells (x.cells v_ps v_os v_ts : List Value).toArray 107)) := ⟨_, rfl⟩
  change Code.wp _ _ _ _ (w.alloc (.cells (x.cells v_ps v_os v_ts : List Value).toArray 107))
  rw [← hw1]
  have HB1 := hid (show Cs w1 (w.heap.size) (x.cells v_ps v_os v_ts : List Value).toArray 107 by rw [hw1]; exact Cs.new _ _ _)
  have hm : Mod (fun _ => False) w w1 := by rw [hw1]; exact (Mod.refl _ _).alloc _
  have HM0 := hid (show Mod (fun _ => False) w w1 from hm.mono (fun _ _ h => h.elim))
  have hs1 : w1.heap.size = w.heap.size + 1 := by rw [hw1]; simp
  have Hx1 := hid (HS0.out.mod hm (fun _ _ h => h))
  clear HS0
  have Hx2 := hid (HS1.out.mod hm (fun _ _ h => h))
  clear HS1
  have Hx3 := hid (HS2.out.mod hm (fun _ _ h => h))
  clear HS2
  clear hw1 hm
  go_upto_region 1 with (fail)
  generalize ha0 : Act.mk _ _ = a0
  have oe1 : a0.eval (.tmp 1) = .pointer (some ⟨w.heap.size, 0, none⟩) := by rw [← ha0]; rfl
  have hsz0 : a0.tmps.size = 24 := by rw [← ha0]; rfl
  have HA0 := hid ha0
  clear ha0
  refine wp_region_Q0 24 hsz0 [4, 5, 6, 7, 8, 9, 10, 11, 12, 13, 14, 15, 16, 17, 3] [qv 0, qi (.pointer (some ⟨w.heap.size, 0, none⟩)), qi (.int .i64 x.ep), qv 1, qi (.pointer (some ⟨w.heap.size, 1, none⟩)), qi (.int .i64 x.rn), qv 2, qi (.pointer (some ⟨w.heap.size, 2, none⟩)), qi (.int .i64 x.vl), qi (.int .i64 (x.vl + 1)), qv 3, qi (.pointer (some ⟨w.heap.size, 3, none⟩)), qi (.int .i64 x.rp), qv 4, qv 4] ⟨qv_stable, qi_stable, qi_stable, qv_stable, qi_stable, qi_stable, qv_stable, qi_stable, qi_stable, qi_stable, qv_stable, qi_stable, qi_stable, qv_stable, qv_stable, trivial⟩ [0, 3, 6, 10, 13] ⟨?_, ?_, ?_, ?_, ?_, ?_, ?_, ?_, ?_, ?_, ?_, ?_, ?_, ?_, ?_, trivial⟩ ?_
  · exact stepq_chain rfl
  · exact stq (fun E => ex_field rfl Try.underlying107 rfl (by kernel_rfl) (E.v oe1))
  · exact stq (fun E => ex_load1 rfl Try.underlying3 rfl (E.d 1) (Cs.lit1 (HB1.out.mod E.m.old (by intro h2; omega)) rfl))
  · exact stepq_chain rfl
  · exact stq (fun E => ex_field rfl Try.underlying107 rfl (by kernel_rfl) (E.v oe1))
  · exact stq (fun E => ex_load1 rfl Try.underlying3 rfl (E.d 4) (Cs.lit1 (HB1.out.mod E.m.old (by intro h2; omega)) rfl))
  · exact stepq_chain rfl
  · exact stq (fun E => ex_field rfl Try.underlying107 rfl (by kernel_rfl) (E.v oe1))
  · exact stq (fun E => ex_load1 rfl Try.underlying3 rfl (E.d 7) (Cs.lit1 (HB1.out.mod E.m.old (by intro h2; omega)) rfl))
  · exact stq (fun E => ex_binE rfl (E.d 8) rfl (guard_ints _ _ _ _ _ _) (run_add_i _ _ Try.underlying3) (congrArg (Value.int .i64) (IntWalk.i64_in _ (by have h := HOK.out.2.2.1; have h2 := HV.out; unfold I64 at h; omega))))
  · exact stepq_chain rfl
  · exact stq (fun E => ex_field rfl Try.underlying107 rfl (by kernel_rfl) (E.v oe1))
  · exact stq (fun E => ex_load1 rfl Try.underlying3 rfl (E.d 11) (Cs.lit1 (HB1.out.mod E.m.old (by intro h2; omega)) rfl))
  · exact stepq_chain rfl
  · refine stepq_env rfl rfl rfl fun _ _ _ _ _ _ _ _ _ hd _ _ => ?_
    have h13 := hd ⟨13, .data⟩ (by simp) rfl _ rfl
    exact qe_run rfl (wanted_none rfl) (ex_assign rfl rfl) QE.refl h13
  intro u1_0 hr
  have zu1_0 := hr.size
  have Cx4 := hid (hr.new (S := (fun _ => False)))
  clear hr
  refine QChain.go fun Z act E => ?_
  refine qc_callF (args := #[.string { data := #[112, 114, 111, 112, 111, 115, 97, 108] }]) rfl (wanted_none rfl) rfl Try.func63 (args1 rfl) (text_Q { data := #[112, 114, 111, 112, 111, 115, 97, 108] } _ (by decide)) ?_
  rintro e u1_1a ⟨g, rfl, qwr, hm⟩
  have zu1_1a := hm.size
  refine ⟨_, rfl, hm.mono (fun _ _ h => h.elim), (fun _ => rfl), ?_⟩
  intro u1_1 hr
  have zu1_1 := hr.size
  have Hx5 := hid ((qwr.widen (R' := (fun k => (New u1_0 u1_1a k))) (fun _ h => h) (Nat.le_refl _)).mod hr (by intro k h1 h2; omega))
  have Cx6 := hid (Cx4.out.go hm hr)
  clear Cx4 hm hr Z act E qwr
  refine QChain.go fun Z act E => ?_
  refine qc_callF (args := #[.pointer (some ⟨g, 0, none⟩), .int .i64 x.ep]) rfl (wanted_none rfl) rfl Try.func64 (args2 (chv (v := .pointer (some ⟨g, 0, none⟩)) (E.d 0)) (E.d 2)) (WInt_Q Hx5.out HOK.out.1 (by have := HL.out; simp only [List.length_append] at this ⊢; omega)) ?_
  rintro e u1_2a ⟨rfl, qwr, hm⟩
  have zu1_2a := hm.size
  refine ⟨_, rfl, hm.mono (by intro k hk h; omega), (fun _ => rfl), ?_⟩
  intro u1_2 hr
  have zu1_2 := hr.size
  have Hx7 := hid ((qwr.widen (R' := (fun k => (New u1_0 u1_1a k) ∨ (New u1_1 u1_2a k))) (fun _ h => h) (Nat.le_refl _)).mod hr (by intro k h1 h2; omega))
  have Cx8 := hid (Cx6.out.goM hm hr (by intro k h0 h2; omega))
  clear Cx6 hm hr Z act E qwr Hx5
  refine QChain.go fun Z act E => ?_
  refine qc_callF (args := #[.pointer (some ⟨g, 0, none⟩), .int .i64 x.rn]) rfl (wanted_none rfl) rfl Try.func64 (args2 (chv (v := .pointer (some ⟨g, 0, none⟩)) (E.d 3)) (E.d 5)) (WInt_Q Hx7.out HOK.out.2.1 (by have := HL.out; simp only [List.length_append] at this ⊢; omega)) ?_
  rintro e u1_3a ⟨rfl, qwr, hm⟩
  have zu1_3a := hm.size
  refine ⟨_, rfl, hm.mono (by intro k hk h; omega), (fun _ => rfl), ?_⟩
  intro u1_3 hr
  have zu1_3 := hr.size
  have Hx9 := hid ((qwr.widen (R' := (fun k => (New u1_0 u1_1a k) ∨ (New u1_1 u1_2a k) ∨ (New u1_2 u1_3a k))) (by intro k h1; omega) (Nat.le_refl _)).mod hr (by intro k h1 h2; omega))
  have Cx10 := hid (Cx8.out.goM hm hr (by intro k h0 h2; omega))
  clear Cx8 hm hr Z act E qwr Hx7
  refine QChain.go fun Z act E => ?_
  refine qc_callF (args := #[.pointer (some ⟨g, 0, none⟩), .int .i64 (x.vl + 1)]) rfl (wanted_none rfl) rfl Try.func64 (args2 (chv (v := .pointer (some ⟨g, 0, none⟩)) (E.d 6)) (E.d 9)) (WInt_Q Hx9.out (by have h := HOK.out.2.2.1; have h2 := HV.out; unfold I64 at h ⊢; omega) (by have := HL.out; simp only [List.length_append] at this ⊢; omega)) ?_
  rintro e u1_4a ⟨rfl, qwr, hm⟩
  have zu1_4a := hm.size
  refine ⟨_, rfl, hm.mono (by intro k hk h; omega), (fun _ => rfl), ?_⟩
  intro u1_4 hr
  have zu1_4 := hr.size
  have Hx11 := hid ((qwr.widen (R' := (fun k => (New u1_0 u1_1a k) ∨ (New u1_1 u1_2a k) ∨ (New u1_2 u1_3a k) ∨ (New u1_3 u1_4a k))) (by intro k h1; omega) (Nat.le_refl _)).mod hr (by intro k h1 h2; omega))
  have Cx12 := hid (Cx10.out.goM hm hr (by intro k h0 h2; omega))
  clear Cx10 hm hr Z act E qwr Hx9
  refine QChain.go fun Z act E => ?_
  refine qc_callF (args := #[.pointer (some ⟨g, 0, none⟩), .int .i64 x.rp]) rfl (wanted_none rfl) rfl Try.func64 (args2 (chv (v := .pointer (some ⟨g, 0, none⟩)) (E.d 10)) (E.d 12)) (WInt_Q Hx11.out HOK.out.2.2.2.1 (by have := HL.out; simp only [List.length_append] at this ⊢; omega)) ?_
  rintro e u1_5a ⟨rfl, qwr, hm⟩
  have zu1_5a := hm.size
  refine ⟨_, rfl, hm.mono (by intro k hk h; omega), (fun _ => rfl), ?_⟩
  intro u1_5 hr
  have zu1_5 := hr.size
  have Hx13 := hid ((qwr.widen (R' := (fun k => (New u1_0 u1_1a k) ∨ (New u1_1 u1_2a k) ∨ (New u1_2 u1_3a k) ∨ (New u1_3 u1_4a k) ∨ (New u1_4 u1_5a k))) (by intro k h1; omega) (Nat.le_refl _)).mod hr (by intro k h1 h2; omega))
  have Cx14 := hid (Cx12.out.goM hm hr (by intro k h0 h2; omega))
  clear Cx12 hm hr Z act E qwr Hx11
  refine QChain.nil fun vs hl hzz hrows hne => ?_
  obtain ⟨Z, hYZ, hZb, hV⟩ := hzz
  have f0 := fvc hV hl 0
  have f3 := fvc hV hl 3
  have f6 := fvc hV hl 6
  have f10 := fvc hV hl 10
  have f13 := fvc hV hl 13
  have f14 := fvc hV hl 14
  rw [show vs = [gw vs 0, gw vs 1, gw vs 2, gw vs 3, gw vs 4, gw vs 5, gw vs 6, gw vs 7, gw vs 8, gw vs 9, gw vs 10, gw vs 11, gw vs 12, gw vs 13, gw vs 14] from (gw_eta hl).trans rfl]
  have ha0 := HA0.out
  subst ha0
  clear HA0 hV hYZ hZb hsz0 hrows hne oe1
  simp only [putAll, Act.put, List.setIfInBounds_toArray, List.set_cons_zero, List.set_cons_succ, f0, f3, f6, f10, f13, f14]
  clear hl f0 f3 f6 f10 f13 f14
  go_upto_region 2 with (fail)
  generalize ha0 : Act.mk _ _ = a0
  have oe1 : a0.eval (.tmp 1) = .pointer (some ⟨w.heap.size, 0, none⟩) := by rw [← ha0]; rfl
  have oe3 : a0.eval (.tmp 3) = .pointer (some ⟨g, 0, none⟩) := by rw [← ha0]; rfl
  have hsz0 : a0.tmps.size = 24 := by rw [← ha0]; rfl
  have HA0 := hid ha0
  clear ha0
  refine wp_region_Q1 24 hsz0 [18, 19, 20, 21, 22, 23, 2] (fun k => (New u1_0 u1_1a k) ∨ (New u1_1 u1_2a k) ∨ (New u1_2 u1_3a k) ∨ (New u1_3 u1_4a k) ∨ (New u1_4 u1_5a k)) (fun k j => (k = 1 ∧ ((New u1_0 u1_1a j) ∨ (New u1_1 u1_2a j) ∨ (New u1_2 u1_3a j) ∨ (New u1_3 u1_4a j) ∨ (New u1_4 u1_5a j)))) (fun _ _ h => h.2) [qi (.pointer (some ⟨g, 0, none⟩)), qi (.pointer (some ⟨w.heap.size, 4, none⟩)), qi (.agg #[.int .i64 x.ba.ep, .int .u64 (x.ba.tm : Nat), v_ps, v_os, v_ts]), qi (hv (shaF (baB x.ba))), qi (.pointer (some ⟨g, 0, none⟩)), qv 2, qv 2] ⟨qi_stable, qi_stable, qi_stable, qi_stable, qi_stable, qv_stable, qv_stable, trivial⟩ [3, 4, 5] ⟨?_, ?_, ?_, ?_, ?_, ?_, ?_, trivial⟩ ?_
  · exact stq (fun E => ex_move rfl (E.v oe3))
  · exact stq (fun E => ex_field rfl Try.underlying107 rfl (by kernel_rfl) (E.v oe1))
  · exact stq (fun E => ex_loadA rfl Try.underlying60 rfl (off := 4) (cs := [.int .i64 x.ba.ep, .int .u64 (x.ba.tm : Nat), v_ps, v_os, v_ts]) (by kernel_rfl) (E.d 1) (Cs.litA ((HB1.out.mod Cx14.out (fun h => h)).mod E.m (by intro h2; omega)) rfl))
  · exact stepq_chain rfl
  · exact stepq_chain rfl
  · exact stepq_chain rfl
  · refine stepq_env rfl rfl rfl fun _ _ _ _ _ _ _ _ _ hd _ _ => ?_
    have h5 := hd ⟨5, .data⟩ (by simp) rfl _ rfl
    exact qe_run rfl (wanted_none rfl) (ex_assign rfl rfl) QE.refl h5
  intro u2_0 hr
  have zu2_0 := hr.size
  have Cx15 := hid (hr.new (S := (fun k => (New u1_0 u1_1a k) ∨ (New u1_1 u1_2a k) ∨ (New u1_2 u1_3a k) ∨ (New u1_3 u1_4a k) ∨ (New u1_4 u1_5a k))))
  have Hx16 := hid (Hx13.out.mod hr (by intro k h1 h2; omega))
  clear Hx13
  clear hr
  refine QChain.go fun Z act E => ?_
  refine qc_callF (args := #[.agg #[.int .i64 x.ba.ep, .int .u64 (x.ba.tm : Nat), v_ps, v_os, v_ts]]) rfl (wanted_none rfl) rfl Try.func42 (args1 (E.d 2)) (BatchHash_Q _ _ x.ba _ ⟨_, _, _, rfl, HOK.out.2.2.2.2.1, ((Hx1.out.mod Cx14.out (fun _ _ h => h)).mod Cx15.out (by intro k h1 h2; have hb := HBT.out k h1; omega)), ((Hx2.out.mod Cx14.out (fun _ _ h => h)).mod Cx15.out (by intro k h1 h2; have hb := HBT.out k h1; omega)), ((Hx3.out.mod Cx14.out (fun _ _ h => h)).mod Cx15.out (by intro k h1 h2; have hb := HBT.out k h1; omega))⟩ (by intro k h1; have hb := HBT.out k h1; omega) HLB.out) ?_
  rintro e u2_1a ⟨rfl, hm⟩
  have zu2_1a := hm.size
  refine ⟨_, rfl, hm.mono (fun _ _ h => h.elim), (fun _ => rfl), ?_⟩
  intro u2_1 hr
  have zu2_1 := hr.size
  have hmr := Mod.after hm hr
  have Hx17 := hid (Hx16.out.mod hmr (by intro k h1 h2; omega))
  clear Hx16
  clear hmr
  have Cx18 := hid (Cx15.out.go hm hr)
  clear Cx15 hm hr Z act E
  refine QChain.go fun Z act E => ?_
  refine qc_callF (args := #[.pointer (some ⟨g, 0, none⟩), hv (shaF (baB x.ba))]) rfl (wanted_none rfl) rfl Try.func66 (args2 (E.d 0) (E.d 3)) (WHash_Q Hx17.out (show HK _ from ⟨shaF_len _, shaF_bytes _⟩) (by have := HL.out; simp only [List.length_append] at this ⊢; omega)) ?_
  rintro e u2_2a ⟨rfl, qwr, hm⟩
  have zu2_2a := hm.size
  refine ⟨_, rfl, hm.mono (by intro k hk h; omega), (fun _ => rfl), ?_⟩
  intro u2_2 hr
  have zu2_2 := hr.size
  have Hx19 := hid ((qwr.widen (R' := (fun k => (New u1_0 u1_1a k) ∨ (New u1_1 u1_2a k) ∨ (New u1_2 u1_3a k) ∨ (New u1_3 u1_4a k) ∨ (New u1_4 u1_5a k) ∨ (New u2_1 u2_2a k))) (by intro k h1; omega) (Nat.le_refl _)).mod hr (by intro k h1 h2; omega))
  have Cx20 := hid (Cx18.out.goM hm hr (fun _ _ h => h))
  clear Cx18 hm hr Z act E qwr Hx17
  refine QChain.go fun Z act E => ?_
  refine qc_callF (args := #[.pointer (some ⟨g, 0, none⟩)]) rfl (wanted_none rfl) rfl Try.func50 (args1 (E.d 4)) (WBytes_Q Hx19.out) ?_
  rintro e u2_3a ⟨vb, rfl, qout, hm⟩
  have zu2_3a := hm.size
  refine ⟨_, rfl, hm.mono (fun _ _ h => h.elim), (fun _ => rfl), ?_⟩
  intro u2_3 hr
  have zu2_3 := hr.size
  have Hx21 := hid ((qout.widen (R' := (fun k => (New u2_2 u2_3a k))) (fun _ h => h) (Nat.le_refl _)).mod hr (by intro k h1 h2; omega))
  have hmr := Mod.after hm hr
  have Hx22 := hid (Hx19.out.mod hmr (by intro k h1 h2; omega))
  clear Hx19
  clear hmr
  have Cx23 := hid (Cx20.out.go hm hr)
  clear Cx20 hm hr Z act E qout
  refine QChain.nil fun vs hl hzz hrows hne => ?_
  obtain ⟨Z, hYZ, hZb, hV⟩ := hzz
  have f0 := fvi hV hl 0
  have f3 := fvi hV hl 3
  have f4 := fvi hV hl 4
  have f5 := fvc hV hl 5
  have f6 := fvc hV hl 6
  rw [show vs = [gw vs 0, gw vs 1, gw vs 2, gw vs 3, gw vs 4, gw vs 5, gw vs 6] from (gw_eta hl).trans rfl]
  have ha0 := HA0.out
  subst ha0
  clear HA0 hV hYZ hZb hsz0 hrows hne oe1 oe3
  simp only [putAll, Act.put, List.setIfInBounds_toArray, List.set_cons_zero, List.set_cons_succ, f0, f3, f4, f5, f6]
  clear hl f0 f3 f4 f5 f6
  go_wp2
  go_ret
  have hq := (Hx21.out.widen (R' := (fun k => New w u2_3 k)) (by intro k h1; omega) (Nat.le_refl _))
  simp only [List.append_assoc, List.nil_append] at hq
  exact ⟨vb, rfl, by simpa only [propT, wProp, List.append_assoc] using hq, ((HM0.out.trans Cx14.out (fun _ _ h => h.elim)).trans Cx23.out (by intro k h1 h2; omega))⟩
end Go.Proofs.Ytknpapcfhnhheaa

/- The reference's bytes of small things. -/
set_option maxRecDepth 100000
set_option linter.unusedVariables false
namespace Go.Proofs.Ytknpapcfhnhheaa
open Go Go.RowKit Go.Gv


theorem RefInt_Q (n : Int) (hn : I64 n) (w : World) : Calls Try.prog 70 #[.int .i64 n] w fun e w' => ∃ v', e = .returned v' ∧ OwR (New w w') 900000 w' v' (encI n) ∧ Mod (fun _ => False) w w' :=
  (RefInt_R n hn w).mono fun e w' ⟨v', he, ho, hm⟩ => ⟨v', he, ho.widen (fun _ h => h) (by omega), hm⟩
theorem RefNum_Q (n : Nat) (hn : n < U64) (w : World) : Calls Try.prog 75 #[.int .u64 n] w fun e w' => ∃ v', e = .returned v' ∧ OwR (New w w') 900000 w' v' (encN n) ∧ Mod (fun _ => False) w w' :=
  (RefNum_R n hn w).mono fun e w' ⟨v', he, ho, hm⟩ => ⟨v', he, ho.widen (fun _ h => h) (by omega), hm⟩
theorem RefRow_Q {R : Nat → Prop} {N : Nat} {v : Value} {bs : List Int} {w : World} (hr : RdR R N w v bs) (hl : (encN bs.length ++ bs).length ≤ 900000) : Calls Try.prog 102 #[v] w fun e w' => ∃ v', e = .returned v' ∧ OwR (New w w') 900000 w' v' (encN bs.length ++ bs) ∧ Mod (fun _ => False) w w' := by
  have h1 : bs.length ≤ 900000 := by simp only [List.length_append] at hl; omega
  exact (RefRow_R (N := bs.length) ⟨hr.1, hr.2.1, Nat.le_refl _⟩ h1).mono fun e w' ⟨v', he, ho, hm⟩ => ⟨v', he, ⟨ho.1, ho.2.1, hl⟩, hm⟩
theorem RdB_arr3 {w : World} {g off : Nat} {h : List Int} (hc : ∀ j u, (h.map bv)[j]? = some u → w.cell? ⟨g, off + j, none⟩ = some u) (hk : HK h) : RdB w (.slice (some ⟨g, off, none⟩) 32 32) h := by
  refine ⟨hk.2, ?_⟩
  rw [hk.1]
  exact Rd.mk (Nat.le_refl _) (by rw [maxLen_val]; omega) (by simp [hk.1]) fun j y hy => hc j y hy
theorem RefRow_W (s : ByteArray) {L : List Int} (hL : bytesOf s = L) {R : Nat → Prop} {N : Nat} {v : Value} {w : World} (hr : RdR R N w v L) (hl : (wordB s).length ≤ 900000) : Calls Try.prog 102 #[v] w fun e w' => ∃ v', e = .returned v' ∧ OwR (New w w') 900000 w' v' (wordB s) ∧ Mod (fun _ => False) w w' := by
  subst hL
  exact RefRow_Q hr hl
def bareT (x : St) : List Int := encI x.rp ++ (nameB x.cl x.sq ++ (x.h ++ encN x.tm))
def bareP (x : Pm) : List Int := encI x.rp ++ (encI x.ep ++ (encN x.fl ++ listB ceB x.l))
def bareV (x : Vt) : List Int := encI x.kd ++ (encI x.ep ++ (encI x.rd ++ (encI x.rp ++ x.h)))
theorem acc_len {α : Type} (f : α → List Int) (bs : List Int) (l : List α) (k : Nat) {n : Nat} (h : (bs ++ (l.map f).flatten).length ≤ n) : (bs ++ ((l.take k).map f).flatten).length ≤ n := by
  have e : (l.map f).flatten = ((l.take k).map f).flatten ++ ((l.drop k).map f).flatten := by rw [← List.flatten_append, ← List.map_append, List.take_append_drop]
  rw [e] at h
  simp only [List.length_append] at h ⊢
  omega
theorem encI_len0 (n : Int) (h : I64 n) : (encI n).length ≤ 10 := (encI_len n h.2).2
set_option maxHeartbeats 2000000 in
theorem RefSig_Q {a b : Int} (ha : I64 a) (hb : I64 b) (w : World) : Calls Try.prog 74 #[.agg #[.int .i64 a, .int .i64 b]] w fun e w' => ∃ v', e = .returned v' ∧ OwR (New w w') 900000 w' v' (sigB a b) ∧ Mod (fun _ => False) w w' := by
  have HA := Lib.hid ha
  have HB := Lib.hid hb
  have HL := hid (show (encI a ++ encI b).length ≤ 900000 by have := encI_len a ha.2; have := encI_len b hb.2; simp only [List.length_append]; omega)
  clear ha hb
  change Calls _ _ #[.agg #[.int .i64 a, .int .i64 b]] _ _
  go_enter Try.func74, Try.ntmps74
  go_upto_region 1 with (fail)
  obtain ⟨w1, hw1⟩ : ∃ zz, zz = (w.alloc (.cells #[.int .i64 a, .int .i64 b] 28)) := ⟨_, rfl⟩
  change Code.wp _ _ _ _ (w.alloc (.cells #[.int .i64 a, .int .i64 b] 28))
  rw [← hw1]
  have HB1 := hid (show Cs w1 (w.heap.size) #[.int .i64 a, .int .i64 b] 28 by rw [hw1]; exact Cs.new _ _ _)
  have hm : Mod (fun _ => False) w w1 := by rw [hw1]; exact (Mod.refl _ _).alloc _
  have HM0 := hid (show Mod (fun _ => False) w w1 from hm.mono (fun _ _ h => h.elim))
  have hs1 : w1.heap.size = w.heap.size + 1 := by rw [hw1]; simp
  clear hw1 hm
  go_upto_region 1 with (fail)
  generalize ha0 : Act.mk _ _ = a0
  have oe1 : a0.eval (.tmp 1) = .pointer (some ⟨w.heap.size, 0, none⟩) := by rw [← ha0]; rfl
  have hsz0 : a0.tmps.size = 11 := by rw [← ha0]; rfl
  have HA0 := hid ha0
  clear ha0
  refine wp_region_Q0 11 hsz0 [3, 4, 5, 6, 7, 8, 9, 10, 2] [qi (.pointer (some ⟨w.heap.size, 0, none⟩)), qi (.int .i64 a), qv 0, qi (.pointer (some ⟨w.heap.size, 1, none⟩)), qi (.int .i64 b), qv 1, qv 2, qv 3, qv 3] ⟨qi_stable, qi_stable, qv_stable, qi_stable, qi_stable, qv_stable, qv_stable, qv_stable, qv_stable, trivial⟩ [2, 5, 6, 7] ⟨?_, ?_, ?_, ?_, ?_, ?_, ?_, ?_, ?_, trivial⟩ ?_
  · exact stq (fun E => ex_field rfl Try.underlying28 rfl (by kernel_rfl) (E.v oe1))
  · exact stq (fun E => ex_load1 rfl Try.underlying3 rfl (E.d 0) (Cs.lit1 (HB1.out.mod E.m.old (by intro h2; omega)) rfl))
  · exact stepq_chain rfl
  · exact stq (fun E => ex_field rfl Try.underlying28 rfl (by kernel_rfl) (E.v oe1))
  · exact stq (fun E => ex_load1 rfl Try.underlying3 rfl (E.d 3) (Cs.lit1 (HB1.out.mod E.m.old (by intro h2; omega)) rfl))
  · exact stepq_chain rfl
  · exact stepq_chain rfl
  · exact stepq_chain rfl
  · refine stepq_env rfl rfl rfl fun _ _ _ _ _ _ _ _ _ hd _ _ => ?_
    have h7 := hd ⟨7, .data⟩ (by simp) rfl _ rfl
    exact qe_run rfl (wanted_none rfl) (ex_assign rfl rfl) QE.refl h7
  intro u1_0 hr
  have zu1_0 := hr.size
  have Cx1 := hid (hr.new (S := (fun _ => False)))
  clear hr
  refine QChain.go fun Z act E => ?_
  refine qc_callF (args := #[.int .i64 a]) rfl (wanted_none rfl) rfl Try.func70 (args1 (E.d 1)) (RefInt_Q _ HA.out _) ?_
  rintro e u1_1a ⟨v_a1, rfl, qa1, hm⟩
  obtain ⟨ao_a1, cap_a1, rfl⟩ := qa1.shape
  have zu1_1a := hm.size
  refine ⟨_, rfl, hm.mono (fun _ _ h => h.elim), (fun _ => rfl), ?_⟩
  intro u1_1 hr
  have zu1_1 := hr.size
  have Hx2 := hid ((qa1.widen (R' := (fun k => (New u1_0 u1_1a k))) (fun _ h => h) (Nat.le_refl _)).mod hr (by intro k h1 h2; omega))
  have Cx3 := hid (Cx1.out.go hm hr)
  clear Cx1 hm hr Z act E qa1
  refine QChain.go fun Z act E => ?_
  refine qc_callF (args := #[.int .i64 b]) rfl (wanted_none rfl) rfl Try.func70 (args1 (E.d 4)) (RefInt_Q _ HB.out _) ?_
  rintro e u1_2a ⟨v_a2, rfl, qa2, hm⟩
  obtain ⟨ao_a2, cap_a2, rfl⟩ := qa2.shape
  have zu1_2a := hm.size
  refine ⟨_, rfl, hm.mono (fun _ _ h => h.elim), (fun _ => rfl), ?_⟩
  intro u1_2 hr
  have zu1_2 := hr.size
  have Hx4 := hid ((qa2.widen (R' := (fun k => (New u1_1 u1_2a k))) (fun _ h => h) (Nat.le_refl _)).mod hr (by intro k h1 h2; omega))
  have hmr := Mod.after hm hr
  have Hx5 := hid (Hx2.out.mod hmr (by intro k h1 h2; omega))
  clear Hx2
  clear hmr
  have Cx6 := hid (Cx3.out.go hm hr)
  clear Cx3 hm hr Z act E qa2
  refine QChain.go fun Z act E => ?_
  have ea5 : act.eval (.tmp 5) = .slice ao_a1 ((encI a).length) cap_a1 := (chv (v := .slice ao_a1 ((encI a).length) cap_a1) (E.d 2))
  have ea8 : act.eval (.tmp 8) = .slice ao_a2 ((encI b).length) cap_a2 := (chv (v := .slice ao_a2 ((encI b).length) cap_a2) (E.d 5))
  refine qc_rows rfl (wanted_none rfl) rfl Try.underlying144 (by decide) (C := #[.slice ao_a1 ((encI a).length) cap_a1, .slice ao_a2 ((encI b).length) cap_a2]) (by simp only [List.map_toArray, List.map_cons, List.map_nil, ea5, ea8]; kernel_rfl) ?_
  intro u1_3a qrow6 hm
  have zl1_6 := qrow6.lt
  have zu1_3a := hm.size
  refine ⟨hm.mono (fun _ _ h => h.elim), (fun _ => rfl), ?_⟩
  intro u1_3 hr
  have zu1_3 := hr.size
  have Hx7 := hid (qrow6.mod hr (by intro h2; omega))
  have hmr := Mod.after hm hr
  have Hx8 := hid (Hx5.out.mod hmr (by intro k h1 h2; omega))
  have Hx9 := hid (Hx4.out.mod hmr (by intro k h1 h2; omega))
  clear Hx5 Hx4
  clear hmr
  have Cx10 := hid (Cx6.out.go hm hr)
  clear Cx6 hm hr Z act E qrow6 ea5 ea8
  refine QChain.go fun Z act E => ?_
  refine qc_callF (args := #[.slice (some ⟨u1_2.heap.size, 0, none⟩) 2 2]) rfl (wanted_none rfl) rfl Try.func68 (args1 (chv (v := .slice (some ⟨u1_2.heap.size, 0, none⟩) 2 2) (E.d 6))) (Join_Q (n := 2)  Hx7.out [(.slice ao_a1 ((encI a).length) cap_a1, encI a), (.slice ao_a2 ((encI b).length) cap_a2, encI b)] rfl rfl (by intro p hp; simp only [List.mem_cons, List.not_mem_nil, or_false] at hp; rcases hp with rfl | rfl <;> first | exact Hx8.out.rd.1 | exact Hx9.out.rd.1) (by simp) (show flat _ = encI a ++ encI b from by simp only [flat, List.map_cons, List.map_nil, List.flatten_cons, List.flatten_nil, List.append_nil]) (by have := HL.out; simp only [List.length_append] at this ⊢; omega)) ?_
  rintro e u1_4a ⟨v_join1, rfl, qjoin1, hm⟩
  have zu1_4a := hm.size
  refine ⟨_, rfl, hm.mono (fun _ _ h => h.elim), (fun _ => rfl), ?_⟩
  intro u1_4 hr
  have zu1_4 := hr.size
  have Hx11 := hid ((qjoin1.widen (R' := (fun k => (New u1_3 u1_4a k))) (fun _ h => h) (Nat.le_refl _)).mod hr (by intro k h1 h2; omega))
  have hmr := Mod.after hm hr
  have Hx12 := hid (Hx8.out.mod hmr (by intro k h1 h2; omega))
  have Hx13 := hid (Hx9.out.mod hmr (by intro k h1 h2; omega))
  have Hx14 := hid (Hx7.out.mod hmr (by intro h2; omega))
  clear Hx8 Hx9 Hx7
  clear hmr
  have Cx15 := hid (Cx10.out.go hm hr)
  clear Cx10 hm hr Z act E qjoin1
  refine QChain.nil fun vs hl hzz hrows hne => ?_
  obtain ⟨Z, hYZ, hZb, hV⟩ := hzz
  have f2 := fvc hV hl 2
  have f5 := fvc hV hl 5
  have f6 := fvc hV hl 6
  have f7 := fvc hV hl 7
  have f8 := fvc hV hl 8
  rw [show vs = [gw vs 0, gw vs 1, gw vs 2, gw vs 3, gw vs 4, gw vs 5, gw vs 6, gw vs 7, gw vs 8] from (gw_eta hl).trans rfl]
  have ha0 := HA0.out
  subst ha0
  clear HA0 hV hYZ hZb hsz0 hrows hne oe1
  simp only [putAll, Act.put, List.setIfInBounds_toArray, List.set_cons_zero, List.set_cons_succ, f2, f5, f6, f7, f8]
  clear hl f2 f5 f6 f7 f8
  go_wp2
  go_ret
  exact ⟨v_join1, rfl, (Hx11.out.widen (R' := (fun k => New w u1_4 k)) (by intro k h1; omega) (Nat.le_refl _)), (HM0.out.trans Cx15.out (fun _ _ h => h.elim))⟩
set_option maxHeartbeats 2000000 in
theorem RefName_Q {a b : Int} (ha : I64 a) (hb : I64 b) (w : World) : Calls Try.prog 108 #[.agg #[.int .i64 a, .int .i64 b]] w fun e w' => ∃ v', e = .returned v' ∧ OwR (New w w') 900000 w' v' (nameB a b) ∧ Mod (fun _ => False) w w' := by
  have HA := Lib.hid ha
  have HB := Lib.hid hb
  have HL := hid (show (encI a ++ encI b).length ≤ 900000 by have := encI_len a ha.2; have := encI_len b hb.2; simp only [List.length_append]; omega)
  clear ha hb
  change Calls _ _ #[.agg #[.int .i64 a, .int .i64 b]] _ _
  go_enter Try.func108, Try.ntmps108
  go_upto_region 1 with (fail)
  obtain ⟨w1, hw1⟩ : ∃ zz, zz = (w.alloc (.cells #[.int .i64 a, .int .i64 b] 23)) := ⟨_, rfl⟩
  change Code.wp _ _ _ _ (w.alloc (.cells #[.int .i64 a, .int .i64 b] 23))
  rw [← hw1]
  have HB1 := hid (show Cs w1 (w.heap.size) #[.int .i64 a, .int .i64 b] 23 by rw [hw1]; exact Cs.new _ _ _)
  have hm : Mod (fun _ => False) w w1 := by rw [hw1]; exact (Mod.refl _ _).alloc _
  have HM0 := hid (show Mod (fun _ => False) w w1 from hm.mono (fun _ _ h => h.elim))
  have hs1 : w1.heap.size = w.heap.size + 1 := by rw [hw1]; simp
  clear hw1 hm
  go_upto_region 1 with (fail)
  generalize ha0 : Act.mk _ _ = a0
  have oe1 : a0.eval (.tmp 1) = .pointer (some ⟨w.heap.size, 0, none⟩) := by rw [← ha0]; rfl
  have hsz0 : a0.tmps.size = 11 := by rw [← ha0]; rfl
  have HA0 := hid ha0
  clear ha0
  refine wp_region_Q0 11 hsz0 [3, 4, 5, 6, 7, 8, 9, 10, 2] [qi (.pointer (some ⟨w.heap.size, 0, none⟩)), qi (.int .i64 a), qv 0, qi (.pointer (some ⟨w.heap.size, 1, none⟩)), qi (.int .i64 b), qv 1, qv 2, qv 3, qv 3] ⟨qi_stable, qi_stable, qv_stable, qi_stable, qi_stable, qv_stable, qv_stable, qv_stable, qv_stable, trivial⟩ [2, 5, 6, 7] ⟨?_, ?_, ?_, ?_, ?_, ?_, ?_, ?_, ?_, trivial⟩ ?_
  · exact stq (fun E => ex_field rfl Try.underlying23 rfl (by kernel_rfl) (E.v oe1))
  · exact stq (fun E => ex_load1 rfl Try.underlying3 rfl (E.d 0) (Cs.lit1 (HB1.out.mod E.m.old (by intro h2; omega)) rfl))
  · exact stepq_chain rfl
  · exact stq (fun E => ex_field rfl Try.underlying23 rfl (by kernel_rfl) (E.v oe1))
  · exact stq (fun E => ex_load1 rfl Try.underlying3 rfl (E.d 3) (Cs.lit1 (HB1.out.mod E.m.old (by intro h2; omega)) rfl))
  · exact stepq_chain rfl
  · exact stepq_chain rfl
  · exact stepq_chain rfl
  · refine stepq_env rfl rfl rfl fun _ _ _ _ _ _ _ _ _ hd _ _ => ?_
    have h7 := hd ⟨7, .data⟩ (by simp) rfl _ rfl
    exact qe_run rfl (wanted_none rfl) (ex_assign rfl rfl) QE.refl h7
  intro u1_0 hr
  have zu1_0 := hr.size
  have Cx1 := hid (hr.new (S := (fun _ => False)))
  clear hr
  refine QChain.go fun Z act E => ?_
  refine qc_callF (args := #[.int .i64 a]) rfl (wanted_none rfl) rfl Try.func70 (args1 (E.d 1)) (RefInt_Q _ HA.out _) ?_
  rintro e u1_1a ⟨v_a1, rfl, qa1, hm⟩
  obtain ⟨ao_a1, cap_a1, rfl⟩ := qa1.shape
  have zu1_1a := hm.size
  refine ⟨_, rfl, hm.mono (fun _ _ h => h.elim), (fun _ => rfl), ?_⟩
  intro u1_1 hr
  have zu1_1 := hr.size
  have Hx2 := hid ((qa1.widen (R' := (fun k => (New u1_0 u1_1a k))) (fun _ h => h) (Nat.le_refl _)).mod hr (by intro k h1 h2; omega))
  have Cx3 := hid (Cx1.out.go hm hr)
  clear Cx1 hm hr Z act E qa1
  refine QChain.go fun Z act E => ?_
  refine qc_callF (args := #[.int .i64 b]) rfl (wanted_none rfl) rfl Try.func70 (args1 (E.d 4)) (RefInt_Q _ HB.out _) ?_
  rintro e u1_2a ⟨v_a2, rfl, qa2, hm⟩
  obtain ⟨ao_a2, cap_a2, rfl⟩ := qa2.shape
  have zu1_2a := hm.size
  refine ⟨_, rfl, hm.mono (fun _ _ h => h.elim), (fun _ => rfl), ?_⟩
  intro u1_2 hr
  have zu1_2 := hr.size
  have Hx4 := hid ((qa2.widen (R' := (fun k => (New u1_1 u1_2a k))) (fun _ h => h) (Nat.le_refl _)).mod hr (by intro k h1 h2; omega))
  have hmr := Mod.after hm hr
  have Hx5 := hid (Hx2.out.mod hmr (by intro k h1 h2; omega))
  clear Hx2
  clear hmr
  have Cx6 := hid (Cx3.out.go hm hr)
  clear Cx3 hm hr Z act E qa2
  refine QChain.go fun Z act E => ?_
  have ea5 : act.eval (.tmp 5) = .slice ao_a1 ((encI a).length) cap_a1 := (chv (v := .slice ao_a1 ((encI a).length) cap_a1) (E.d 2))
  have ea8 : act.eval (.tmp 8) = .slice ao_a2 ((encI b).length) cap_a2 := (chv (v := .slice ao_a2 ((encI b).length) cap_a2) (E.d 5))
  refine qc_rows rfl (wanted_none rfl) rfl Try.underlying144 (by decide) (C := #[.slice ao_a1 ((encI a).length) cap_a1, .slice ao_a2 ((encI b).length) cap_a2]) (by simp only [List.map_toArray, List.map_cons, List.map_nil, ea5, ea8]; kernel_rfl) ?_
  intro u1_3a qrow6 hm
  have zl1_6 := qrow6.lt
  have zu1_3a := hm.size
  refine ⟨hm.mono (fun _ _ h => h.elim), (fun _ => rfl), ?_⟩
  intro u1_3 hr
  have zu1_3 := hr.size
  have Hx7 := hid (qrow6.mod hr (by intro h2; omega))
  have hmr := Mod.after hm hr
  have Hx8 := hid (Hx5.out.mod hmr (by intro k h1 h2; omega))
  have Hx9 := hid (Hx4.out.mod hmr (by intro k h1 h2; omega))
  clear Hx5 Hx4
  clear hmr
  have Cx10 := hid (Cx6.out.go hm hr)
  clear Cx6 hm hr Z act E qrow6 ea5 ea8
  refine QChain.go fun Z act E => ?_
  refine qc_callF (args := #[.slice (some ⟨u1_2.heap.size, 0, none⟩) 2 2]) rfl (wanted_none rfl) rfl Try.func68 (args1 (chv (v := .slice (some ⟨u1_2.heap.size, 0, none⟩) 2 2) (E.d 6))) (Join_Q (n := 2)  Hx7.out [(.slice ao_a1 ((encI a).length) cap_a1, encI a), (.slice ao_a2 ((encI b).length) cap_a2, encI b)] rfl rfl (by intro p hp; simp only [List.mem_cons, List.not_mem_nil, or_false] at hp; rcases hp with rfl | rfl <;> first | exact Hx8.out.rd.1 | exact Hx9.out.rd.1) (by simp) (show flat _ = encI a ++ encI b from by simp only [flat, List.map_cons, List.map_nil, List.flatten_cons, List.flatten_nil, List.append_nil]) (by have := HL.out; simp only [List.length_append] at this ⊢; omega)) ?_
  rintro e u1_4a ⟨v_join1, rfl, qjoin1, hm⟩
  have zu1_4a := hm.size
  refine ⟨_, rfl, hm.mono (fun _ _ h => h.elim), (fun _ => rfl), ?_⟩
  intro u1_4 hr
  have zu1_4 := hr.size
  have Hx11 := hid ((qjoin1.widen (R' := (fun k => (New u1_3 u1_4a k))) (fun _ h => h) (Nat.le_refl _)).mod hr (by intro k h1 h2; omega))
  have hmr := Mod.after hm hr
  have Hx12 := hid (Hx8.out.mod hmr (by intro k h1 h2; omega))
  have Hx13 := hid (Hx9.out.mod hmr (by intro k h1 h2; omega))
  have Hx14 := hid (Hx7.out.mod hmr (by intro h2; omega))
  clear Hx8 Hx9 Hx7
  clear hmr
  have Cx15 := hid (Cx10.out.go hm hr)
  clear Cx10 hm hr Z act E qjoin1
  refine QChain.nil fun vs hl hzz hrows hne => ?_
  obtain ⟨Z, hYZ, hZb, hV⟩ := hzz
  have f2 := fvc hV hl 2
  have f5 := fvc hV hl 5
  have f6 := fvc hV hl 6
  have f7 := fvc hV hl 7
  have f8 := fvc hV hl 8
  rw [show vs = [gw vs 0, gw vs 1, gw vs 2, gw vs 3, gw vs 4, gw vs 5, gw vs 6, gw vs 7, gw vs 8] from (gw_eta hl).trans rfl]
  have ha0 := HA0.out
  subst ha0
  clear HA0 hV hYZ hZb hsz0 hrows hne oe1
  simp only [putAll, Act.put, List.setIfInBounds_toArray, List.set_cons_zero, List.set_cons_succ, f2, f5, f6, f7, f8]
  clear hl f2 f5 f6 f7 f8
  go_wp2
  go_ret
  exact ⟨v_join1, rfl, (Hx11.out.widen (R' := (fun k => New w u1_4 k)) (by intro k h1; omega) (Nat.le_refl _)), (HM0.out.trans Cx15.out (fun _ _ h => h.elim))⟩
set_option maxHeartbeats 4000000 in
theorem RefCm_Q : Makes CmR 69 cmB := by
  intro R2 cs x w hx hB2 hl
  obtain ⟨rfl, hok⟩ := hx
  have HBT := Lib.hid hB2
  have HOK := Lib.hid hok
  have HL := Lib.hid hl
  clear hB2 hl hok
  unfold cmB at HL
  go_enter Try.func69, Try.ntmps69
  go_upto_region 1 with (fail)
  obtain ⟨w1, hw1⟩ : ∃ zz, zz = (w.alloc (.cells (x.cells : List Value).toArray 49)) := ⟨_, rfl⟩
  change Code.wp _ _ _ _ (w.alloc (.cells (x.cells : List Value).toArray 49))
  rw [← hw1]
  have HB1 := hid (show Cs w1 (w.heap.size) (x.cells : List Value).toArray 49 by rw [hw1]; exact Cs.new _ _ _)
  have hm : Mod (fun _ => False) w w1 := by rw [hw1]; exact (Mod.refl _ _).alloc _
  have HM0 := hid (show Mod (fun _ => False) w w1 from hm.mono (fun _ _ h => h.elim))
  have hs1 : w1.heap.size = w.heap.size + 1 := by rw [hw1]; simp
  clear hw1 hm
  go_upto_region 1 with (fail)
  generalize ha0 : Act.mk _ _ = a0
  have oe1 : a0.eval (.tmp 1) = .pointer (some ⟨w.heap.size, 0, none⟩) := by rw [← ha0]; rfl
  have hsz0 : a0.tmps.size = 16 := by rw [← ha0]; rfl
  have HA0 := hid ha0
  clear ha0
  refine wp_region_Q0 16 hsz0 [3, 4, 5, 6, 7, 8, 9, 10, 11, 12, 13, 14, 15, 2] [qi (.pointer (some ⟨w.heap.size, 0, none⟩)), qi (.agg #[.int .i64 x.cl, .int .i64 x.sq]), qv 0, qi (.pointer (some ⟨w.heap.size, 2, none⟩)), qi (.slice (some ⟨w.heap.size, 2, none⟩) 32 32), qi (.pointer (some ⟨w.heap.size, 34, none⟩)), qi (.int .i64 x.ln), qv 1, qi (.pointer (some ⟨w.heap.size, 35, none⟩)), qi (.agg #[.int .i64 x.sb, .int .i64 x.mr]), qv 2, qv 3, qv 4, qv 4] ⟨qi_stable, qi_stable, qv_stable, qi_stable, qi_stable, qi_stable, qi_stable, qv_stable, qi_stable, qi_stable, qv_stable, qv_stable, qv_stable, qv_stable, trivial⟩ [2, 7, 10, 11, 12] ⟨?_, ?_, ?_, ?_, ?_, ?_, ?_, ?_, ?_, ?_, ?_, ?_, ?_, ?_, trivial⟩ ?_
  · exact stq (fun E => ex_field rfl Try.underlying49 rfl (by kernel_rfl) (E.v oe1))
  · exact stq (fun E => ex_loadA rfl Try.underlying23 rfl (off := 0) (cs := [.int .i64 x.cl, .int .i64 x.sq]) (by kernel_rfl) (E.d 0) (Cs.preA (pre := [.int .i64 x.cl, .int .i64 x.sq]) (mid := x.h.map bv) (post := [.int .i64 x.ln, .int .i64 x.sb, .int .i64 x.mr]) (HB1.out.mod E.m.old (by intro h2; omega)) rfl))
  · exact stepq_chain rfl
  · exact stq (fun E => ex_field rfl Try.underlying49 rfl (by kernel_rfl) (E.v oe1))
  · exact stq (fun E => ex_sliceArr rfl Try.underlying25 (by kernel_rfl) (E.d 3) (by decide))
  · exact stq (fun E => ex_field rfl Try.underlying49 rfl (by kernel_rfl) (E.v oe1))
  · exact stq (fun E => ex_load1 rfl Try.underlying3 rfl (E.d 5) ((HB1.out.mod E.m.old (by intro h2; omega)).c34 HOK.out.2.1))
  · exact stepq_chain rfl
  · exact stq (fun E => ex_field rfl Try.underlying49 rfl (by kernel_rfl) (E.v oe1))
  · exact stq (fun E => ex_loadA rfl Try.underlying28 rfl (off := 35) (cs := [.int .i64 x.sb, .int .i64 x.mr]) (by kernel_rfl) (E.d 8) ((HB1.out.mod E.m.old (by intro h2; omega)).sig HOK.out.2.1))
  · exact stepq_chain rfl
  · exact stepq_chain rfl
  · exact stepq_chain rfl
  · refine stepq_env rfl rfl rfl fun _ _ _ _ _ _ _ _ _ hd _ _ => ?_
    have h12 := hd ⟨12, .data⟩ (by simp) rfl _ rfl
    exact qe_run rfl (wanted_none rfl) (ex_assign rfl rfl) QE.refl h12
  intro u1_0 hr
  have zu1_0 := hr.size
  have Cx1 := hid (hr.new (S := (fun _ => False)))
  clear hr
  refine QChain.go fun Z act E => ?_
  refine qc_callF (args := #[.agg #[.int .i64 x.cl, .int .i64 x.sq]]) rfl (wanted_none rfl) rfl Try.func108 (args1 (E.d 1)) (RefName_Q HOK.out.1.1 HOK.out.1.2.1 _) ?_
  rintro e u1_1a ⟨v_a1, rfl, qa1, hm⟩
  obtain ⟨ao_a1, cap_a1, rfl⟩ := qa1.shape
  have zu1_1a := hm.size
  refine ⟨_, rfl, hm.mono (fun _ _ h => h.elim), (fun _ => rfl), ?_⟩
  intro u1_1 hr
  have zu1_1 := hr.size
  have Hx2 := hid ((qa1.widen (R' := (fun k => (New u1_0 u1_1a k))) (fun _ h => h) (Nat.le_refl _)).mod hr (by intro k h1 h2; omega))
  have Cx3 := hid (Cx1.out.go hm hr)
  clear Cx1 hm hr Z act E qa1
  refine QChain.go fun Z act E => ?_
  refine qc_callF (args := #[.int .i64 x.ln]) rfl (wanted_none rfl) rfl Try.func70 (args1 (E.d 6)) (RefInt_Q _ HOK.out.1.2.2.1 _) ?_
  rintro e u1_2a ⟨v_a2, rfl, qa2, hm⟩
  obtain ⟨ao_a2, cap_a2, rfl⟩ := qa2.shape
  have zu1_2a := hm.size
  refine ⟨_, rfl, hm.mono (fun _ _ h => h.elim), (fun _ => rfl), ?_⟩
  intro u1_2 hr
  have zu1_2 := hr.size
  have Hx4 := hid ((qa2.widen (R' := (fun k => (New u1_1 u1_2a k))) (fun _ h => h) (Nat.le_refl _)).mod hr (by intro k h1 h2; omega))
  have hmr := Mod.after hm hr
  have Hx5 := hid (Hx2.out.mod hmr (by intro k h1 h2; omega))
  clear Hx2
  clear hmr
  have Cx6 := hid (Cx3.out.go hm hr)
  clear Cx3 hm hr Z act E qa2
  refine QChain.go fun Z act E => ?_
  refine qc_callF (args := #[.agg #[.int .i64 x.sb, .int .i64 x.mr]]) rfl (wanted_none rfl) rfl Try.func74 (args1 (E.d 9)) (RefSig_Q HOK.out.1.2.2.2.1 HOK.out.1.2.2.2.2 _) ?_
  rintro e u1_3a ⟨v_a3, rfl, qa3, hm⟩
  obtain ⟨ao_a3, cap_a3, rfl⟩ := qa3.shape
  have zu1_3a := hm.size
  refine ⟨_, rfl, hm.mono (fun _ _ h => h.elim), (fun _ => rfl), ?_⟩
  intro u1_3 hr
  have zu1_3 := hr.size
  have Hx7 := hid ((qa3.widen (R' := (fun k => (New u1_2 u1_3a k))) (fun _ h => h) (Nat.le_refl _)).mod hr (by intro k h1 h2; omega))
  have hmr := Mod.after hm hr
  have Hx8 := hid (Hx5.out.mod hmr (by intro k h1 h2; omega))
  have Hx9 := hid (Hx4.out.mod hmr (by intro k h1 h2; omega))
  clear Hx5 Hx4
  clear hmr
  have Cx10 := hid (Cx6.out.go hm hr)
  clear Cx6 hm hr Z act E qa3
  refine QChain.go fun Z act E => ?_
  have ea5 : act.eval (.tmp 5) = .slice ao_a1 ((nameB x.cl x.sq).length) cap_a1 := (chv (v := .slice ao_a1 ((nameB x.cl x.sq).length) cap_a1) (E.d 2))
  have ea7 : act.eval (.tmp 7) = .slice (some ⟨w.heap.size, 2, none⟩) 32 32 := (E.d 4)
  have ea10 : act.eval (.tmp 10) = .slice ao_a2 ((encI x.ln).length) cap_a2 := (chv (v := .slice ao_a2 ((encI x.ln).length) cap_a2) (E.d 7))
  have ea13 : act.eval (.tmp 13) = .slice ao_a3 ((sigB x.sb x.mr).length) cap_a3 := (chv (v := .slice ao_a3 ((sigB x.sb x.mr).length) cap_a3) (E.d 10))
  refine qc_rows rfl (wanted_none rfl) rfl Try.underlying144 (by decide) (C := #[.slice ao_a1 ((nameB x.cl x.sq).length) cap_a1, .slice (some ⟨w.heap.size, 2, none⟩) 32 32, .slice ao_a2 ((encI x.ln).length) cap_a2, .slice ao_a3 ((sigB x.sb x.mr).length) cap_a3]) (by simp only [List.map_toArray, List.map_cons, List.map_nil, ea5, ea7, ea10, ea13]; kernel_rfl) ?_
  intro u1_4a qrow11 hm
  have zl1_11 := qrow11.lt
  have zu1_4a := hm.size
  refine ⟨hm.mono (fun _ _ h => h.elim), (fun _ => rfl), ?_⟩
  intro u1_4 hr
  have zu1_4 := hr.size
  have Hx11 := hid (qrow11.mod hr (by intro h2; omega))
  have hmr := Mod.after hm hr
  have Hx12 := hid (Hx8.out.mod hmr (by intro k h1 h2; omega))
  have Hx13 := hid (Hx9.out.mod hmr (by intro k h1 h2; omega))
  have Hx14 := hid (Hx7.out.mod hmr (by intro k h1 h2; omega))
  clear Hx8 Hx9 Hx7
  clear hmr
  have Cx15 := hid (Cx10.out.go hm hr)
  clear Cx10 hm hr Z act E qrow11 ea5 ea7 ea10 ea13
  refine QChain.go fun Z act E => ?_
  refine qc_callF (args := #[.slice (some ⟨u1_3.heap.size, 0, none⟩) 4 4]) rfl (wanted_none rfl) rfl Try.func68 (args1 (chv (v := .slice (some ⟨u1_3.heap.size, 0, none⟩) 4 4) (E.d 11))) (Join_Q (n := 4)  Hx11.out [(.slice ao_a1 ((nameB x.cl x.sq).length) cap_a1, nameB x.cl x.sq), (.slice (some ⟨w.heap.size, 2, none⟩) 32 32, x.h), (.slice ao_a2 ((encI x.ln).length) cap_a2, encI x.ln), (.slice ao_a3 ((sigB x.sb x.mr).length) cap_a3, sigB x.sb x.mr)] rfl rfl (by intro p hp; simp only [List.mem_cons, List.not_mem_nil, or_false] at hp; rcases hp with rfl | rfl | rfl | rfl <;> first | exact Hx12.out.rd.1 | exact RdB_arr3 ((HB1.out.mod Cx15.out (fun h => h)).hash) HOK.out.2 | exact Hx13.out.rd.1 | exact Hx14.out.rd.1) (by simp) (show flat _ = nameB x.cl x.sq ++ (x.h ++ (encI x.ln ++ sigB x.sb x.mr)) from by simp only [flat, List.map_cons, List.map_nil, List.flatten_cons, List.flatten_nil, List.append_nil]) (by have := HL.out; simp only [List.length_append] at this ⊢; omega)) ?_
  rintro e u1_5a ⟨v_join1, rfl, qjoin1, hm⟩
  have zu1_5a := hm.size
  refine ⟨_, rfl, hm.mono (fun _ _ h => h.elim), (fun _ => rfl), ?_⟩
  intro u1_5 hr
  have zu1_5 := hr.size
  have Hx16 := hid ((qjoin1.widen (R' := (fun k => (New u1_4 u1_5a k))) (fun _ h => h) (Nat.le_refl _)).mod hr (by intro k h1 h2; omega))
  have hmr := Mod.after hm hr
  have Hx17 := hid (Hx12.out.mod hmr (by intro k h1 h2; omega))
  have Hx18 := hid (Hx13.out.mod hmr (by intro k h1 h2; omega))
  have Hx19 := hid (Hx14.out.mod hmr (by intro k h1 h2; omega))
  have Hx20 := hid (Hx11.out.mod hmr (by intro h2; omega))
  clear Hx12 Hx13 Hx14 Hx11
  clear hmr
  have Cx21 := hid (Cx15.out.go hm hr)
  clear Cx15 hm hr Z act E qjoin1
  refine QChain.nil fun vs hl hzz hrows hne => ?_
  obtain ⟨Z, hYZ, hZb, hV⟩ := hzz
  have f2 := fvc hV hl 2
  have f7 := fvc hV hl 7
  have f10 := fvc hV hl 10
  have f11 := fvc hV hl 11
  have f12 := fvc hV hl 12
  have f13 := fvc hV hl 13
  rw [show vs = [gw vs 0, gw vs 1, gw vs 2, gw vs 3, gw vs 4, gw vs 5, gw vs 6, gw vs 7, gw vs 8, gw vs 9, gw vs 10, gw vs 11, gw vs 12, gw vs 13] from (gw_eta hl).trans rfl]
  have ha0 := HA0.out
  subst ha0
  clear HA0 hV hYZ hZb hsz0 hrows hne oe1
  simp only [putAll, Act.put, List.setIfInBounds_toArray, List.set_cons_zero, List.set_cons_succ, f2, f7, f10, f11, f12, f13]
  clear hl f2 f7 f10 f11 f12 f13
  go_wp2
  go_ret
  have hq := (Hx16.out.widen (R' := (fun k => New w u1_5 k)) (by intro k h1; omega) (Nat.le_refl _))
  (try simp only [List.append_assoc] at hq)
  exact ⟨v_join1, rfl, by simpa only [cmB, List.append_assoc] using hq, (HM0.out.trans Cx21.out (fun _ _ h => h.elim))⟩
set_option maxHeartbeats 4000000 in
theorem RefBare_Q : Makes StR 103 bareT := by
  intro R2 cs x w hx hB2 hl
  obtain ⟨rfl, hok⟩ := hx
  have HBT := Lib.hid hB2
  have HOK := Lib.hid hok
  have HL := Lib.hid hl
  clear hB2 hl hok
  unfold bareT at HL
  go_enter Try.func103, Try.ntmps103
  go_upto_region 1 with (fail)
  obtain ⟨w1, hw1⟩ : ∃ zz, zz = (w.alloc (.cells (x.cells : List Value).toArray 30)) := ⟨_, rfl⟩
  change Code.wp _ _ _ _ (w.alloc (.cells (x.cells : List Value).toArray 30))
  rw [← hw1]
  have HB1 := hid (show Cs w1 (w.heap.size) (x.cells : List Value).toArray 30 by rw [hw1]; exact Cs.new _ _ _)
  have hm : Mod (fun _ => False) w w1 := by rw [hw1]; exact (Mod.refl _ _).alloc _
  have HM0 := hid (show Mod (fun _ => False) w w1 from hm.mono (fun _ _ h => h.elim))
  have hs1 : w1.heap.size = w.heap.size + 1 := by rw [hw1]; simp
  clear hw1 hm
  go_upto_region 1 with (fail)
  generalize ha0 : Act.mk _ _ = a0
  have oe1 : a0.eval (.tmp 1) = .pointer (some ⟨w.heap.size, 0, none⟩) := by rw [← ha0]; rfl
  have hsz0 : a0.tmps.size = 16 := by rw [← ha0]; rfl
  have HA0 := hid ha0
  clear ha0
  refine wp_region_Q0 16 hsz0 [3, 4, 5, 6, 7, 8, 9, 10, 11, 12, 13, 14, 15, 2] [qi (.pointer (some ⟨w.heap.size, 0, none⟩)), qi (.int .i64 x.rp), qv 0, qi (.pointer (some ⟨w.heap.size, 1, none⟩)), qi (.agg #[.int .i64 x.cl, .int .i64 x.sq]), qv 1, qi (.pointer (some ⟨w.heap.size, 3, none⟩)), qi (.slice (some ⟨w.heap.size, 3, none⟩) 32 32), qi (.pointer (some ⟨w.heap.size, 35, none⟩)), qi (.int .u64 (x.tm : Nat)), qv 2, qv 3, qv 4, qv 4] ⟨qi_stable, qi_stable, qv_stable, qi_stable, qi_stable, qv_stable, qi_stable, qi_stable, qi_stable, qi_stable, qv_stable, qv_stable, qv_stable, qv_stable, trivial⟩ [2, 5, 10, 11, 12] ⟨?_, ?_, ?_, ?_, ?_, ?_, ?_, ?_, ?_, ?_, ?_, ?_, ?_, ?_, trivial⟩ ?_
  · exact stq (fun E => ex_field rfl Try.underlying30 rfl (by kernel_rfl) (E.v oe1))
  · exact stq (fun E => ex_load1 rfl Try.underlying3 rfl (E.d 0) (Cs.pre1 (HB1.out.mod E.m.old (by intro h2; omega)) rfl))
  · exact stepq_chain rfl
  · exact stq (fun E => ex_field rfl Try.underlying30 rfl (by kernel_rfl) (E.v oe1))
  · exact stq (fun E => ex_loadA rfl Try.underlying23 rfl (off := 1) (cs := [.int .i64 x.cl, .int .i64 x.sq]) (by kernel_rfl) (E.d 3) (Cs.preA (HB1.out.mod E.m.old (by intro h2; omega)) rfl))
  · exact stepq_chain rfl
  · exact stq (fun E => ex_field rfl Try.underlying30 rfl (by kernel_rfl) (E.v oe1))
  · exact stq (fun E => ex_sliceArr rfl Try.underlying25 (by kernel_rfl) (E.d 6) (by decide))
  · exact stq (fun E => ex_field rfl Try.underlying30 rfl (by kernel_rfl) (E.v oe1))
  · exact stq (fun E => ex_load1 rfl Try.underlying26 rfl (E.d 8) (Cs.post1 (m := 32) (k := 0) (HB1.out.mod E.m.old (by intro h2; omega)) (by rw [List.length_map]; exact HOK.out.h.1) rfl rfl))
  · exact stepq_chain rfl
  · exact stepq_chain rfl
  · exact stepq_chain rfl
  · refine stepq_env rfl rfl rfl fun _ _ _ _ _ _ _ _ _ hd _ _ => ?_
    have h12 := hd ⟨12, .data⟩ (by simp) rfl _ rfl
    exact qe_run rfl (wanted_none rfl) (ex_assign rfl rfl) QE.refl h12
  intro u1_0 hr
  have zu1_0 := hr.size
  have Cx1 := hid (hr.new (S := (fun _ => False)))
  clear hr
  refine QChain.go fun Z act E => ?_
  refine qc_callF (args := #[.int .i64 x.rp]) rfl (wanted_none rfl) rfl Try.func70 (args1 (E.d 1)) (RefInt_Q _ HOK.out.rp _) ?_
  rintro e u1_1a ⟨v_a1, rfl, qa1, hm⟩
  obtain ⟨ao_a1, cap_a1, rfl⟩ := qa1.shape
  have zu1_1a := hm.size
  refine ⟨_, rfl, hm.mono (fun _ _ h => h.elim), (fun _ => rfl), ?_⟩
  intro u1_1 hr
  have zu1_1 := hr.size
  have Hx2 := hid ((qa1.widen (R' := (fun k => (New u1_0 u1_1a k))) (fun _ h => h) (Nat.le_refl _)).mod hr (by intro k h1 h2; omega))
  have Cx3 := hid (Cx1.out.go hm hr)
  clear Cx1 hm hr Z act E qa1
  refine QChain.go fun Z act E => ?_
  refine qc_callF (args := #[.agg #[.int .i64 x.cl, .int .i64 x.sq]]) rfl (wanted_none rfl) rfl Try.func108 (args1 (E.d 4)) (RefName_Q HOK.out.cl HOK.out.sq _) ?_
  rintro e u1_2a ⟨v_a2, rfl, qa2, hm⟩
  obtain ⟨ao_a2, cap_a2, rfl⟩ := qa2.shape
  have zu1_2a := hm.size
  refine ⟨_, rfl, hm.mono (fun _ _ h => h.elim), (fun _ => rfl), ?_⟩
  intro u1_2 hr
  have zu1_2 := hr.size
  have Hx4 := hid ((qa2.widen (R' := (fun k => (New u1_1 u1_2a k))) (fun _ h => h) (Nat.le_refl _)).mod hr (by intro k h1 h2; omega))
  have hmr := Mod.after hm hr
  have Hx5 := hid (Hx2.out.mod hmr (by intro k h1 h2; omega))
  clear Hx2
  clear hmr
  have Cx6 := hid (Cx3.out.go hm hr)
  clear Cx3 hm hr Z act E qa2
  refine QChain.go fun Z act E => ?_
  refine qc_callF (args := #[.int .u64 (x.tm : Nat)]) rfl (wanted_none rfl) rfl Try.func75 (args1 (E.d 9)) (RefNum_Q _ HOK.out.tm _) ?_
  rintro e u1_3a ⟨v_a3, rfl, qa3, hm⟩
  obtain ⟨ao_a3, cap_a3, rfl⟩ := qa3.shape
  have zu1_3a := hm.size
  refine ⟨_, rfl, hm.mono (fun _ _ h => h.elim), (fun _ => rfl), ?_⟩
  intro u1_3 hr
  have zu1_3 := hr.size
  have Hx7 := hid ((qa3.widen (R' := (fun k => (New u1_2 u1_3a k))) (fun _ h => h) (Nat.le_refl _)).mod hr (by intro k h1 h2; omega))
  have hmr := Mod.after hm hr
  have Hx8 := hid (Hx5.out.mod hmr (by intro k h1 h2; omega))
  have Hx9 := hid (Hx4.out.mod hmr (by intro k h1 h2; omega))
  clear Hx5 Hx4
  clear hmr
  have Cx10 := hid (Cx6.out.go hm hr)
  clear Cx6 hm hr Z act E qa3
  refine QChain.go fun Z act E => ?_
  have ea5 : act.eval (.tmp 5) = .slice ao_a1 ((encI x.rp).length) cap_a1 := (chv (v := .slice ao_a1 ((encI x.rp).length) cap_a1) (E.d 2))
  have ea8 : act.eval (.tmp 8) = .slice ao_a2 ((nameB x.cl x.sq).length) cap_a2 := (chv (v := .slice ao_a2 ((nameB x.cl x.sq).length) cap_a2) (E.d 5))
  have ea10 : act.eval (.tmp 10) = .slice (some ⟨w.heap.size, 3, none⟩) 32 32 := (E.d 7)
  have ea13 : act.eval (.tmp 13) = .slice ao_a3 ((encN x.tm).length) cap_a3 := (chv (v := .slice ao_a3 ((encN x.tm).length) cap_a3) (E.d 10))
  refine qc_rows rfl (wanted_none rfl) rfl Try.underlying144 (by decide) (C := #[.slice ao_a1 ((encI x.rp).length) cap_a1, .slice ao_a2 ((nameB x.cl x.sq).length) cap_a2, .slice (some ⟨w.heap.size, 3, none⟩) 32 32, .slice ao_a3 ((encN x.tm).length) cap_a3]) (by simp only [List.map_toArray, List.map_cons, List.map_nil, ea5, ea8, ea10, ea13]; kernel_rfl) ?_
  intro u1_4a qrow11 hm
  have zl1_11 := qrow11.lt
  have zu1_4a := hm.size
  refine ⟨hm.mono (fun _ _ h => h.elim), (fun _ => rfl), ?_⟩
  intro u1_4 hr
  have zu1_4 := hr.size
  have Hx11 := hid (qrow11.mod hr (by intro h2; omega))
  have hmr := Mod.after hm hr
  have Hx12 := hid (Hx8.out.mod hmr (by intro k h1 h2; omega))
  have Hx13 := hid (Hx9.out.mod hmr (by intro k h1 h2; omega))
  have Hx14 := hid (Hx7.out.mod hmr (by intro k h1 h2; omega))
  clear Hx8 Hx9 Hx7
  clear hmr
  have Cx15 := hid (Cx10.out.go hm hr)
  clear Cx10 hm hr Z act E qrow11 ea5 ea8 ea10 ea13
  refine QChain.go fun Z act E => ?_
  refine qc_callF (args := #[.slice (some ⟨u1_3.heap.size, 0, none⟩) 4 4]) rfl (wanted_none rfl) rfl Try.func68 (args1 (chv (v := .slice (some ⟨u1_3.heap.size, 0, none⟩) 4 4) (E.d 11))) (Join_Q (n := 4)  Hx11.out [(.slice ao_a1 ((encI x.rp).length) cap_a1, encI x.rp), (.slice ao_a2 ((nameB x.cl x.sq).length) cap_a2, nameB x.cl x.sq), (.slice (some ⟨w.heap.size, 3, none⟩) 32 32, x.h), (.slice ao_a3 ((encN x.tm).length) cap_a3, encN x.tm)] rfl rfl (by intro p hp; simp only [List.mem_cons, List.not_mem_nil, or_false] at hp; rcases hp with rfl | rfl | rfl | rfl <;> first | exact Hx12.out.rd.1 | exact Hx13.out.rd.1 | exact RdB_arr3 (Cs.midA (HB1.out.mod Cx15.out (fun h => h)) rfl) HOK.out.h | exact Hx14.out.rd.1) (by simp) (show flat _ = encI x.rp ++ (nameB x.cl x.sq ++ (x.h ++ encN x.tm)) from by simp only [flat, List.map_cons, List.map_nil, List.flatten_cons, List.flatten_nil, List.append_nil]) (by have := HL.out; simp only [List.length_append] at this ⊢; omega)) ?_
  rintro e u1_5a ⟨v_join1, rfl, qjoin1, hm⟩
  have zu1_5a := hm.size
  refine ⟨_, rfl, hm.mono (fun _ _ h => h.elim), (fun _ => rfl), ?_⟩
  intro u1_5 hr
  have zu1_5 := hr.size
  have Hx16 := hid ((qjoin1.widen (R' := (fun k => (New u1_4 u1_5a k))) (fun _ h => h) (Nat.le_refl _)).mod hr (by intro k h1 h2; omega))
  have hmr := Mod.after hm hr
  have Hx17 := hid (Hx12.out.mod hmr (by intro k h1 h2; omega))
  have Hx18 := hid (Hx13.out.mod hmr (by intro k h1 h2; omega))
  have Hx19 := hid (Hx14.out.mod hmr (by intro k h1 h2; omega))
  have Hx20 := hid (Hx11.out.mod hmr (by intro h2; omega))
  clear Hx12 Hx13 Hx14 Hx11
  clear hmr
  have Cx21 := hid (Cx15.out.go hm hr)
  clear Cx15 hm hr Z act E qjoin1
  refine QChain.nil fun vs hl hzz hrows hne => ?_
  obtain ⟨Z, hYZ, hZb, hV⟩ := hzz
  have f2 := fvc hV hl 2
  have f5 := fvc hV hl 5
  have f10 := fvc hV hl 10
  have f11 := fvc hV hl 11
  have f12 := fvc hV hl 12
  have f13 := fvc hV hl 13
  rw [show vs = [gw vs 0, gw vs 1, gw vs 2, gw vs 3, gw vs 4, gw vs 5, gw vs 6, gw vs 7, gw vs 8, gw vs 9, gw vs 10, gw vs 11, gw vs 12, gw vs 13] from (gw_eta hl).trans rfl]
  have ha0 := HA0.out
  subst ha0
  clear HA0 hV hYZ hZb hsz0 hrows hne oe1
  simp only [putAll, Act.put, List.setIfInBounds_toArray, List.set_cons_zero, List.set_cons_succ, f2, f5, f10, f11, f12, f13]
  clear hl f2 f5 f10 f11 f12 f13
  go_wp2
  go_ret
  have hq := (Hx16.out.widen (R' := (fun k => New w u1_5 k)) (by intro k h1; omega) (Nat.le_refl _))
  (try simp only [List.append_assoc] at hq)
  exact ⟨v_join1, rfl, by simpa only [bareT, List.append_assoc] using hq, (HM0.out.trans Cx21.out (fun _ _ h => h.elim))⟩
set_option maxHeartbeats 4000000 in
theorem RefBareA_Q : Makes StR 104 bareT := by
  intro R2 cs x w hx hB2 hl
  obtain ⟨rfl, hok⟩ := hx
  have HBT := Lib.hid hB2
  have HOK := Lib.hid hok
  have HL := Lib.hid hl
  clear hB2 hl hok
  unfold bareT at HL
  go_enter Try.func104, Try.ntmps104
  go_upto_region 1 with (fail)
  obtain ⟨w1, hw1⟩ : ∃ zz, zz = (w.alloc (.cells (x.cells : List Value).toArray 44)) := ⟨_, rfl⟩
  change Code.wp _ _ _ _ (w.alloc (.cells (x.cells : List Value).toArray 44))
  rw [← hw1]
  have HB1 := hid (show Cs w1 (w.heap.size) (x.cells : List Value).toArray 44 by rw [hw1]; exact Cs.new _ _ _)
  have hm : Mod (fun _ => False) w w1 := by rw [hw1]; exact (Mod.refl _ _).alloc _
  have HM0 := hid (show Mod (fun _ => False) w w1 from hm.mono (fun _ _ h => h.elim))
  have hs1 : w1.heap.size = w.heap.size + 1 := by rw [hw1]; simp
  clear hw1 hm
  go_upto_region 1 with (fail)
  generalize ha0 : Act.mk _ _ = a0
  have oe1 : a0.eval (.tmp 1) = .pointer (some ⟨w.heap.size, 0, none⟩) := by rw [← ha0]; rfl
  have hsz0 : a0.tmps.size = 16 := by rw [← ha0]; rfl
  have HA0 := hid ha0
  clear ha0
  refine wp_region_Q0 16 hsz0 [3, 4, 5, 6, 7, 8, 9, 10, 11, 12, 13, 14, 15, 2] [qi (.pointer (some ⟨w.heap.size, 0, none⟩)), qi (.int .i64 x.rp), qv 0, qi (.pointer (some ⟨w.heap.size, 1, none⟩)), qi (.agg #[.int .i64 x.cl, .int .i64 x.sq]), qv 1, qi (.pointer (some ⟨w.heap.size, 3, none⟩)), qi (.slice (some ⟨w.heap.size, 3, none⟩) 32 32), qi (.pointer (some ⟨w.heap.size, 35, none⟩)), qi (.int .u64 (x.tm : Nat)), qv 2, qv 3, qv 4, qv 4] ⟨qi_stable, qi_stable, qv_stable, qi_stable, qi_stable, qv_stable, qi_stable, qi_stable, qi_stable, qi_stable, qv_stable, qv_stable, qv_stable, qv_stable, trivial⟩ [2, 5, 10, 11, 12] ⟨?_, ?_, ?_, ?_, ?_, ?_, ?_, ?_, ?_, ?_, ?_, ?_, ?_, ?_, trivial⟩ ?_
  · exact stq (fun E => ex_field rfl Try.underlying44 rfl (by kernel_rfl) (E.v oe1))
  · exact stq (fun E => ex_load1 rfl Try.underlying3 rfl (E.d 0) (Cs.pre1 (HB1.out.mod E.m.old (by intro h2; omega)) rfl))
  · exact stepq_chain rfl
  · exact stq (fun E => ex_field rfl Try.underlying44 rfl (by kernel_rfl) (E.v oe1))
  · exact stq (fun E => ex_loadA rfl Try.underlying23 rfl (off := 1) (cs := [.int .i64 x.cl, .int .i64 x.sq]) (by kernel_rfl) (E.d 3) (Cs.preA (HB1.out.mod E.m.old (by intro h2; omega)) rfl))
  · exact stepq_chain rfl
  · exact stq (fun E => ex_field rfl Try.underlying44 rfl (by kernel_rfl) (E.v oe1))
  · exact stq (fun E => ex_sliceArr rfl Try.underlying25 (by kernel_rfl) (E.d 6) (by decide))
  · exact stq (fun E => ex_field rfl Try.underlying44 rfl (by kernel_rfl) (E.v oe1))
  · exact stq (fun E => ex_load1 rfl Try.underlying26 rfl (E.d 8) (Cs.post1 (m := 32) (k := 0) (HB1.out.mod E.m.old (by intro h2; omega)) (by rw [List.length_map]; exact HOK.out.h.1) rfl rfl))
  · exact stepq_chain rfl
  · exact stepq_chain rfl
  · exact stepq_chain rfl
  · refine stepq_env rfl rfl rfl fun _ _ _ _ _ _ _ _ _ hd _ _ => ?_
    have h12 := hd ⟨12, .data⟩ (by simp) rfl _ rfl
    exact qe_run rfl (wanted_none rfl) (ex_assign rfl rfl) QE.refl h12
  intro u1_0 hr
  have zu1_0 := hr.size
  have Cx1 := hid (hr.new (S := (fun _ => False)))
  clear hr
  refine QChain.go fun Z act E => ?_
  refine qc_callF (args := #[.int .i64 x.rp]) rfl (wanted_none rfl) rfl Try.func70 (args1 (E.d 1)) (RefInt_Q _ HOK.out.rp _) ?_
  rintro e u1_1a ⟨v_a1, rfl, qa1, hm⟩
  obtain ⟨ao_a1, cap_a1, rfl⟩ := qa1.shape
  have zu1_1a := hm.size
  refine ⟨_, rfl, hm.mono (fun _ _ h => h.elim), (fun _ => rfl), ?_⟩
  intro u1_1 hr
  have zu1_1 := hr.size
  have Hx2 := hid ((qa1.widen (R' := (fun k => (New u1_0 u1_1a k))) (fun _ h => h) (Nat.le_refl _)).mod hr (by intro k h1 h2; omega))
  have Cx3 := hid (Cx1.out.go hm hr)
  clear Cx1 hm hr Z act E qa1
  refine QChain.go fun Z act E => ?_
  refine qc_callF (args := #[.agg #[.int .i64 x.cl, .int .i64 x.sq]]) rfl (wanted_none rfl) rfl Try.func108 (args1 (E.d 4)) (RefName_Q HOK.out.cl HOK.out.sq _) ?_
  rintro e u1_2a ⟨v_a2, rfl, qa2, hm⟩
  obtain ⟨ao_a2, cap_a2, rfl⟩ := qa2.shape
  have zu1_2a := hm.size
  refine ⟨_, rfl, hm.mono (fun _ _ h => h.elim), (fun _ => rfl), ?_⟩
  intro u1_2 hr
  have zu1_2 := hr.size
  have Hx4 := hid ((qa2.widen (R' := (fun k => (New u1_1 u1_2a k))) (fun _ h => h) (Nat.le_refl _)).mod hr (by intro k h1 h2; omega))
  have hmr := Mod.after hm hr
  have Hx5 := hid (Hx2.out.mod hmr (by intro k h1 h2; omega))
  clear Hx2
  clear hmr
  have Cx6 := hid (Cx3.out.go hm hr)
  clear Cx3 hm hr Z act E qa2
  refine QChain.go fun Z act E => ?_
  refine qc_callF (args := #[.int .u64 (x.tm : Nat)]) rfl (wanted_none rfl) rfl Try.func75 (args1 (E.d 9)) (RefNum_Q _ HOK.out.tm _) ?_
  rintro e u1_3a ⟨v_a3, rfl, qa3, hm⟩
  obtain ⟨ao_a3, cap_a3, rfl⟩ := qa3.shape
  have zu1_3a := hm.size
  refine ⟨_, rfl, hm.mono (fun _ _ h => h.elim), (fun _ => rfl), ?_⟩
  intro u1_3 hr
  have zu1_3 := hr.size
  have Hx7 := hid ((qa3.widen (R' := (fun k => (New u1_2 u1_3a k))) (fun _ h => h) (Nat.le_refl _)).mod hr (by intro k h1 h2; omega))
  have hmr := Mod.after hm hr
  have Hx8 := hid (Hx5.out.mod hmr (by intro k h1 h2; omega))
  have Hx9 := hid (Hx4.out.mod hmr (by intro k h1 h2; omega))
  clear Hx5 Hx4
  clear hmr
  have Cx10 := hid (Cx6.out.go hm hr)
  clear Cx6 hm hr Z act E qa3
  refine QChain.go fun Z act E => ?_
  have ea5 : act.eval (.tmp 5) = .slice ao_a1 ((encI x.rp).length) cap_a1 := (chv (v := .slice ao_a1 ((encI x.rp).length) cap_a1) (E.d 2))
  have ea8 : act.eval (.tmp 8) = .slice ao_a2 ((nameB x.cl x.sq).length) cap_a2 := (chv (v := .slice ao_a2 ((nameB x.cl x.sq).length) cap_a2) (E.d 5))
  have ea10 : act.eval (.tmp 10) = .slice (some ⟨w.heap.size, 3, none⟩) 32 32 := (E.d 7)
  have ea13 : act.eval (.tmp 13) = .slice ao_a3 ((encN x.tm).length) cap_a3 := (chv (v := .slice ao_a3 ((encN x.tm).length) cap_a3) (E.d 10))
  refine qc_rows rfl (wanted_none rfl) rfl Try.underlying144 (by decide) (C := #[.slice ao_a1 ((encI x.rp).length) cap_a1, .slice ao_a2 ((nameB x.cl x.sq).length) cap_a2, .slice (some ⟨w.heap.size, 3, none⟩) 32 32, .slice ao_a3 ((encN x.tm).length) cap_a3]) (by simp only [List.map_toArray, List.map_cons, List.map_nil, ea5, ea8, ea10, ea13]; kernel_rfl) ?_
  intro u1_4a qrow11 hm
  have zl1_11 := qrow11.lt
  have zu1_4a := hm.size
  refine ⟨hm.mono (fun _ _ h => h.elim), (fun _ => rfl), ?_⟩
  intro u1_4 hr
  have zu1_4 := hr.size
  have Hx11 := hid (qrow11.mod hr (by intro h2; omega))
  have hmr := Mod.after hm hr
  have Hx12 := hid (Hx8.out.mod hmr (by intro k h1 h2; omega))
  have Hx13 := hid (Hx9.out.mod hmr (by intro k h1 h2; omega))
  have Hx14 := hid (Hx7.out.mod hmr (by intro k h1 h2; omega))
  clear Hx8 Hx9 Hx7
  clear hmr
  have Cx15 := hid (Cx10.out.go hm hr)
  clear Cx10 hm hr Z act E qrow11 ea5 ea8 ea10 ea13
  refine QChain.go fun Z act E => ?_
  refine qc_callF (args := #[.slice (some ⟨u1_3.heap.size, 0, none⟩) 4 4]) rfl (wanted_none rfl) rfl Try.func68 (args1 (chv (v := .slice (some ⟨u1_3.heap.size, 0, none⟩) 4 4) (E.d 11))) (Join_Q (n := 4)  Hx11.out [(.slice ao_a1 ((encI x.rp).length) cap_a1, encI x.rp), (.slice ao_a2 ((nameB x.cl x.sq).length) cap_a2, nameB x.cl x.sq), (.slice (some ⟨w.heap.size, 3, none⟩) 32 32, x.h), (.slice ao_a3 ((encN x.tm).length) cap_a3, encN x.tm)] rfl rfl (by intro p hp; simp only [List.mem_cons, List.not_mem_nil, or_false] at hp; rcases hp with rfl | rfl | rfl | rfl <;> first | exact Hx12.out.rd.1 | exact Hx13.out.rd.1 | exact RdB_arr3 (Cs.midA (HB1.out.mod Cx15.out (fun h => h)) rfl) HOK.out.h | exact Hx14.out.rd.1) (by simp) (show flat _ = encI x.rp ++ (nameB x.cl x.sq ++ (x.h ++ encN x.tm)) from by simp only [flat, List.map_cons, List.map_nil, List.flatten_cons, List.flatten_nil, List.append_nil]) (by have := HL.out; simp only [List.length_append] at this ⊢; omega)) ?_
  rintro e u1_5a ⟨v_join1, rfl, qjoin1, hm⟩
  have zu1_5a := hm.size
  refine ⟨_, rfl, hm.mono (fun _ _ h => h.elim), (fun _ => rfl), ?_⟩
  intro u1_5 hr
  have zu1_5 := hr.size
  have Hx16 := hid ((qjoin1.widen (R' := (fun k => (New u1_4 u1_5a k))) (fun _ h => h) (Nat.le_refl _)).mod hr (by intro k h1 h2; omega))
  have hmr := Mod.after hm hr
  have Hx17 := hid (Hx12.out.mod hmr (by intro k h1 h2; omega))
  have Hx18 := hid (Hx13.out.mod hmr (by intro k h1 h2; omega))
  have Hx19 := hid (Hx14.out.mod hmr (by intro k h1 h2; omega))
  have Hx20 := hid (Hx11.out.mod hmr (by intro h2; omega))
  clear Hx12 Hx13 Hx14 Hx11
  clear hmr
  have Cx21 := hid (Cx15.out.go hm hr)
  clear Cx15 hm hr Z act E qjoin1
  refine QChain.nil fun vs hl hzz hrows hne => ?_
  obtain ⟨Z, hYZ, hZb, hV⟩ := hzz
  have f2 := fvc hV hl 2
  have f5 := fvc hV hl 5
  have f10 := fvc hV hl 10
  have f11 := fvc hV hl 11
  have f12 := fvc hV hl 12
  have f13 := fvc hV hl 13
  rw [show vs = [gw vs 0, gw vs 1, gw vs 2, gw vs 3, gw vs 4, gw vs 5, gw vs 6, gw vs 7, gw vs 8, gw vs 9, gw vs 10, gw vs 11, gw vs 12, gw vs 13] from (gw_eta hl).trans rfl]
  have ha0 := HA0.out
  subst ha0
  clear HA0 hV hYZ hZb hsz0 hrows hne oe1
  simp only [putAll, Act.put, List.setIfInBounds_toArray, List.set_cons_zero, List.set_cons_succ, f2, f5, f10, f11, f12, f13]
  clear hl f2 f5 f10 f11 f12 f13
  go_wp2
  go_ret
  have hq := (Hx16.out.widen (R' := (fun k => New w u1_5 k)) (by intro k h1; omega) (Nat.le_refl _))
  (try simp only [List.append_assoc] at hq)
  exact ⟨v_join1, rfl, by simpa only [bareT, List.append_assoc] using hq, (HM0.out.trans Cx21.out (fun _ _ h => h.elim))⟩
set_option maxHeartbeats 4000000 in
theorem RefBareV_Q : Makes VtR 106 bareV := by
  intro R2 cs x w hx hB2 hl
  obtain ⟨rfl, hok⟩ := hx
  have HBT := Lib.hid hB2
  have HOK := Lib.hid hok
  have HL := Lib.hid hl
  clear hB2 hl hok
  unfold bareV at HL
  go_enter Try.func106, Try.ntmps106
  go_upto_region 1 with (fail)
  obtain ⟨w1, hw1⟩ : ∃ zz, zz = (w.alloc (.cells (x.cells : List Value).toArray 32)) := ⟨_, rfl⟩
  change Code.wp _ _ _ _ (w.alloc (.cells (x.cells : List Value).toArray 32))
  rw [← hw1]
  have HB1 := hid (show Cs w1 (w.heap.size) (x.cells : List Value).toArray 32 by rw [hw1]; exact Cs.new _ _ _)
  have hm : Mod (fun _ => False) w w1 := by rw [hw1]; exact (Mod.refl _ _).alloc _
  have HM0 := hid (show Mod (fun _ => False) w w1 from hm.mono (fun _ _ h => h.elim))
  have hs1 : w1.heap.size = w.heap.size + 1 := by rw [hw1]; simp
  clear hw1 hm
  go_upto_region 1 with (fail)
  generalize ha0 : Act.mk _ _ = a0
  have oe1 : a0.eval (.tmp 1) = .pointer (some ⟨w.heap.size, 0, none⟩) := by rw [← ha0]; rfl
  have hsz0 : a0.tmps.size = 19 := by rw [← ha0]; rfl
  have HA0 := hid ha0
  clear ha0
  refine wp_region_Q0 19 hsz0 [3, 4, 5, 6, 7, 8, 9, 10, 11, 12, 13, 14, 15, 16, 17, 18, 2] [qi (.pointer (some ⟨w.heap.size, 0, none⟩)), qi (.int .i64 x.kd), qv 0, qi (.pointer (some ⟨w.heap.size, 1, none⟩)), qi (.int .i64 x.ep), qv 1, qi (.pointer (some ⟨w.heap.size, 2, none⟩)), qi (.int .i64 x.rd), qv 2, qi (.pointer (some ⟨w.heap.size, 3, none⟩)), qi (.int .i64 x.rp), qv 3, qi (.pointer (some ⟨w.heap.size, 4, none⟩)), qi (.slice (some ⟨w.heap.size, 4, none⟩) 32 32), qv 4, qv 5, qv 5] ⟨qi_stable, qi_stable, qv_stable, qi_stable, qi_stable, qv_stable, qi_stable, qi_stable, qv_stable, qi_stable, qi_stable, qv_stable, qi_stable, qi_stable, qv_stable, qv_stable, qv_stable, trivial⟩ [2, 5, 8, 11, 14, 15] ⟨?_, ?_, ?_, ?_, ?_, ?_, ?_, ?_, ?_, ?_, ?_, ?_, ?_, ?_, ?_, ?_, ?_, trivial⟩ ?_
  · exact stq (fun E => ex_field rfl Try.underlying32 rfl (by kernel_rfl) (E.v oe1))
  · exact stq (fun E => ex_load1 rfl Try.underlying3 rfl (E.d 0) (Cs.pre1 (HB1.out.mod E.m.old (by intro h2; omega)) rfl))
  · exact stepq_chain rfl
  · exact stq (fun E => ex_field rfl Try.underlying32 rfl (by kernel_rfl) (E.v oe1))
  · exact stq (fun E => ex_load1 rfl Try.underlying3 rfl (E.d 3) (Cs.pre1 (HB1.out.mod E.m.old (by intro h2; omega)) rfl))
  · exact stepq_chain rfl
  · exact stq (fun E => ex_field rfl Try.underlying32 rfl (by kernel_rfl) (E.v oe1))
  · exact stq (fun E => ex_load1 rfl Try.underlying3 rfl (E.d 6) (Cs.pre1 (HB1.out.mod E.m.old (by intro h2; omega)) rfl))
  · exact stepq_chain rfl
  · exact stq (fun E => ex_field rfl Try.underlying32 rfl (by kernel_rfl) (E.v oe1))
  · exact stq (fun E => ex_load1 rfl Try.underlying3 rfl (E.d 9) (Cs.pre1 (HB1.out.mod E.m.old (by intro h2; omega)) rfl))
  · exact stepq_chain rfl
  · exact stq (fun E => ex_field rfl Try.underlying32 rfl (by kernel_rfl) (E.v oe1))
  · exact stq (fun E => ex_sliceArr rfl Try.underlying25 (by kernel_rfl) (E.d 12) (by decide))
  · exact stepq_chain rfl
  · exact stepq_chain rfl
  · refine stepq_env rfl rfl rfl fun _ _ _ _ _ _ _ _ _ hd _ _ => ?_
    have h15 := hd ⟨15, .data⟩ (by simp) rfl _ rfl
    exact qe_run rfl (wanted_none rfl) (ex_assign rfl rfl) QE.refl h15
  intro u1_0 hr
  have zu1_0 := hr.size
  have Cx1 := hid (hr.new (S := (fun _ => False)))
  clear hr
  refine QChain.go fun Z act E => ?_
  refine qc_callF (args := #[.int .i64 x.kd]) rfl (wanted_none rfl) rfl Try.func70 (args1 (E.d 1)) (RefInt_Q _ HOK.out.kd _) ?_
  rintro e u1_1a ⟨v_a1, rfl, qa1, hm⟩
  obtain ⟨ao_a1, cap_a1, rfl⟩ := qa1.shape
  have zu1_1a := hm.size
  refine ⟨_, rfl, hm.mono (fun _ _ h => h.elim), (fun _ => rfl), ?_⟩
  intro u1_1 hr
  have zu1_1 := hr.size
  have Hx2 := hid ((qa1.widen (R' := (fun k => (New u1_0 u1_1a k))) (fun _ h => h) (Nat.le_refl _)).mod hr (by intro k h1 h2; omega))
  have Cx3 := hid (Cx1.out.go hm hr)
  clear Cx1 hm hr Z act E qa1
  refine QChain.go fun Z act E => ?_
  refine qc_callF (args := #[.int .i64 x.ep]) rfl (wanted_none rfl) rfl Try.func70 (args1 (E.d 4)) (RefInt_Q _ HOK.out.ep _) ?_
  rintro e u1_2a ⟨v_a2, rfl, qa2, hm⟩
  obtain ⟨ao_a2, cap_a2, rfl⟩ := qa2.shape
  have zu1_2a := hm.size
  refine ⟨_, rfl, hm.mono (fun _ _ h => h.elim), (fun _ => rfl), ?_⟩
  intro u1_2 hr
  have zu1_2 := hr.size
  have Hx4 := hid ((qa2.widen (R' := (fun k => (New u1_1 u1_2a k))) (fun _ h => h) (Nat.le_refl _)).mod hr (by intro k h1 h2; omega))
  have hmr := Mod.after hm hr
  have Hx5 := hid (Hx2.out.mod hmr (by intro k h1 h2; omega))
  clear Hx2
  clear hmr
  have Cx6 := hid (Cx3.out.go hm hr)
  clear Cx3 hm hr Z act E qa2
  refine QChain.go fun Z act E => ?_
  refine qc_callF (args := #[.int .i64 x.rd]) rfl (wanted_none rfl) rfl Try.func70 (args1 (E.d 7)) (RefInt_Q _ HOK.out.rd _) ?_
  rintro e u1_3a ⟨v_a3, rfl, qa3, hm⟩
  obtain ⟨ao_a3, cap_a3, rfl⟩ := qa3.shape
  have zu1_3a := hm.size
  refine ⟨_, rfl, hm.mono (fun _ _ h => h.elim), (fun _ => rfl), ?_⟩
  intro u1_3 hr
  have zu1_3 := hr.size
  have Hx7 := hid ((qa3.widen (R' := (fun k => (New u1_2 u1_3a k))) (fun _ h => h) (Nat.le_refl _)).mod hr (by intro k h1 h2; omega))
  have hmr := Mod.after hm hr
  have Hx8 := hid (Hx5.out.mod hmr (by intro k h1 h2; omega))
  have Hx9 := hid (Hx4.out.mod hmr (by intro k h1 h2; omega))
  clear Hx5 Hx4
  clear hmr
  have Cx10 := hid (Cx6.out.go hm hr)
  clear Cx6 hm hr Z act E qa3
  refine QChain.go fun Z act E => ?_
  refine qc_callF (args := #[.int .i64 x.rp]) rfl (wanted_none rfl) rfl Try.func70 (args1 (E.d 10)) (RefInt_Q _ HOK.out.rp _) ?_
  rintro e u1_4a ⟨v_a4, rfl, qa4, hm⟩
  obtain ⟨ao_a4, cap_a4, rfl⟩ := qa4.shape
  have zu1_4a := hm.size
  refine ⟨_, rfl, hm.mono (fun _ _ h => h.elim), (fun _ => rfl), ?_⟩
  intro u1_4 hr
  have zu1_4 := hr.size
  have Hx11 := hid ((qa4.widen (R' := (fun k => (New u1_3 u1_4a k))) (fun _ h => h) (Nat.le_refl _)).mod hr (by intro k h1 h2; omega))
  have hmr := Mod.after hm hr
  have Hx12 := hid (Hx8.out.mod hmr (by intro k h1 h2; omega))
  have Hx13 := hid (Hx9.out.mod hmr (by intro k h1 h2; omega))
  have Hx14 := hid (Hx7.out.mod hmr (by intro k h1 h2; omega))
  clear Hx8 Hx9 Hx7
  clear hmr
  have Cx15 := hid (Cx10.out.go hm hr)
  clear Cx10 hm hr Z act E qa4
  refine QChain.go fun Z act E => ?_
  have ea5 : act.eval (.tmp 5) = .slice ao_a1 ((encI x.kd).length) cap_a1 := (chv (v := .slice ao_a1 ((encI x.kd).length) cap_a1) (E.d 2))
  have ea8 : act.eval (.tmp 8) = .slice ao_a2 ((encI x.ep).length) cap_a2 := (chv (v := .slice ao_a2 ((encI x.ep).length) cap_a2) (E.d 5))
  have ea11 : act.eval (.tmp 11) = .slice ao_a3 ((encI x.rd).length) cap_a3 := (chv (v := .slice ao_a3 ((encI x.rd).length) cap_a3) (E.d 8))
  have ea14 : act.eval (.tmp 14) = .slice ao_a4 ((encI x.rp).length) cap_a4 := (chv (v := .slice ao_a4 ((encI x.rp).length) cap_a4) (E.d 11))
  have ea16 : act.eval (.tmp 16) = .slice (some ⟨w.heap.size, 4, none⟩) 32 32 := (E.d 13)
  refine qc_rows rfl (wanted_none rfl) rfl Try.underlying144 (by decide) (C := #[.slice ao_a1 ((encI x.kd).length) cap_a1, .slice ao_a2 ((encI x.ep).length) cap_a2, .slice ao_a3 ((encI x.rd).length) cap_a3, .slice ao_a4 ((encI x.rp).length) cap_a4, .slice (some ⟨w.heap.size, 4, none⟩) 32 32]) (by simp only [List.map_toArray, List.map_cons, List.map_nil, ea5, ea8, ea11, ea14, ea16]; kernel_rfl) ?_
  intro u1_5a qrow14 hm
  have zl1_14 := qrow14.lt
  have zu1_5a := hm.size
  refine ⟨hm.mono (fun _ _ h => h.elim), (fun _ => rfl), ?_⟩
  intro u1_5 hr
  have zu1_5 := hr.size
  have Hx16 := hid (qrow14.mod hr (by intro h2; omega))
  have hmr := Mod.after hm hr
  have Hx17 := hid (Hx12.out.mod hmr (by intro k h1 h2; omega))
  have Hx18 := hid (Hx13.out.mod hmr (by intro k h1 h2; omega))
  have Hx19 := hid (Hx14.out.mod hmr (by intro k h1 h2; omega))
  have Hx20 := hid (Hx11.out.mod hmr (by intro k h1 h2; omega))
  clear Hx12 Hx13 Hx14 Hx11
  clear hmr
  have Cx21 := hid (Cx15.out.go hm hr)
  clear Cx15 hm hr Z act E qrow14 ea5 ea8 ea11 ea14 ea16
  refine QChain.go fun Z act E => ?_
  refine qc_callF (args := #[.slice (some ⟨u1_4.heap.size, 0, none⟩) 5 5]) rfl (wanted_none rfl) rfl Try.func68 (args1 (chv (v := .slice (some ⟨u1_4.heap.size, 0, none⟩) 5 5) (E.d 14))) (Join_Q (n := 5)  Hx16.out [(.slice ao_a1 ((encI x.kd).length) cap_a1, encI x.kd), (.slice ao_a2 ((encI x.ep).length) cap_a2, encI x.ep), (.slice ao_a3 ((encI x.rd).length) cap_a3, encI x.rd), (.slice ao_a4 ((encI x.rp).length) cap_a4, encI x.rp), (.slice (some ⟨w.heap.size, 4, none⟩) 32 32, x.h)] rfl rfl (by intro p hp; simp only [List.mem_cons, List.not_mem_nil, or_false] at hp; rcases hp with rfl | rfl | rfl | rfl | rfl <;> first | exact Hx17.out.rd.1 | exact Hx18.out.rd.1 | exact Hx19.out.rd.1 | exact Hx20.out.rd.1 | exact RdB_arr3 (Cs.midA (HB1.out.mod Cx21.out (fun h => h)) rfl) HOK.out.h) (by simp) (show flat _ = encI x.kd ++ (encI x.ep ++ (encI x.rd ++ (encI x.rp ++ x.h))) from by simp only [flat, List.map_cons, List.map_nil, List.flatten_cons, List.flatten_nil, List.append_nil]) (by have := HL.out; simp only [List.length_append] at this ⊢; omega)) ?_
  rintro e u1_6a ⟨v_join1, rfl, qjoin1, hm⟩
  have zu1_6a := hm.size
  refine ⟨_, rfl, hm.mono (fun _ _ h => h.elim), (fun _ => rfl), ?_⟩
  intro u1_6 hr
  have zu1_6 := hr.size
  have Hx22 := hid ((qjoin1.widen (R' := (fun k => (New u1_5 u1_6a k))) (fun _ h => h) (Nat.le_refl _)).mod hr (by intro k h1 h2; omega))
  have hmr := Mod.after hm hr
  have Hx23 := hid (Hx17.out.mod hmr (by intro k h1 h2; omega))
  have Hx24 := hid (Hx18.out.mod hmr (by intro k h1 h2; omega))
  have Hx25 := hid (Hx19.out.mod hmr (by intro k h1 h2; omega))
  have Hx26 := hid (Hx20.out.mod hmr (by intro k h1 h2; omega))
  have Hx27 := hid (Hx16.out.mod hmr (by intro h2; omega))
  clear Hx17 Hx18 Hx19 Hx20 Hx16
  clear hmr
  have Cx28 := hid (Cx21.out.go hm hr)
  clear Cx21 hm hr Z act E qjoin1
  refine QChain.nil fun vs hl hzz hrows hne => ?_
  obtain ⟨Z, hYZ, hZb, hV⟩ := hzz
  have f2 := fvc hV hl 2
  have f5 := fvc hV hl 5
  have f8 := fvc hV hl 8
  have f11 := fvc hV hl 11
  have f14 := fvc hV hl 14
  have f15 := fvc hV hl 15
  have f16 := fvc hV hl 16
  rw [show vs = [gw vs 0, gw vs 1, gw vs 2, gw vs 3, gw vs 4, gw vs 5, gw vs 6, gw vs 7, gw vs 8, gw vs 9, gw vs 10, gw vs 11, gw vs 12, gw vs 13, gw vs 14, gw vs 15, gw vs 16] from (gw_eta hl).trans rfl]
  have ha0 := HA0.out
  subst ha0
  clear HA0 hV hYZ hZb hsz0 hrows hne oe1
  simp only [putAll, Act.put, List.setIfInBounds_toArray, List.set_cons_zero, List.set_cons_succ, f2, f5, f8, f11, f14, f15, f16]
  clear hl f2 f5 f8 f11 f14 f15 f16
  go_wp2
  go_ret
  have hq := (Hx22.out.widen (R' := (fun k => New w u1_6 k)) (by intro k h1; omega) (Nat.le_refl _))
  (try simp only [List.append_assoc] at hq)
  exact ⟨v_join1, rfl, by simpa only [bareV, List.append_assoc] using hq, (HM0.out.trans Cx28.out (fun _ _ h => h.elim))⟩
set_option maxHeartbeats 4000000 in
theorem RefDn_Q : Makes DnR 77 dnB := by
  intro R2 cs x w hx hB2 hl
  obtain ⟨rfl, hok⟩ := hx
  have HBT := Lib.hid hB2
  have HOK := Lib.hid hok
  have HL := Lib.hid hl
  clear hB2 hl hok
  unfold dnB at HL
  go_enter Try.func77, Try.ntmps77
  go_upto_region 1 with (fail)
  obtain ⟨w1, hw1⟩ : ∃ zz, zz = (w.alloc (.cells (x.cells : List Value).toArray 34)) := ⟨_, rfl⟩
  change Code.wp _ _ _ _ (w.alloc (.cells (x.cells : List Value).toArray 34))
  rw [← hw1]
  have HB1 := hid (show Cs w1 (w.heap.size) (x.cells : List Value).toArray 34 by rw [hw1]; exact Cs.new _ _ _)
  have hm : Mod (fun _ => False) w w1 := by rw [hw1]; exact (Mod.refl _ _).alloc _
  have HM0 := hid (show Mod (fun _ => False) w w1 from hm.mono (fun _ _ h => h.elim))
  have hs1 : w1.heap.size = w.heap.size + 1 := by rw [hw1]; simp
  clear hw1 hm
  go_upto_region 1 with (fail)
  generalize ha0 : Act.mk _ _ = a0
  have oe1 : a0.eval (.tmp 1) = .pointer (some ⟨w.heap.size, 0, none⟩) := by rw [← ha0]; rfl
  have hsz0 : a0.tmps.size = 14 := by rw [← ha0]; rfl
  have HA0 := hid ha0
  clear ha0
  refine wp_region_Q0 14 hsz0 [3, 4, 5, 6, 7, 8, 9, 10, 11, 12, 13, 2] [qi (.pointer (some ⟨w.heap.size, 0, none⟩)), qi (.int .i64 x.rp), qv 0, qi (.pointer (some ⟨w.heap.size, 1, none⟩)), qi (.int .i64 x.ix), qv 1, qi (.pointer (some ⟨w.heap.size, 2, none⟩)), qi (.agg #[.int .i64 x.sb, .int .i64 x.mr]), qv 2, qv 3, qv 4, qv 4] ⟨qi_stable, qi_stable, qv_stable, qi_stable, qi_stable, qv_stable, qi_stable, qi_stable, qv_stable, qv_stable, qv_stable, qv_stable, trivial⟩ [2, 5, 8, 9, 10] ⟨?_, ?_, ?_, ?_, ?_, ?_, ?_, ?_, ?_, ?_, ?_, ?_, trivial⟩ ?_
  · exact stq (fun E => ex_field rfl Try.underlying34 rfl (by kernel_rfl) (E.v oe1))
  · exact stq (fun E => ex_load1 rfl Try.underlying3 rfl (E.d 0) (Cs.lit1 (HB1.out.mod E.m.old (by intro h2; omega)) rfl))
  · exact stepq_chain rfl
  · exact stq (fun E => ex_field rfl Try.underlying34 rfl (by kernel_rfl) (E.v oe1))
  · exact stq (fun E => ex_load1 rfl Try.underlying3 rfl (E.d 3) (Cs.lit1 (HB1.out.mod E.m.old (by intro h2; omega)) rfl))
  · exact stepq_chain rfl
  · exact stq (fun E => ex_field rfl Try.underlying34 rfl (by kernel_rfl) (E.v oe1))
  · exact stq (fun E => ex_loadA rfl Try.underlying28 rfl (off := 2) (cs := [.int .i64 x.sb, .int .i64 x.mr]) (by kernel_rfl) (E.d 6) (Cs.litA (HB1.out.mod E.m.old (by intro h2; omega)) rfl))
  · exact stepq_chain rfl
  · exact stepq_chain rfl
  · exact stepq_chain rfl
  · refine stepq_env rfl rfl rfl fun _ _ _ _ _ _ _ _ _ hd _ _ => ?_
    have h10 := hd ⟨10, .data⟩ (by simp) rfl _ rfl
    exact qe_run rfl (wanted_none rfl) (ex_assign rfl rfl) QE.refl h10
  intro u1_0 hr
  have zu1_0 := hr.size
  have Cx1 := hid (hr.new (S := (fun _ => False)))
  clear hr
  refine QChain.go fun Z act E => ?_
  refine qc_callF (args := #[.int .i64 x.rp]) rfl (wanted_none rfl) rfl Try.func70 (args1 (E.d 1)) (RefInt_Q _ HOK.out.rp _) ?_
  rintro e u1_1a ⟨v_a1, rfl, qa1, hm⟩
  obtain ⟨ao_a1, cap_a1, rfl⟩ := qa1.shape
  have zu1_1a := hm.size
  refine ⟨_, rfl, hm.mono (fun _ _ h => h.elim), (fun _ => rfl), ?_⟩
  intro u1_1 hr
  have zu1_1 := hr.size
  have Hx2 := hid ((qa1.widen (R' := (fun k => (New u1_0 u1_1a k))) (fun _ h => h) (Nat.le_refl _)).mod hr (by intro k h1 h2; omega))
  have Cx3 := hid (Cx1.out.go hm hr)
  clear Cx1 hm hr Z act E qa1
  refine QChain.go fun Z act E => ?_
  refine qc_callF (args := #[.int .i64 x.ix]) rfl (wanted_none rfl) rfl Try.func70 (args1 (E.d 4)) (RefInt_Q _ HOK.out.ix _) ?_
  rintro e u1_2a ⟨v_a2, rfl, qa2, hm⟩
  obtain ⟨ao_a2, cap_a2, rfl⟩ := qa2.shape
  have zu1_2a := hm.size
  refine ⟨_, rfl, hm.mono (fun _ _ h => h.elim), (fun _ => rfl), ?_⟩
  intro u1_2 hr
  have zu1_2 := hr.size
  have Hx4 := hid ((qa2.widen (R' := (fun k => (New u1_1 u1_2a k))) (fun _ h => h) (Nat.le_refl _)).mod hr (by intro k h1 h2; omega))
  have hmr := Mod.after hm hr
  have Hx5 := hid (Hx2.out.mod hmr (by intro k h1 h2; omega))
  clear Hx2
  clear hmr
  have Cx6 := hid (Cx3.out.go hm hr)
  clear Cx3 hm hr Z act E qa2
  refine QChain.go fun Z act E => ?_
  refine qc_callF (args := #[.agg #[.int .i64 x.sb, .int .i64 x.mr]]) rfl (wanted_none rfl) rfl Try.func74 (args1 (E.d 7)) (RefSig_Q HOK.out.sb HOK.out.mr _) ?_
  rintro e u1_3a ⟨v_a3, rfl, qa3, hm⟩
  obtain ⟨ao_a3, cap_a3, rfl⟩ := qa3.shape
  have zu1_3a := hm.size
  refine ⟨_, rfl, hm.mono (fun _ _ h => h.elim), (fun _ => rfl), ?_⟩
  intro u1_3 hr
  have zu1_3 := hr.size
  have Hx7 := hid ((qa3.widen (R' := (fun k => (New u1_2 u1_3a k))) (fun _ h => h) (Nat.le_refl _)).mod hr (by intro k h1 h2; omega))
  have hmr := Mod.after hm hr
  have Hx8 := hid (Hx5.out.mod hmr (by intro k h1 h2; omega))
  have Hx9 := hid (Hx4.out.mod hmr (by intro k h1 h2; omega))
  clear Hx5 Hx4
  clear hmr
  have Cx10 := hid (Cx6.out.go hm hr)
  clear Cx6 hm hr Z act E qa3
  refine QChain.go fun Z act E => ?_
  have ea5 : act.eval (.tmp 5) = .slice ao_a1 ((encI x.rp).length) cap_a1 := (chv (v := .slice ao_a1 ((encI x.rp).length) cap_a1) (E.d 2))
  have ea8 : act.eval (.tmp 8) = .slice ao_a2 ((encI x.ix).length) cap_a2 := (chv (v := .slice ao_a2 ((encI x.ix).length) cap_a2) (E.d 5))
  have ea11 : act.eval (.tmp 11) = .slice ao_a3 ((sigB x.sb x.mr).length) cap_a3 := (chv (v := .slice ao_a3 ((sigB x.sb x.mr).length) cap_a3) (E.d 8))
  refine qc_rows rfl (wanted_none rfl) rfl Try.underlying144 (by decide) (C := #[.slice ao_a1 ((encI x.rp).length) cap_a1, .slice ao_a2 ((encI x.ix).length) cap_a2, .slice ao_a3 ((sigB x.sb x.mr).length) cap_a3]) (by simp only [List.map_toArray, List.map_cons, List.map_nil, ea5, ea8, ea11]; kernel_rfl) ?_
  intro u1_4a qrow9 hm
  have zl1_9 := qrow9.lt
  have zu1_4a := hm.size
  refine ⟨hm.mono (fun _ _ h => h.elim), (fun _ => rfl), ?_⟩
  intro u1_4 hr
  have zu1_4 := hr.size
  have Hx11 := hid (qrow9.mod hr (by intro h2; omega))
  have hmr := Mod.after hm hr
  have Hx12 := hid (Hx8.out.mod hmr (by intro k h1 h2; omega))
  have Hx13 := hid (Hx9.out.mod hmr (by intro k h1 h2; omega))
  have Hx14 := hid (Hx7.out.mod hmr (by intro k h1 h2; omega))
  clear Hx8 Hx9 Hx7
  clear hmr
  have Cx15 := hid (Cx10.out.go hm hr)
  clear Cx10 hm hr Z act E qrow9 ea5 ea8 ea11
  refine QChain.go fun Z act E => ?_
  refine qc_callF (args := #[.slice (some ⟨u1_3.heap.size, 0, none⟩) 3 3]) rfl (wanted_none rfl) rfl Try.func68 (args1 (chv (v := .slice (some ⟨u1_3.heap.size, 0, none⟩) 3 3) (E.d 9))) (Join_Q (n := 3)  Hx11.out [(.slice ao_a1 ((encI x.rp).length) cap_a1, encI x.rp), (.slice ao_a2 ((encI x.ix).length) cap_a2, encI x.ix), (.slice ao_a3 ((sigB x.sb x.mr).length) cap_a3, sigB x.sb x.mr)] rfl rfl (by intro p hp; simp only [List.mem_cons, List.not_mem_nil, or_false] at hp; rcases hp with rfl | rfl | rfl <;> first | exact Hx12.out.rd.1 | exact Hx13.out.rd.1 | exact Hx14.out.rd.1) (by simp) (show flat _ = encI x.rp ++ (encI x.ix ++ sigB x.sb x.mr) from by simp only [flat, List.map_cons, List.map_nil, List.flatten_cons, List.flatten_nil, List.append_nil]) (by have := HL.out; simp only [List.length_append] at this ⊢; omega)) ?_
  rintro e u1_5a ⟨v_join1, rfl, qjoin1, hm⟩
  have zu1_5a := hm.size
  refine ⟨_, rfl, hm.mono (fun _ _ h => h.elim), (fun _ => rfl), ?_⟩
  intro u1_5 hr
  have zu1_5 := hr.size
  have Hx16 := hid ((qjoin1.widen (R' := (fun k => (New u1_4 u1_5a k))) (fun _ h => h) (Nat.le_refl _)).mod hr (by intro k h1 h2; omega))
  have hmr := Mod.after hm hr
  have Hx17 := hid (Hx12.out.mod hmr (by intro k h1 h2; omega))
  have Hx18 := hid (Hx13.out.mod hmr (by intro k h1 h2; omega))
  have Hx19 := hid (Hx14.out.mod hmr (by intro k h1 h2; omega))
  have Hx20 := hid (Hx11.out.mod hmr (by intro h2; omega))
  clear Hx12 Hx13 Hx14 Hx11
  clear hmr
  have Cx21 := hid (Cx15.out.go hm hr)
  clear Cx15 hm hr Z act E qjoin1
  refine QChain.nil fun vs hl hzz hrows hne => ?_
  obtain ⟨Z, hYZ, hZb, hV⟩ := hzz
  have f2 := fvc hV hl 2
  have f5 := fvc hV hl 5
  have f8 := fvc hV hl 8
  have f9 := fvc hV hl 9
  have f10 := fvc hV hl 10
  have f11 := fvc hV hl 11
  rw [show vs = [gw vs 0, gw vs 1, gw vs 2, gw vs 3, gw vs 4, gw vs 5, gw vs 6, gw vs 7, gw vs 8, gw vs 9, gw vs 10, gw vs 11] from (gw_eta hl).trans rfl]
  have ha0 := HA0.out
  subst ha0
  clear HA0 hV hYZ hZb hsz0 hrows hne oe1
  simp only [putAll, Act.put, List.setIfInBounds_toArray, List.set_cons_zero, List.set_cons_succ, f2, f5, f8, f9, f10, f11]
  clear hl f2 f5 f8 f9 f10 f11
  go_wp2
  go_ret
  have hq := (Hx16.out.widen (R' := (fun k => New w u1_5 k)) (by intro k h1; omega) (Nat.le_refl _))
  (try simp only [List.append_assoc] at hq)
  exact ⟨v_join1, rfl, by simpa only [dnB, List.append_assoc] using hq, (HM0.out.trans Cx21.out (fun _ _ h => h.elim))⟩
set_option maxHeartbeats 4000000 in
theorem RefOp_Q : Makes OpR 76 opB := by
  intro R2 cs x w hx hB2 hl
  obtain ⟨v_pl, rfl, hok, hs0⟩ := hx
  have HS0 := Lib.hid hs0
  clear hs0
  have HBT := Lib.hid hB2
  have HOK := Lib.hid hok
  have HL := Lib.hid hl
  clear hB2 hl hok
  unfold opB at HL
  go_enter Try.func76, Try.ntmps76
  go_upto_region 1 with (fail)
  obtain ⟨w1, hw1⟩ : ∃ zz, zz = (w.alloc (.cells (x.cells v_pl : List Value).toArray 87)) := ⟨_, rfl⟩
  change Code.wp _ _ _ _ (w.alloc (.cells (x.cells v_pl : List Value).toArray 87))
  rw [← hw1]
  have HB1 := hid (show Cs w1 (w.heap.size) (x.cells v_pl : List Value).toArray 87 by rw [hw1]; exact Cs.new _ _ _)
  have hm : Mod (fun _ => False) w w1 := by rw [hw1]; exact (Mod.refl _ _).alloc _
  have HM0 := hid (show Mod (fun _ => False) w w1 from hm.mono (fun _ _ h => h.elim))
  have hs1 : w1.heap.size = w.heap.size + 1 := by rw [hw1]; simp
  have Hx1 := hid (HS0.out.mod hm (fun _ _ h => h))
  clear HS0
  clear hw1 hm
  go_upto_region 1 with (fail)
  generalize ha0 : Act.mk _ _ = a0
  have oe1 : a0.eval (.tmp 1) = .pointer (some ⟨w.heap.size, 0, none⟩) := by rw [← ha0]; rfl
  have hsz0 : a0.tmps.size = 13 := by rw [← ha0]; rfl
  have HA0 := hid ha0
  clear ha0
  refine wp_region_Q0 13 hsz0 [3, 4, 5, 6, 7, 8, 9, 10, 11, 12, 2] [qi (.pointer (some ⟨w.heap.size, 0, none⟩)), qi (.int .i64 x.ix), qv 0, qi (.pointer (some ⟨w.heap.size, 1, none⟩)), qi (v_pl), qv 1, qi (.pointer (some ⟨w.heap.size, 2, none⟩)), qi (.slice (some ⟨w.heap.size, 2, none⟩) 32 32), qv 2, qv 3, qv 3] ⟨qi_stable, qi_stable, qv_stable, qi_stable, qi_stable, qv_stable, qi_stable, qi_stable, qv_stable, qv_stable, qv_stable, trivial⟩ [2, 5, 8, 9] ⟨?_, ?_, ?_, ?_, ?_, ?_, ?_, ?_, ?_, ?_, ?_, trivial⟩ ?_
  · exact stq (fun E => ex_field rfl Try.underlying87 rfl (by kernel_rfl) (E.v oe1))
  · exact stq (fun E => ex_load1 rfl Try.underlying3 rfl (E.d 0) (Cs.hd1 (HB1.out.mod E.m.old (by intro h2; omega)) rfl))
  · exact stepq_chain rfl
  · exact stq (fun E => ex_field rfl Try.underlying87 rfl (by kernel_rfl) (E.v oe1))
  · exact stq (fun E => ex_load1 rfl Try.underlying38 rfl (E.d 3) (Cs.hd1 (HB1.out.mod E.m.old (by intro h2; omega)) rfl))
  · exact stepq_chain rfl
  · exact stq (fun E => ex_field rfl Try.underlying87 rfl (by kernel_rfl) (E.v oe1))
  · exact stq (fun E => ex_sliceArr rfl Try.underlying25 (by kernel_rfl) (E.d 6) (by decide))
  · exact stepq_chain rfl
  · exact stepq_chain rfl
  · refine stepq_env rfl rfl rfl fun _ _ _ _ _ _ _ _ _ hd _ _ => ?_
    have h9 := hd ⟨9, .data⟩ (by simp) rfl _ rfl
    exact qe_run rfl (wanted_none rfl) (ex_assign rfl rfl) QE.refl h9
  intro u1_0 hr
  have zu1_0 := hr.size
  have Cx2 := hid (hr.new (S := (fun _ => False)))
  clear hr
  refine QChain.go fun Z act E => ?_
  refine qc_callF (args := #[.int .i64 x.ix]) rfl (wanted_none rfl) rfl Try.func70 (args1 (E.d 1)) (RefInt_Q _ HOK.out.1 _) ?_
  rintro e u1_1a ⟨v_a1, rfl, qa1, hm⟩
  obtain ⟨ao_a1, cap_a1, rfl⟩ := qa1.shape
  have zu1_1a := hm.size
  refine ⟨_, rfl, hm.mono (fun _ _ h => h.elim), (fun _ => rfl), ?_⟩
  intro u1_1 hr
  have zu1_1 := hr.size
  have Hx3 := hid ((qa1.widen (R' := (fun k => (New u1_0 u1_1a k))) (fun _ h => h) (Nat.le_refl _)).mod hr (by intro k h1 h2; omega))
  have Cx4 := hid (Cx2.out.go hm hr)
  clear Cx2 hm hr Z act E qa1
  refine QChain.go fun Z act E => ?_
  refine qc_callF (args := #[v_pl]) rfl (wanted_none rfl) rfl Try.func102 (args1 (E.d 4)) (RefRow_Q (Hx1.out.mod Cx4.out (fun _ _ h => h)) (by have := HL.out; simp only [List.length_append] at this ⊢; omega)) ?_
  rintro e u1_2a ⟨v_a2, rfl, qa2, hm⟩
  obtain ⟨ao_a2, cap_a2, rfl⟩ := qa2.shape
  have zu1_2a := hm.size
  refine ⟨_, rfl, hm.mono (fun _ _ h => h.elim), (fun _ => rfl), ?_⟩
  intro u1_2 hr
  have zu1_2 := hr.size
  have Hx5 := hid ((qa2.widen (R' := (fun k => (New u1_1 u1_2a k))) (fun _ h => h) (Nat.le_refl _)).mod hr (by intro k h1 h2; omega))
  have hmr := Mod.after hm hr
  have Hx6 := hid (Hx3.out.mod hmr (by intro k h1 h2; omega))
  clear Hx3
  clear hmr
  have Cx7 := hid (Cx4.out.go hm hr)
  clear Cx4 hm hr Z act E qa2
  refine QChain.go fun Z act E => ?_
  have ea5 : act.eval (.tmp 5) = .slice ao_a1 ((encI x.ix).length) cap_a1 := (chv (v := .slice ao_a1 ((encI x.ix).length) cap_a1) (E.d 2))
  have ea8 : act.eval (.tmp 8) = .slice ao_a2 (((encN x.pl.length ++ x.pl)).length) cap_a2 := (chv (v := .slice ao_a2 (((encN x.pl.length ++ x.pl)).length) cap_a2) (E.d 5))
  have ea10 : act.eval (.tmp 10) = .slice (some ⟨w.heap.size, 2, none⟩) 32 32 := (E.d 7)
  refine qc_rows rfl (wanted_none rfl) rfl Try.underlying144 (by decide) (C := #[.slice ao_a1 ((encI x.ix).length) cap_a1, .slice ao_a2 (((encN x.pl.length ++ x.pl)).length) cap_a2, .slice (some ⟨w.heap.size, 2, none⟩) 32 32]) (by simp only [List.map_toArray, List.map_cons, List.map_nil, ea5, ea8, ea10]; kernel_rfl) ?_
  intro u1_3a qrow8 hm
  have zl1_8 := qrow8.lt
  have zu1_3a := hm.size
  refine ⟨hm.mono (fun _ _ h => h.elim), (fun _ => rfl), ?_⟩
  intro u1_3 hr
  have zu1_3 := hr.size
  have Hx8 := hid (qrow8.mod hr (by intro h2; omega))
  have hmr := Mod.after hm hr
  have Hx9 := hid (Hx6.out.mod hmr (by intro k h1 h2; omega))
  have Hx10 := hid (Hx5.out.mod hmr (by intro k h1 h2; omega))
  clear Hx6 Hx5
  clear hmr
  have Cx11 := hid (Cx7.out.go hm hr)
  clear Cx7 hm hr Z act E qrow8 ea5 ea8 ea10
  refine QChain.go fun Z act E => ?_
  refine qc_callF (args := #[.slice (some ⟨u1_2.heap.size, 0, none⟩) 3 3]) rfl (wanted_none rfl) rfl Try.func68 (args1 (chv (v := .slice (some ⟨u1_2.heap.size, 0, none⟩) 3 3) (E.d 8))) (Join_Q (n := 3)  Hx8.out [(.slice ao_a1 ((encI x.ix).length) cap_a1, encI x.ix), (.slice ao_a2 (((encN x.pl.length ++ x.pl)).length) cap_a2, (encN x.pl.length ++ x.pl)), (.slice (some ⟨w.heap.size, 2, none⟩) 32 32, x.nc)] rfl rfl (by intro p hp; simp only [List.mem_cons, List.not_mem_nil, or_false] at hp; rcases hp with rfl | rfl | rfl <;> first | exact Hx9.out.rd.1 | exact Hx10.out.rd.1 | exact RdB_arr3 (Cs.tlA (HB1.out.mod Cx11.out (fun h => h)) rfl) HOK.out.2) (by simp) (show flat _ = encI x.ix ++ (((encN x.pl.length ++ x.pl)) ++ x.nc) from by simp only [flat, List.map_cons, List.map_nil, List.flatten_cons, List.flatten_nil, List.append_nil]) (by have := HL.out; simp only [List.length_append] at this ⊢; omega)) ?_
  rintro e u1_4a ⟨v_join1, rfl, qjoin1, hm⟩
  have zu1_4a := hm.size
  refine ⟨_, rfl, hm.mono (fun _ _ h => h.elim), (fun _ => rfl), ?_⟩
  intro u1_4 hr
  have zu1_4 := hr.size
  have Hx12 := hid ((qjoin1.widen (R' := (fun k => (New u1_3 u1_4a k))) (fun _ h => h) (Nat.le_refl _)).mod hr (by intro k h1 h2; omega))
  have hmr := Mod.after hm hr
  have Hx13 := hid (Hx9.out.mod hmr (by intro k h1 h2; omega))
  have Hx14 := hid (Hx10.out.mod hmr (by intro k h1 h2; omega))
  have Hx15 := hid (Hx8.out.mod hmr (by intro h2; omega))
  clear Hx9 Hx10 Hx8
  clear hmr
  have Cx16 := hid (Cx11.out.go hm hr)
  clear Cx11 hm hr Z act E qjoin1
  refine QChain.nil fun vs hl hzz hrows hne => ?_
  obtain ⟨Z, hYZ, hZb, hV⟩ := hzz
  have f2 := fvc hV hl 2
  have f5 := fvc hV hl 5
  have f8 := fvc hV hl 8
  have f9 := fvc hV hl 9
  have f10 := fvc hV hl 10
  rw [show vs = [gw vs 0, gw vs 1, gw vs 2, gw vs 3, gw vs 4, gw vs 5, gw vs 6, gw vs 7, gw vs 8, gw vs 9, gw vs 10] from (gw_eta hl).trans rfl]
  have ha0 := HA0.out
  subst ha0
  clear HA0 hV hYZ hZb hsz0 hrows hne oe1
  simp only [putAll, Act.put, List.setIfInBounds_toArray, List.set_cons_zero, List.set_cons_succ, f2, f5, f8, f9, f10]
  clear hl f2 f5 f8 f9 f10
  go_wp2
  go_ret
  have hq := (Hx12.out.widen (R' := (fun k => New w u1_4 k)) (by intro k h1; omega) (Nat.le_refl _))
  (try simp only [List.append_assoc] at hq)
  exact ⟨v_join1, rfl, by simpa only [opB, List.append_assoc] using hq, (HM0.out.trans Cx16.out (fun _ _ h => h.elim))⟩
set_option maxHeartbeats 4000000 in
theorem RefSt_Q : Makes StR 71 stB := by
  intro R2 cs x w hx hB2 hl
  obtain ⟨rfl, hok⟩ := hx
  have HBT := Lib.hid hB2
  have HOK := Lib.hid hok
  have HL := Lib.hid hl
  clear hB2 hl hok
  unfold stB at HL
  go_enter Try.func71, Try.ntmps71
  go_upto_region 1 with (fail)
  obtain ⟨w1, hw1⟩ : ∃ zz, zz = (w.alloc (.cells (x.cells : List Value).toArray 30)) := ⟨_, rfl⟩
  change Code.wp _ _ _ _ (w.alloc (.cells (x.cells : List Value).toArray 30))
  rw [← hw1]
  have HB1 := hid (show Cs w1 (w.heap.size) (x.cells : List Value).toArray 30 by rw [hw1]; exact Cs.new _ _ _)
  have hm : Mod (fun _ => False) w w1 := by rw [hw1]; exact (Mod.refl _ _).alloc _
  have HM0 := hid (show Mod (fun _ => False) w w1 from hm.mono (fun _ _ h => h.elim))
  have hs1 : w1.heap.size = w.heap.size + 1 := by rw [hw1]; simp
  clear hw1 hm
  go_upto_region 1 with (fail)
  generalize ha0 : Act.mk _ _ = a0
  have oe1 : a0.eval (.tmp 1) = .pointer (some ⟨w.heap.size, 0, none⟩) := by rw [← ha0]; rfl
  have hsz0 : a0.tmps.size = 10 := by rw [← ha0]; rfl
  have HA0 := hid ha0
  clear ha0
  refine wp_region_Q0 10 hsz0 [3, 4, 5, 6, 7, 8, 9, 2] [qi (.agg (x.cells).toArray), qv 0, qi (.pointer (some ⟨w.heap.size, 36, none⟩)), qi (.agg #[.int .i64 x.sb, .int .i64 x.mr]), qv 1, qv 2, qv 3, qv 3] ⟨qi_stable, qv_stable, qi_stable, qi_stable, qv_stable, qv_stable, qv_stable, qv_stable, trivial⟩ [1, 4, 5, 6] ⟨?_, ?_, ?_, ?_, ?_, ?_, ?_, ?_, trivial⟩ ?_
  · exact stq (fun E => ex_loadA rfl Try.underlying30 rfl (off := 0) (cs := x.cells) (by rw [St.len HOK.out]; kernel_rfl) (E.v oe1) (Cs.whole (HB1.out.mod E.m.old (by intro h2; omega))))
  · exact stepq_chain rfl
  · exact stq (fun E => ex_field rfl Try.underlying30 rfl (by kernel_rfl) (E.v oe1))
  · exact stq (fun E => ex_loadA rfl Try.underlying28 rfl (off := 36) (cs := [.int .i64 x.sb, .int .i64 x.mr]) (by kernel_rfl) (E.d 2) (Cs.postA (m := 32) (k := 1) (HB1.out.mod E.m.old (by intro h2; omega)) (by rw [List.length_map]; exact HOK.out.h.1) rfl rfl))
  · exact stepq_chain rfl
  · exact stepq_chain rfl
  · exact stepq_chain rfl
  · refine stepq_env rfl rfl rfl fun _ _ _ _ _ _ _ _ _ hd _ _ => ?_
    have h6 := hd ⟨6, .data⟩ (by simp) rfl _ rfl
    exact qe_run rfl (wanted_none rfl) (ex_assign rfl rfl) QE.refl h6
  intro u1_0 hr
  have zu1_0 := hr.size
  have Cx1 := hid (hr.new (S := (fun _ => False)))
  clear hr
  refine QChain.go fun Z act E => ?_
  refine qc_callF (args := #[.agg (x.cells).toArray]) rfl (wanted_none rfl) rfl Try.func103 (args1 (E.d 0)) (RefBare_Q (fun _ => False) _ x _ ⟨rfl, HOK.out⟩ (fun _ h => h.elim) (by have := HL.out; unfold bareT; simp only [List.length_append] at this ⊢; omega)) ?_
  rintro e u1_1a ⟨v_a1, rfl, qa1, hm⟩
  obtain ⟨ao_a1, cap_a1, rfl⟩ := qa1.shape
  have zu1_1a := hm.size
  refine ⟨_, rfl, hm.mono (fun _ _ h => h.elim), (fun _ => rfl), ?_⟩
  intro u1_1 hr
  have zu1_1 := hr.size
  have Hx2 := hid ((qa1.widen (R' := (fun k => (New u1_0 u1_1a k))) (fun _ h => h) (Nat.le_refl _)).mod hr (by intro k h1 h2; omega))
  have Cx3 := hid (Cx1.out.go hm hr)
  clear Cx1 hm hr Z act E qa1
  refine QChain.go fun Z act E => ?_
  refine qc_callF (args := #[.agg #[.int .i64 x.sb, .int .i64 x.mr]]) rfl (wanted_none rfl) rfl Try.func74 (args1 (E.d 3)) (RefSig_Q HOK.out.sb HOK.out.mr _) ?_
  rintro e u1_2a ⟨v_a2, rfl, qa2, hm⟩
  obtain ⟨ao_a2, cap_a2, rfl⟩ := qa2.shape
  have zu1_2a := hm.size
  refine ⟨_, rfl, hm.mono (fun _ _ h => h.elim), (fun _ => rfl), ?_⟩
  intro u1_2 hr
  have zu1_2 := hr.size
  have Hx4 := hid ((qa2.widen (R' := (fun k => (New u1_1 u1_2a k))) (fun _ h => h) (Nat.le_refl _)).mod hr (by intro k h1 h2; omega))
  have hmr := Mod.after hm hr
  have Hx5 := hid (Hx2.out.mod hmr (by intro k h1 h2; omega))
  clear Hx2
  clear hmr
  have Cx6 := hid (Cx3.out.go hm hr)
  clear Cx3 hm hr Z act E qa2
  refine QChain.go fun Z act E => ?_
  have ea4 : act.eval (.tmp 4) = .slice ao_a1 ((bareT x).length) cap_a1 := (chv (v := .slice ao_a1 ((bareT x).length) cap_a1) (E.d 1))
  have ea7 : act.eval (.tmp 7) = .slice ao_a2 ((sigB x.sb x.mr).length) cap_a2 := (chv (v := .slice ao_a2 ((sigB x.sb x.mr).length) cap_a2) (E.d 4))
  refine qc_rows rfl (wanted_none rfl) rfl Try.underlying144 (by decide) (C := #[.slice ao_a1 ((bareT x).length) cap_a1, .slice ao_a2 ((sigB x.sb x.mr).length) cap_a2]) (by simp only [List.map_toArray, List.map_cons, List.map_nil, ea4, ea7]; kernel_rfl) ?_
  intro u1_3a qrow5 hm
  have zl1_5 := qrow5.lt
  have zu1_3a := hm.size
  refine ⟨hm.mono (fun _ _ h => h.elim), (fun _ => rfl), ?_⟩
  intro u1_3 hr
  have zu1_3 := hr.size
  have Hx7 := hid (qrow5.mod hr (by intro h2; omega))
  have hmr := Mod.after hm hr
  have Hx8 := hid (Hx5.out.mod hmr (by intro k h1 h2; omega))
  have Hx9 := hid (Hx4.out.mod hmr (by intro k h1 h2; omega))
  clear Hx5 Hx4
  clear hmr
  have Cx10 := hid (Cx6.out.go hm hr)
  clear Cx6 hm hr Z act E qrow5 ea4 ea7
  refine QChain.go fun Z act E => ?_
  refine qc_callF (args := #[.slice (some ⟨u1_2.heap.size, 0, none⟩) 2 2]) rfl (wanted_none rfl) rfl Try.func68 (args1 (chv (v := .slice (some ⟨u1_2.heap.size, 0, none⟩) 2 2) (E.d 5))) (Join_Q (n := 2)  Hx7.out [(.slice ao_a1 ((bareT x).length) cap_a1, bareT x), (.slice ao_a2 ((sigB x.sb x.mr).length) cap_a2, sigB x.sb x.mr)] rfl rfl (by intro p hp; simp only [List.mem_cons, List.not_mem_nil, or_false] at hp; rcases hp with rfl | rfl <;> first | exact Hx8.out.rd.1 | exact Hx9.out.rd.1) (by simp) (show flat _ = bareT x ++ sigB x.sb x.mr from by simp only [flat, List.map_cons, List.map_nil, List.flatten_cons, List.flatten_nil, List.append_nil]) (by have := HL.out; simp only [bareT, List.length_append] at this ⊢; omega)) ?_
  rintro e u1_4a ⟨v_join1, rfl, qjoin1, hm⟩
  have zu1_4a := hm.size
  refine ⟨_, rfl, hm.mono (fun _ _ h => h.elim), (fun _ => rfl), ?_⟩
  intro u1_4 hr
  have zu1_4 := hr.size
  have Hx11 := hid ((qjoin1.widen (R' := (fun k => (New u1_3 u1_4a k))) (fun _ h => h) (Nat.le_refl _)).mod hr (by intro k h1 h2; omega))
  have hmr := Mod.after hm hr
  have Hx12 := hid (Hx8.out.mod hmr (by intro k h1 h2; omega))
  have Hx13 := hid (Hx9.out.mod hmr (by intro k h1 h2; omega))
  have Hx14 := hid (Hx7.out.mod hmr (by intro h2; omega))
  clear Hx8 Hx9 Hx7
  clear hmr
  have Cx15 := hid (Cx10.out.go hm hr)
  clear Cx10 hm hr Z act E qjoin1
  refine QChain.nil fun vs hl hzz hrows hne => ?_
  obtain ⟨Z, hYZ, hZb, hV⟩ := hzz
  have f1 := fvc hV hl 1
  have f4 := fvc hV hl 4
  have f5 := fvc hV hl 5
  have f6 := fvc hV hl 6
  have f7 := fvc hV hl 7
  rw [show vs = [gw vs 0, gw vs 1, gw vs 2, gw vs 3, gw vs 4, gw vs 5, gw vs 6, gw vs 7] from (gw_eta hl).trans rfl]
  have ha0 := HA0.out
  subst ha0
  clear HA0 hV hYZ hZb hsz0 hrows hne oe1
  simp only [putAll, Act.put, List.setIfInBounds_toArray, List.set_cons_zero, List.set_cons_succ, f1, f4, f5, f6, f7]
  clear hl f1 f4 f5 f6 f7
  go_wp2
  go_ret
  have hq := (Hx11.out.widen (R' := (fun k => New w u1_4 k)) (by intro k h1; omega) (Nat.le_refl _))
  (try simp only [List.append_assoc] at hq)
  exact ⟨v_join1, rfl, by simpa only [stB, bareT, List.append_assoc] using hq, (HM0.out.trans Cx15.out (fun _ _ h => h.elim))⟩
end Go.Proofs.Ytknpapcfhnhheaa
