/- Texts that are built one behind the other: XWt1, XConf. No condition. -/
import Derived.Test.YtknpapcfhnhheaaA6
import Derived.Deep.RegionWith
/- Package wire: the texts that are signed, a batch's hash. -/
set_option maxRecDepth 100000
set_option linter.unusedVariables false
namespace Go.Proofs.Ytknpapcfhnhheaa
open Go Go.RowKit Go.Gv


/-- a word, as a row -/
def wordB (s : ByteArray) : List Int := encN (bytesOf s).length ++ bytesOf s
abbrev wStamp : ByteArray := { data := #[115, 116, 97, 109, 112] }
abbrev wAck : ByteArray := { data := #[97, 99, 107] }
abbrev wProm : ByteArray := { data := #[112, 114, 111, 109, 105, 115, 101] }
abbrev wDeny : ByteArray := { data := #[100, 101, 110, 121] }
abbrev wProp : ByteArray := { data := #[112, 114, 111, 112, 111, 115, 97, 108] }
abbrev wVote : ByteArray := { data := #[118, 111, 116, 101] }
def stampT (x : St) : List Int := wordB wStamp ++ (encI x.rp ++ (nameB x.cl x.sq ++ (x.h ++ encN x.tm)))
def ackT (x : St) : List Int := wordB wAck ++ (encI x.rp ++ (nameB x.cl x.sq ++ (x.h ++ encN x.tm)))
def promT (x : Pm) : List Int := wordB wProm ++ (encI x.rp ++ (encI x.ep ++ (encN x.fl ++ listB ceB x.l)))
def denyT (x : Dn) : List Int := wordB wDeny ++ (encI x.rp ++ encI x.ix)
def propT (x : Pr) : List Int := wordB wProp ++ (encI x.ep ++ (encI x.rn ++ (encI (x.vl + 1) ++ (encI x.rp ++ shaF (baB x.ba)))))
def voteT (x : Vt) : List Int := wordB wVote ++ (encI x.kd ++ (encI x.ep ++ (encI x.rd ++ (encI x.rp ++ x.h))))
/-- a function from a thing to bytes; to a hash -/
def Makes {α : Type} (A : Rep α) (F : FuncId) (f : α → List Int) : Prop := ∀ (R2 : Nat → Prop) (cs : List Value) (x : α) (w : World), A.rd R2 w cs x → (∀ k, R2 k → k < w.heap.size) → (f x).length ≤ 900000 →
  Calls Try.prog F #[.agg cs.toArray] w fun e w' => ∃ v', e = .returned v' ∧ OwR (New w w') 900000 w' v' (f x) ∧ Mod (fun _ => False) w w'
def Hashes {α : Type} (A : Rep α) (F : FuncId) (f : α → List Int) : Prop := ∀ (R2 : Nat → Prop) (cs : List Value) (x : α) (w : World), A.rd R2 w cs x → (∀ k, R2 k → k < w.heap.size) → (f x).length ≤ 900000 →
  Calls Try.prog F #[.agg cs.toArray] w fun e w' => e = .returned (hv (shaF (f x))) ∧ Mod (fun _ => False) w w'
set_option maxHeartbeats 2000000 in
theorem text_Q (s : ByteArray) (w : World) (hs : s.size ≤ 1000) : Calls Try.prog 63 #[.string s] w fun e w' => ∃ g, e = .returned (.pointer (some ⟨g, 0, none⟩)) ∧ WrR (New w w') 900000 w' g (wordB s) ∧ Mod (fun _ => False) w w' := by
  have HS := Lib.hid hs
  have HL := Lib.hid (show ([] ++ (encN (bytesOf s).length ++ bytesOf s)).length ≤ 900000 by have := (encN_len10 (n := (bytesOf s).length) (by unfold U64; rw [bytesOf_len]; omega)).2; simp only [List.nil_append, List.length_append]; rw [bytesOf_len] at *; omega)
  clear hs
  go_enter Try.func63, Try.ntmps63
  go_upto_region 1 with (fail)
  have HM0 := Lib.hid (Mod.refl (fun _ => False) w)
  go_upto_region 1 with (fail)
  generalize ha0 : Act.mk _ _ = a0
  have oe0 : a0.eval (.tmp 0) = .string s := by rw [← ha0]; rfl
  have hsz0 : a0.tmps.size = 7 := by rw [← ha0]; rfl
  have HA0 := Lib.hid ha0
  clear ha0
  refine wp_region_Q 7 hsz0 (by kernel_rfl) (by kernel_rfl) [3, 4, 5, 6, 2] (by kernel_rfl) (by decide) (fun _ => False) (fun _ _ => False) (fun _ _ h => h) [qv 0, qi (.string s), qr w.heap.size (fun _ => False) (fun R w v => RdR R 1000000 w v (bytesOf s)), qv 1, qv 1] ⟨qv_stable, qi_stable, (qr_stable rdR_cells), qv_stable, qv_stable, trivial⟩ [0, 3] (by kernel_rfl) (by decide) (by kernel_rfl) [] (by kernel_rfl) (by intro r hr; cases hr) (by intro r hr; cases hr) (by intro r hr; cases hr) ⟨?_, ?_, ?_, ?_, ?_, trivial⟩ ?_
  · exact stepq_chain rfl
  · refine stepq_env rfl rfl rfl fun Z tr act w' hZ hm hm0 hout hsz hd hub hpre => ?_
    refine qe_run rfl (wanted_none rfl) (ex_move rfl ((hout 0 (by decide)).trans oe0)) QE.refl ?_
    rfl
  · refine stepq_env rfl rfl rfl fun Z tr act w' hZ hm hm0 hout hsz hd hub hpre => ?_
    have h1 := hd ⟨1, .data⟩ (by simp) rfl _ rfl
    exact qe_strB rfl (wanted_none rfl) rfl h1 (by have := HS.out; omega) hm.size (fun j hj => (hZ j hj).2) (fun _ _ h => h)
  · exact stepq_chain rfl
  · refine stepq_env rfl rfl rfl fun Z tr act w' hZ hm hm0 hout hsz hd hub hpre => ?_
    have h3 := hd ⟨3, .data⟩ (by simp) rfl _ rfl
    exact qe_run rfl (wanted_none rfl) (ex_assign rfl rfl) QE.refl h3
  intro u1_0 hr
  have zu1_0 := hr.size
  have Hx1 := Lib.hid (HM0.out.trans hr (by intro k h1 h2; (try dsimp only at h2 ⊢); (try simp only [false_or] at h2 ⊢); omega))
  clear HM0
  clear hr
  refine QChain.cons rfl fun Z act hYZ hZ hout hsz hd hpre => ?_
  refine qc_call (args := #[]) rfl (wanted_none rfl) (by rw [ex_callF rfl Try.func44 (by kernel_rfl) (by kernel_rfl)]; simp) (NewWriter_Q _) ?_
  rintro e u1_1a ⟨g, rfl, qwr, hm⟩
  have zu1_1a := hm.size
  refine ⟨_, rfl, hm.mono (fun _ _ h => h.elim), (fun _ => rfl), ?_⟩
  intro u1_1 hr
  have zu1_1 := hr.size
  have Hx2 := Lib.hid ((qwr.widen (R' := (fun k => (u1_0.heap.size ≤ k ∧ k < u1_1a.heap.size))) (by intro k h1; (try unfold New at h1); (try dsimp only at h1 ⊢); (try simp only [false_or] at h1 ⊢); omega) (Nat.le_refl _)).mod hr (by intro k h1 h2; (try dsimp only at h1 h2); (try simp only [false_or] at h1 h2); omega))
  have hmr := Mod.after hm hr
  have Hx3 := Lib.hid (Hx1.out.trans hmr (by intro k h1 h2; (try dsimp only at h2 ⊢); (try simp only [false_or] at h2 ⊢); omega))
  clear Hx1
  clear hmr
  clear hm hr hYZ hZ hout hsz hd hpre qwr
  refine QChain.cons rfl fun Z act hYZ hZ hout hsz hd hpre => ?_
  have h0 := hd ⟨0, .data⟩ (by simp) rfl _ rfl
  have h2 := hd ⟨2, .data⟩ (by simp) rfl _ rfl
  have h2q : qr w.heap.size (fun _ => False) (fun R w v => RdR R 1000000 w v (bytesOf s)) Z ([] ++ [.pointer (some ⟨g, 0, none⟩)]) (act.eval (.tmp 5)) _ := h2
  obtain ⟨R2, hR2, hrd2⟩ := h2q
  have ea3 : act.eval (.tmp 3) = .pointer (some ⟨g, 0, none⟩) := (Option.some.inj (show some (.pointer (some ⟨g, 0, none⟩) : Value) = some (act.eval (.tmp 3)) from h0)).symm
  refine qc_call (args := #[.pointer (some ⟨g, 0, none⟩), act.eval (.tmp 5)]) rfl (wanted_none rfl) (by rw [ex_callF rfl Try.func107 (by kernel_rfl) (by kernel_rfl)]; exact congrArg (fun z => Result.ok (Next.enter _ z) _) (by simp only [List.map_toArray, List.map_cons, List.map_nil, ea3]; try rfl)) (WRow_Q Hx2.out hrd2 (by intro k h1 h2; have hr2 := hR2 k h1; (try dsimp only at h2); exact hr2.2.2 ⟨by omega, hYZ k (by (try dsimp only); omega)⟩) HL.out) ?_
  rintro e u1_2a ⟨rfl, qwr, hm⟩
  have zu1_2a := hm.size
  refine ⟨_, rfl, hm.mono (by intro k hk h; (try dsimp only at h ⊢); (try simp only [false_or, or_false, true_and] at h ⊢); omega), (fun _ => rfl), ?_⟩
  intro u1_2 hr
  have zu1_2 := hr.size
  have Hx4 := Lib.hid ((qwr.widen (R' := (fun k => (u1_0.heap.size ≤ k ∧ k < u1_1a.heap.size) ∨ (u1_1.heap.size ≤ k ∧ k < u1_2a.heap.size))) (by intro k h1; (try unfold New at h1); (try dsimp only at h1 ⊢); (try simp only [false_or] at h1 ⊢); omega) (Nat.le_refl _)).mod hr (by intro k h1 h2; (try dsimp only at h1 h2); (try simp only [false_or] at h1 h2); omega))
  have hmr := hm.two hr
  have Hx5 := Lib.hid (Hx3.out.trans hmr (by intro k h1 h2; (try dsimp only at h2 ⊢); (try simp only [false_or] at h2 ⊢); omega))
  clear Hx3
  clear hmr
  clear hm hr hYZ hZ hout hsz hd hpre qwr Hx2 ea3 h0 h2
  refine QChain.nil fun vs hl hzz hrows hne => ?_
  obtain ⟨Z, hYZ, hZb, hV⟩ := hzz
  obtain ⟨v0, vs0, rfl, hl0⟩ := list_cons hl
  obtain ⟨v1, vs1, rfl, hl1⟩ := list_cons hl0
  obtain ⟨v2, vs2, rfl, hl2⟩ := list_cons hl1
  obtain ⟨v3, vs3, rfl, hl3⟩ := list_cons hl2
  obtain ⟨v4, vs4, rfl, hl4⟩ := list_cons hl3
  obtain rfl := list_nil hl4
  clear hl hl0 hl1 hl2 hl3 hl4
  have e0 := Option.some.inj (show some (.pointer (some ⟨g, 0, none⟩)) = some v0 from hV 0 _ rfl)
  subst e0
  obtain rfl : v1 = .string s := hV 1 _ rfl
  have e3 := Option.some.inj (show some (.pointer (some ⟨g, 0, none⟩)) = some v3 from hV 3 _ rfl)
  subst e3
  have e4 := Option.some.inj (show some (.pointer (some ⟨g, 0, none⟩)) = some v4 from hV 4 _ rfl)
  subst e4
  have ha0 := HA0.out
  subst ha0
  clear HA0 hV hYZ hZb hsz0 hrows hne oe0
  simp only [putAll, Act.put, List.setIfInBounds_toArray, List.set_cons_zero, List.set_cons_succ]
  go_wp2
  go_ret
  have hq := (Hx4.out.widen (R' := (fun k => New w u1_2 k)) (by intro k h1; (try dsimp only at h1 ⊢); (try simp only [false_or] at h1 ⊢); unfold New; omega) (Nat.le_refl _))
  rw [List.nil_append] at hq
  exact ⟨_, rfl, hq, Hx5.out⟩
set_option maxHeartbeats 4000000 in
theorem StampText_Q : Makes StR 14 stampT := by
  intro R2 cs x w hx hB2 hl
  obtain ⟨rfl, hok⟩ := hx
  have HBT := Lib.hid hB2
  have HOK := Lib.hid hok
  have HL := Lib.hid hl
  clear hB2 hl hok
  unfold stampT wStamp at HL
  go_enter Try.func14, Try.ntmps14
  go_upto_region 1 with (fail)
  obtain ⟨w1, hw1⟩ : ∃ zz, zz = (w.alloc (.cells (x.cells : List Value).toArray 30)) := ⟨_, rfl⟩
  change Code.wp _ _ _ _ (w.alloc (.cells (x.cells : List Value).toArray 30))
  rw [← hw1]
  have HB1 := Lib.hid (show Cs w1 (w.heap.size) (x.cells : List Value).toArray 30 by rw [hw1]; exact Cs.new _ _ _)
  have hm : Mod (fun _ => False) w w1 := by rw [hw1]; exact (Mod.refl _ _).alloc _
  have HM0 := Lib.hid (show Mod (fun _ => False) w w1 from hm.mono (fun _ _ h => h.elim))
  have hs1 : w1.heap.size = w.heap.size + 1 := by rw [hw1]; simp
  clear hw1 hm
  go_upto_region 1 with (fail)
  generalize ha0 : Act.mk _ _ = a0
  have oe1 : a0.eval (.tmp 1) = .pointer (some ⟨w.heap.size, 0, none⟩) := by rw [← ha0]; rfl
  have hsz0 : a0.tmps.size = 20 := by rw [← ha0]; rfl
  have HA0 := Lib.hid ha0
  clear ha0
  refine wp_region_Q 20 hsz0 (by kernel_rfl) (by kernel_rfl) [4, 5, 6, 7, 3] (by kernel_rfl) (by decide) (fun _ => False) (fun _ _ => False) (fun _ _ h => h) [qv 0, qi (.pointer (some ⟨w.heap.size, 0, none⟩)), qi (.int .i64 x.rp), qv 1, qv 1] ⟨qv_stable, qi_stable, qi_stable, qv_stable, qv_stable, trivial⟩ [0, 3] (by kernel_rfl) (by decide) (by kernel_rfl) [] (by kernel_rfl) (by intro r hr; cases hr) (by intro r hr; cases hr) (by intro r hr; cases hr) ⟨?_, ?_, ?_, ?_, ?_, trivial⟩ ?_
  · exact stepq_chain rfl
  · refine stepq_env rfl rfl rfl fun Z tr act w' hZ hm hm0 hout hsz hd hub hpre => ?_
    refine qe_run rfl (wanted_none rfl) (ex_field rfl Try.underlying30 rfl (by kernel_rfl) ((hout 1 (by decide)).trans oe1)) QE.refl ?_
    rfl
  · refine stepq_env rfl rfl rfl fun Z tr act w' hZ hm hm0 hout hsz hd hub hpre => ?_
    have h1 := hd ⟨1, .data⟩ (by simp) rfl _ rfl
    refine qe_run rfl (wanted_none rfl) (ex_load1 rfl Try.underlying3 rfl h1 (Cs.pre1 (HB1.out.mod (Mod.mono (S' := fun k => w1.heap.size ≤ k) hm (fun _ _ h => h.elim (fun h => h.2.elim) (fun h => h))) (by intro h2; (try dsimp only at h2); (try simp only [false_or] at h2); omega)) rfl)) QE.refl ?_
    rfl
  · exact stepq_chain rfl
  · refine stepq_env rfl rfl rfl fun Z tr act w' hZ hm hm0 hout hsz hd hub hpre => ?_
    have h3 := hd ⟨3, .data⟩ (by simp) rfl _ rfl
    exact qe_run rfl (wanted_none rfl) (ex_assign rfl rfl) QE.refl h3
  intro u1_0 hr
  have zu1_0 := hr.size
  have Hx1 := Lib.hid (HB1.out.mod hr (by intro h2; (try dsimp only at h2); (try simp only [false_or] at h2); omega))
  have Hx2 := Lib.hid (HM0.out.trans hr (by intro k h1 h2; (try dsimp only at h2 ⊢); (try simp only [false_or] at h2 ⊢); omega))
  clear HB1 HM0
  clear hr
  refine QChain.cons rfl fun Z act hYZ hZ hout hsz hd hpre => ?_
  refine qc_call (args := #[.string { data := #[115, 116, 97, 109, 112] }]) rfl (wanted_none rfl) (by rw [ex_callF rfl Try.func63 (by kernel_rfl) (by kernel_rfl)]; exact congrArg (fun z => Result.ok (Next.enter _ z) _) (by simp only [List.map_toArray, List.map_cons, List.map_nil]; try rfl)) (text_Q { data := #[115, 116, 97, 109, 112] } _ (by decide)) ?_
  rintro e u1_1a ⟨g, rfl, qwr, hm⟩
  have zu1_1a := hm.size
  refine ⟨_, rfl, hm.mono (fun _ _ h => h.elim), (fun _ => rfl), ?_⟩
  intro u1_1 hr
  have zu1_1 := hr.size
  have Hx3 := Lib.hid ((qwr.widen (R' := (fun k => (u1_0.heap.size ≤ k ∧ k < u1_1a.heap.size))) (by intro k h1; (try unfold New at h1); (try dsimp only at h1 ⊢); (try simp only [false_or] at h1 ⊢); omega) (Nat.le_refl _)).mod hr (by intro k h1 h2; (try dsimp only at h1 h2); (try simp only [false_or] at h1 h2); omega))
  have hmr := Mod.after hm hr
  have Hx4 := Lib.hid (Hx1.out.mod hmr (by intro h2; (try dsimp only at h2); (try simp only [false_or] at h2); omega))
  have Hx5 := Lib.hid (Hx2.out.trans hmr (by intro k h1 h2; (try dsimp only at h2 ⊢); (try simp only [false_or] at h2 ⊢); omega))
  clear Hx1 Hx2
  clear hmr
  clear hm hr hYZ hZ hout hsz hd hpre qwr
  refine QChain.cons rfl fun Z act hYZ hZ hout hsz hd hpre => ?_
  have h0 := hd ⟨0, .data⟩ (by simp) rfl _ rfl
  have h2 := hd ⟨2, .data⟩ (by simp) rfl _ rfl
  have ea4 : act.eval (.tmp 4) = .pointer (some ⟨g, 0, none⟩) := (Option.some.inj (show some (.pointer (some ⟨g, 0, none⟩) : Value) = some (act.eval (.tmp 4)) from h0)).symm
  have ea6 : act.eval (.tmp 6) = .int .i64 x.rp := h2
  refine qc_call (args := #[.pointer (some ⟨g, 0, none⟩), .int .i64 x.rp]) rfl (wanted_none rfl) (by rw [ex_callF rfl Try.func64 (by kernel_rfl) (by kernel_rfl)]; exact congrArg (fun z => Result.ok (Next.enter _ z) _) (by simp only [List.map_toArray, List.map_cons, List.map_nil, ea4, ea6]; try rfl)) (WInt_Q Hx3.out HOK.out.rp (by have := HL.out; simp only [List.length_append] at this ⊢; omega)) ?_
  rintro e u1_2a ⟨rfl, qwr, hm⟩
  have zu1_2a := hm.size
  refine ⟨_, rfl, hm.mono (by intro k hk h; (try dsimp only at h ⊢); (try simp only [false_or, or_false, true_and] at h ⊢); omega), (fun _ => rfl), ?_⟩
  intro u1_2 hr
  have zu1_2 := hr.size
  have Hx6 := Lib.hid ((qwr.widen (R' := (fun k => (u1_0.heap.size ≤ k ∧ k < u1_1a.heap.size) ∨ (u1_1.heap.size ≤ k ∧ k < u1_2a.heap.size))) (by intro k h1; (try unfold New at h1); (try dsimp only at h1 ⊢); (try simp only [false_or] at h1 ⊢); omega) (Nat.le_refl _)).mod hr (by intro k h1 h2; (try dsimp only at h1 h2); (try simp only [false_or] at h1 h2); omega))
  have hmr := hm.two hr
  have Hx7 := Lib.hid (Hx4.out.mod hmr (by intro h2; (try dsimp only at h2); (try simp only [false_or] at h2); omega))
  have Hx8 := Lib.hid (Hx5.out.trans hmr (by intro k h1 h2; (try dsimp only at h2 ⊢); (try simp only [false_or] at h2 ⊢); omega))
  clear Hx4 Hx5
  clear hmr
  clear hm hr hYZ hZ hout hsz hd hpre qwr Hx3 ea4 ea6 h0 h2
  refine QChain.nil fun vs hl hzz hrows hne => ?_
  obtain ⟨Z, hYZ, hZb, hV⟩ := hzz
  obtain ⟨v0, vs0, rfl, hl0⟩ := list_cons hl
  obtain ⟨v1, vs1, rfl, hl1⟩ := list_cons hl0
  obtain ⟨v2, vs2, rfl, hl2⟩ := list_cons hl1
  obtain ⟨v3, vs3, rfl, hl3⟩ := list_cons hl2
  obtain ⟨v4, vs4, rfl, hl4⟩ := list_cons hl3
  obtain rfl := list_nil hl4
  clear hl hl0 hl1 hl2 hl3 hl4
  have e0 := Option.some.inj (show some (.pointer (some ⟨g, 0, none⟩)) = some v0 from hV 0 _ rfl)
  subst e0
  have e3 := Option.some.inj (show some (.pointer (some ⟨g, 0, none⟩)) = some v3 from hV 3 _ rfl)
  subst e3
  have e4 := Option.some.inj (show some (.pointer (some ⟨g, 0, none⟩)) = some v4 from hV 4 _ rfl)
  subst e4
  have ha0 := HA0.out
  subst ha0
  clear HA0 hV hYZ hZb hsz0 hrows hne oe1
  simp only [putAll, Act.put, List.setIfInBounds_toArray, List.set_cons_zero, List.set_cons_succ]
  go_upto_region 2 with (fail)
  generalize ha0 : Act.mk _ _ = a0
  have oe1 : a0.eval (.tmp 1) = .pointer (some ⟨w.heap.size, 0, none⟩) := by rw [← ha0]; rfl
  have oe3 : a0.eval (.tmp 3) = .pointer (some ⟨g, 0, none⟩) := by rw [← ha0]; rfl
  have hsz0 : a0.tmps.size = 20 := by rw [← ha0]; rfl
  have HA0 := Lib.hid ha0
  clear ha0
  refine wp_region_Q 20 hsz0 (by kernel_rfl) (by kernel_rfl) [8, 9, 10, 11] (by kernel_rfl) (by decide) (fun k => (u1_0.heap.size ≤ k ∧ k < u1_1a.heap.size) ∨ (u1_1.heap.size ≤ k ∧ k < u1_2a.heap.size)) (fun k j => (k = 0 ∧ ((u1_0.heap.size ≤ j ∧ j < u1_1a.heap.size) ∨ (u1_1.heap.size ≤ j ∧ j < u1_2a.heap.size)))) (by intro k j h; (try dsimp only at h ⊢); omega) [qi (.pointer (some ⟨g, 0, none⟩)), qi (.pointer (some ⟨w.heap.size, 1, none⟩)), qi (.agg #[.int .i64 x.cl, .int .i64 x.sq]), qi (.tuple #[])] ⟨qi_stable, qi_stable, qi_stable, qi_stable, trivial⟩ [3] (by kernel_rfl) (by decide) (by kernel_rfl) [] (by kernel_rfl) (by intro r hr; cases hr) (by intro r hr; cases hr) (by intro r hr; cases hr) ⟨?_, ?_, ?_, ?_, trivial⟩ ?_
  · refine stepq_env rfl rfl rfl fun Z tr act w' hZ hm hm0 hout hsz hd hub hpre => ?_
    refine qe_run rfl (wanted_none rfl) (ex_move rfl ((hout 3 (by decide)).trans oe3)) QE.refl ?_
    rfl
  · refine stepq_env rfl rfl rfl fun Z tr act w' hZ hm hm0 hout hsz hd hub hpre => ?_
    refine qe_run rfl (wanted_none rfl) (ex_field rfl Try.underlying30 rfl (by kernel_rfl) ((hout 1 (by decide)).trans oe1)) QE.refl ?_
    rfl
  · refine stepq_env rfl rfl rfl fun Z tr act w' hZ hm hm0 hout hsz hd hub hpre => ?_
    have h1 := hd ⟨1, .data⟩ (by simp) rfl _ rfl
    refine qe_run rfl (wanted_none rfl) (ex_loadA rfl Try.underlying23 rfl (off := 1) (cs := [.int .i64 x.cl, .int .i64 x.sq]) (by kernel_rfl) h1 (Cs.preA (Hx7.out.mod hm (by intro h2; (try dsimp only at h2); (try simp only [false_or] at h2); omega)) rfl)) QE.refl ?_
    rfl
  · exact stepq_chain rfl
  intro u2_0 hr
  have zu2_0 := hr.size
  have Hx9 := Lib.hid (Hx7.out.mod hr (by intro h2; (try dsimp only at h2); (try simp only [false_or] at h2); omega))
  have Hx10 := Lib.hid (Hx8.out.trans hr (by intro k h1 h2; (try dsimp only at h2 ⊢); (try simp only [false_or] at h2 ⊢); omega))
  have Hx11 := Lib.hid (Hx6.out.mod hr (by intro k h1 h2; (try dsimp only at h1 h2); (try simp only [false_or] at h1 h2); omega))
  clear Hx7 Hx8 Hx6
  clear hr
  refine QChain.cons rfl fun Z act hYZ hZ hout hsz hd hpre => ?_
  have h0 := hd ⟨0, .data⟩ (by simp) rfl _ rfl
  have h2 := hd ⟨2, .data⟩ (by simp) rfl _ rfl
  have ea8 : act.eval (.tmp 8) = .pointer (some ⟨g, 0, none⟩) := h0
  have ea10 : act.eval (.tmp 10) = .agg #[.int .i64 x.cl, .int .i64 x.sq] := h2
  refine qc_call (args := #[.pointer (some ⟨g, 0, none⟩), .agg #[.int .i64 x.cl, .int .i64 x.sq]]) rfl (wanted_none rfl) (by rw [ex_callF rfl Try.func65 (by kernel_rfl) (by kernel_rfl)]; exact congrArg (fun z => Result.ok (Next.enter _ z) _) (by simp only [List.map_toArray, List.map_cons, List.map_nil, ea8, ea10]; try rfl)) (PutName_Q Hx11.out (by intro k h1; (try dsimp only at h1); rcases h1 with h1 | h1 <;> (first | omega | (have hb := HBT.out k h1; omega))) HOK.out.cl HOK.out.sq (by have := HL.out; simp only [List.length_append] at this ⊢; omega)) ?_
  rintro e u2_1a ⟨rfl, qwr, hm⟩
  have zu2_1a := hm.size
  refine ⟨_, rfl, hm.mono (by intro k hk h; (try dsimp only at h ⊢); (try simp only [false_or, or_false, true_and] at h ⊢); omega), (fun _ => rfl), ?_⟩
  intro u2_1 hr
  have zu2_1 := hr.size
  have Hx12 := Lib.hid ((qwr.widen (R' := (fun k => (u1_0.heap.size ≤ k ∧ k < u1_1a.heap.size) ∨ (u1_1.heap.size ≤ k ∧ k < u1_2a.heap.size) ∨ (u2_0.heap.size ≤ k ∧ k < u2_1a.heap.size))) (by intro k h1; (try unfold New at h1); (try dsimp only at h1 ⊢); (try simp only [false_or] at h1 ⊢); omega) (Nat.le_refl _)).mod hr (by intro k h1 h2; (try dsimp only at h1 h2); (try simp only [false_or] at h1 h2); omega))
  have hmr := hm.two hr
  have Hx13 := Lib.hid (Hx9.out.mod hmr (by intro h2; (try dsimp only at h2); (try simp only [false_or] at h2); omega))
  have Hx14 := Lib.hid (Hx10.out.trans hmr (by intro k h1 h2; (try dsimp only at h2 ⊢); (try simp only [false_or] at h2 ⊢); omega))
  clear Hx9 Hx10
  clear hmr
  clear hm hr hYZ hZ hout hsz hd hpre qwr Hx11 ea8 ea10 h0 h2
  refine QChain.nil fun vs hl hzz hrows hne => ?_
  obtain ⟨Z, hYZ, hZb, hV⟩ := hzz
  obtain ⟨v0, vs0, rfl, hl0⟩ := list_cons hl
  obtain ⟨v1, vs1, rfl, hl1⟩ := list_cons hl0
  obtain ⟨v2, vs2, rfl, hl2⟩ := list_cons hl1
  obtain ⟨v3, vs3, rfl, hl3⟩ := list_cons hl2
  obtain rfl := list_nil hl3
  clear hl hl0 hl1 hl2 hl3
  obtain rfl : v0 = .pointer (some ⟨g, 0, none⟩) := hV 0 _ rfl
  obtain rfl : v3 = .tuple #[] := hV 3 _ rfl
  have ha0 := HA0.out
  subst ha0
  clear HA0 hV hYZ hZb hsz0 hrows hne oe1 oe3
  simp only [putAll, Act.put, List.setIfInBounds_toArray, List.set_cons_zero, List.set_cons_succ]
  go_upto_region 3 with (fail)
  generalize ha0 : Act.mk _ _ = a0
  have oe1 : a0.eval (.tmp 1) = .pointer (some ⟨w.heap.size, 0, none⟩) := by rw [← ha0]; rfl
  have oe3 : a0.eval (.tmp 3) = .pointer (some ⟨g, 0, none⟩) := by rw [← ha0]; rfl
  have hsz0 : a0.tmps.size = 20 := by rw [← ha0]; rfl
  have HA0 := Lib.hid ha0
  clear ha0
  refine wp_region_Q 20 hsz0 (by kernel_rfl) (by kernel_rfl) [12, 13, 14, 15, 16, 17, 18, 19, 2] (by kernel_rfl) (by decide) (fun k => (u1_0.heap.size ≤ k ∧ k < u1_1a.heap.size) ∨ (u1_1.heap.size ≤ k ∧ k < u1_2a.heap.size) ∨ (u2_0.heap.size ≤ k ∧ k < u2_1a.heap.size)) (fun k j => (k = 0 ∧ ((u1_0.heap.size ≤ j ∧ j < u1_1a.heap.size) ∨ (u1_1.heap.size ≤ j ∧ j < u1_2a.heap.size) ∨ (u2_0.heap.size ≤ j ∧ j < u2_1a.heap.size))) ∨ (k = 1 ∧ ((u1_0.heap.size ≤ j ∧ j < u1_1a.heap.size) ∨ (u1_1.heap.size ≤ j ∧ j < u1_2a.heap.size) ∨ (u2_0.heap.size ≤ j ∧ j < u2_1a.heap.size)))) (by intro k j h; (try dsimp only at h ⊢); omega) [qi (.pointer (some ⟨g, 0, none⟩)), qi (.pointer (some ⟨w.heap.size, 3, none⟩)), qi (hv x.h), qi (.pointer (some ⟨g, 0, none⟩)), qi (.pointer (some ⟨w.heap.size, 35, none⟩)), qi (.int .u64 (x.tm : Nat)), qi (.pointer (some ⟨g, 0, none⟩)), qv 2, qv 2] ⟨qi_stable, qi_stable, qi_stable, qi_stable, qi_stable, qi_stable, qi_stable, qv_stable, qv_stable, trivial⟩ [3, 6, 7] (by kernel_rfl) (by decide) (by kernel_rfl) [] (by kernel_rfl) (by intro r hr; cases hr) (by intro r hr; cases hr) (by intro r hr; cases hr) ⟨?_, ?_, ?_, ?_, ?_, ?_, ?_, ?_, ?_, trivial⟩ ?_
  · refine stepq_env rfl rfl rfl fun Z tr act w' hZ hm hm0 hout hsz hd hub hpre => ?_
    refine qe_run rfl (wanted_none rfl) (ex_move rfl ((hout 3 (by decide)).trans oe3)) QE.refl ?_
    rfl
  · refine stepq_env rfl rfl rfl fun Z tr act w' hZ hm hm0 hout hsz hd hub hpre => ?_
    refine qe_run rfl (wanted_none rfl) (ex_field rfl Try.underlying30 rfl (by kernel_rfl) ((hout 1 (by decide)).trans oe1)) QE.refl ?_
    rfl
  · refine stepq_env rfl rfl rfl fun Z tr act w' hZ hm hm0 hout hsz hd hub hpre => ?_
    have h1 := hd ⟨1, .data⟩ (by simp) rfl _ rfl
    refine qe_run rfl (wanted_none rfl) (ex_loadA rfl Try.underlying25 rfl (off := 3) (cs := x.h.map bv) (by rw [List.length_map, HOK.out.h.1]; exact size_hash) h1 (Cs.midA (Hx13.out.mod hm (by intro h2; (try dsimp only at h2); (try simp only [false_or] at h2); omega)) rfl)) QE.refl ?_
    rfl
  · exact stepq_chain rfl
  · refine stepq_env rfl rfl rfl fun Z tr act w' hZ hm hm0 hout hsz hd hub hpre => ?_
    refine qe_run rfl (wanted_none rfl) (ex_field rfl Try.underlying30 rfl (by kernel_rfl) ((hout 1 (by decide)).trans oe1)) QE.refl ?_
    rfl
  · refine stepq_env rfl rfl rfl fun Z tr act w' hZ hm hm0 hout hsz hd hub hpre => ?_
    have h4 := hd ⟨4, .data⟩ (by simp) rfl _ rfl
    refine qe_run rfl (wanted_none rfl) (ex_load1 rfl Try.underlying26 rfl h4 (Cs.post1 (m := 32) (k := 0) (Hx13.out.mod hm (by intro h2; (try dsimp only at h2); (try simp only [false_or] at h2); omega)) (by rw [List.length_map]; exact HOK.out.h.1) rfl rfl)) QE.refl ?_
    rfl
  · exact stepq_chain rfl
  · exact stepq_chain rfl
  · refine stepq_env rfl rfl rfl fun Z tr act w' hZ hm hm0 hout hsz hd hub hpre => ?_
    have h7 := hd ⟨7, .data⟩ (by simp) rfl _ rfl
    exact qe_run rfl (wanted_none rfl) (ex_assign rfl rfl) QE.refl h7
  intro u3_0 hr
  have zu3_0 := hr.size
  have Hx15 := Lib.hid (Hx13.out.mod hr (by intro h2; (try dsimp only at h2); (try simp only [false_or] at h2); omega))
  have Hx16 := Lib.hid (Hx14.out.trans hr (by intro k h1 h2; (try dsimp only at h2 ⊢); (try simp only [false_or] at h2 ⊢); omega))
  have Hx17 := Lib.hid (Hx12.out.mod hr (by intro k h1 h2; (try dsimp only at h1 h2); (try simp only [false_or] at h1 h2); omega))
  clear Hx13 Hx14 Hx12
  clear hr
  refine QChain.cons rfl fun Z act hYZ hZ hout hsz hd hpre => ?_
  have h0 := hd ⟨0, .data⟩ (by simp) rfl _ rfl
  have h2 := hd ⟨2, .data⟩ (by simp) rfl _ rfl
  have ea12 : act.eval (.tmp 12) = .pointer (some ⟨g, 0, none⟩) := h0
  have ea14 : act.eval (.tmp 14) = hv x.h := h2
  refine qc_call (args := #[.pointer (some ⟨g, 0, none⟩), hv x.h]) rfl (wanted_none rfl) (by rw [ex_callF rfl Try.func66 (by kernel_rfl) (by kernel_rfl)]; exact congrArg (fun z => Result.ok (Next.enter _ z) _) (by simp only [List.map_toArray, List.map_cons, List.map_nil, ea12, ea14]; try rfl)) (WHash_Q Hx17.out HOK.out.h (by have := HL.out; simp only [List.length_append] at this ⊢; omega)) ?_
  rintro e u3_1a ⟨rfl, qwr, hm⟩
  have zu3_1a := hm.size
  refine ⟨_, rfl, hm.mono (by intro k hk h; (try dsimp only at h ⊢); (try simp only [false_or, or_false, true_and] at h ⊢); omega), (fun _ => rfl), ?_⟩
  intro u3_1 hr
  have zu3_1 := hr.size
  have Hx18 := Lib.hid ((qwr.widen (R' := (fun k => (u1_0.heap.size ≤ k ∧ k < u1_1a.heap.size) ∨ (u1_1.heap.size ≤ k ∧ k < u1_2a.heap.size) ∨ (u2_0.heap.size ≤ k ∧ k < u2_1a.heap.size) ∨ (u3_0.heap.size ≤ k ∧ k < u3_1a.heap.size))) (by intro k h1; (try unfold New at h1); (try dsimp only at h1 ⊢); (try simp only [false_or] at h1 ⊢); omega) (Nat.le_refl _)).mod hr (by intro k h1 h2; (try dsimp only at h1 h2); (try simp only [false_or] at h1 h2); omega))
  have hmr := hm.two hr
  have Hx19 := Lib.hid (Hx15.out.mod hmr (by intro h2; (try dsimp only at h2); (try simp only [false_or] at h2); omega))
  have Hx20 := Lib.hid (Hx16.out.trans hmr (by intro k h1 h2; (try dsimp only at h2 ⊢); (try simp only [false_or] at h2 ⊢); omega))
  clear Hx15 Hx16
  clear hmr
  clear hm hr hYZ hZ hout hsz hd hpre qwr Hx17 ea12 ea14 h0 h2
  refine QChain.cons rfl fun Z act hYZ hZ hout hsz hd hpre => ?_
  have h3 := hd ⟨3, .data⟩ (by simp) rfl _ rfl
  have h5 := hd ⟨5, .data⟩ (by simp) rfl _ rfl
  have ea15 : act.eval (.tmp 15) = .pointer (some ⟨g, 0, none⟩) := h3
  have ea17 : act.eval (.tmp 17) = .int .u64 (x.tm : Nat) := h5
  refine qc_call (args := #[.pointer (some ⟨g, 0, none⟩), .int .u64 (x.tm : Nat)]) rfl (wanted_none rfl) (by rw [ex_callF rfl Try.func67 (by kernel_rfl) (by kernel_rfl)]; exact congrArg (fun z => Result.ok (Next.enter _ z) _) (by simp only [List.map_toArray, List.map_cons, List.map_nil, ea15, ea17]; try rfl)) (WNum_Q Hx18.out HOK.out.tm (by have := HL.out; simp only [List.length_append] at this ⊢; omega)) ?_
  rintro e u3_2a ⟨rfl, qwr, hm⟩
  have zu3_2a := hm.size
  refine ⟨_, rfl, hm.mono (by intro k hk h; (try dsimp only at h ⊢); (try simp only [false_or, or_false, true_and] at h ⊢); omega), (fun _ => rfl), ?_⟩
  intro u3_2 hr
  have zu3_2 := hr.size
  have Hx21 := Lib.hid ((qwr.widen (R' := (fun k => (u1_0.heap.size ≤ k ∧ k < u1_1a.heap.size) ∨ (u1_1.heap.size ≤ k ∧ k < u1_2a.heap.size) ∨ (u2_0.heap.size ≤ k ∧ k < u2_1a.heap.size) ∨ (u3_0.heap.size ≤ k ∧ k < u3_1a.heap.size) ∨ (u3_1.heap.size ≤ k ∧ k < u3_2a.heap.size))) (by intro k h1; (try unfold New at h1); (try dsimp only at h1 ⊢); (try simp only [false_or] at h1 ⊢); omega) (Nat.le_refl _)).mod hr (by intro k h1 h2; (try dsimp only at h1 h2); (try simp only [false_or] at h1 h2); omega))
  have hmr := hm.two hr
  have Hx22 := Lib.hid (Hx19.out.mod hmr (by intro h2; (try dsimp only at h2); (try simp only [false_or] at h2); omega))
  have Hx23 := Lib.hid (Hx20.out.trans hmr (by intro k h1 h2; (try dsimp only at h2 ⊢); (try simp only [false_or] at h2 ⊢); omega))
  clear Hx19 Hx20
  clear hmr
  clear hm hr hYZ hZ hout hsz hd hpre qwr Hx18 ea15 ea17 h3 h5
  refine QChain.cons rfl fun Z act hYZ hZ hout hsz hd hpre => ?_
  have h6 := hd ⟨6, .data⟩ (by simp) rfl _ rfl
  have ea18 : act.eval (.tmp 18) = .pointer (some ⟨g, 0, none⟩) := h6
  refine qc_call (args := #[.pointer (some ⟨g, 0, none⟩)]) rfl (wanted_none rfl) (by rw [ex_callF rfl Try.func50 (by kernel_rfl) (by kernel_rfl)]; exact congrArg (fun z => Result.ok (Next.enter _ z) _) (by simp only [List.map_toArray, List.map_cons, List.map_nil, ea18]; try rfl)) (WBytes_Q Hx21.out) ?_
  rintro e u3_3a ⟨vb, rfl, qout, hm⟩
  have zu3_3a := hm.size
  refine ⟨_, rfl, hm.mono (fun _ _ h => h.elim), (fun _ => rfl), ?_⟩
  intro u3_3 hr
  have zu3_3 := hr.size
  have Hx24 := Lib.hid ((qout.widen (R' := (fun k => (u3_2.heap.size ≤ k ∧ k < u3_3a.heap.size))) (by intro k h1; (try unfold New at h1); (try dsimp only at h1 ⊢); (try simp only [false_or] at h1 ⊢); omega) (Nat.le_refl _)).mod hr (by intro k h1 h2; (try dsimp only at h1 h2); (try simp only [false_or] at h1 h2); omega))
  have hmr := Mod.after hm hr
  have Hx25 := Lib.hid (Hx22.out.mod hmr (by intro h2; (try dsimp only at h2); (try simp only [false_or] at h2); omega))
  have Hx26 := Lib.hid (Hx23.out.trans hmr (by intro k h1 h2; (try dsimp only at h2 ⊢); (try simp only [false_or] at h2 ⊢); omega))
  have Hx27 := Lib.hid (Hx21.out.mod hmr (by intro k h1 h2; (try dsimp only at h1 h2); (try simp only [false_or] at h1 h2); omega))
  clear Hx22 Hx23 Hx21
  clear hmr
  clear hm hr hYZ hZ hout hsz hd hpre qout ea18 h6
  refine QChain.nil fun vs hl hzz hrows hne => ?_
  obtain ⟨Z, hYZ, hZb, hV⟩ := hzz
  obtain ⟨v0, vs0, rfl, hl0⟩ := list_cons hl
  obtain ⟨v1, vs1, rfl, hl1⟩ := list_cons hl0
  obtain ⟨v2, vs2, rfl, hl2⟩ := list_cons hl1
  obtain ⟨v3, vs3, rfl, hl3⟩ := list_cons hl2
  obtain ⟨v4, vs4, rfl, hl4⟩ := list_cons hl3
  obtain ⟨v5, vs5, rfl, hl5⟩ := list_cons hl4
  obtain ⟨v6, vs6, rfl, hl6⟩ := list_cons hl5
  obtain ⟨v7, vs7, rfl, hl7⟩ := list_cons hl6
  obtain ⟨v8, vs8, rfl, hl8⟩ := list_cons hl7
  obtain rfl := list_nil hl8
  clear hl hl0 hl1 hl2 hl3 hl4 hl5 hl6 hl7 hl8
  obtain rfl : v0 = .pointer (some ⟨g, 0, none⟩) := hV 0 _ rfl
  obtain rfl : v3 = .pointer (some ⟨g, 0, none⟩) := hV 3 _ rfl
  obtain rfl : v6 = .pointer (some ⟨g, 0, none⟩) := hV 6 _ rfl
  have e7 := Option.some.inj (show some (vb) = some v7 from hV 7 _ rfl)
  subst e7
  have e8 := Option.some.inj (show some (vb) = some v8 from hV 8 _ rfl)
  subst e8
  have ha0 := HA0.out
  subst ha0
  clear HA0 hV hYZ hZb hsz0 hrows hne oe1 oe3
  simp only [putAll, Act.put, List.setIfInBounds_toArray, List.set_cons_zero, List.set_cons_succ]
  go_wp2
  go_ret
  have hq := (Hx24.out.widen (R' := (fun k => New w u3_3 k)) (by intro k h1; (try dsimp only at h1 ⊢); (try simp only [false_or] at h1 ⊢); unfold New; omega) (Nat.le_refl _))
  simp only [List.append_assoc, List.nil_append] at hq
  exact ⟨vb, rfl, by simpa only [stampT, wStamp, List.append_assoc] using hq, Hx26.out⟩
set_option maxHeartbeats 4000000 in
theorem AckText_Q : Makes StR 17 ackT := by
  intro R2 cs x w hx hB2 hl
  obtain ⟨rfl, hok⟩ := hx
  have HBT := Lib.hid hB2
  have HOK := Lib.hid hok
  have HL := Lib.hid hl
  clear hB2 hl hok
  unfold ackT wAck at HL
  go_enter Try.func17, Try.ntmps17
  go_upto_region 1 with (fail)
  obtain ⟨w1, hw1⟩ : ∃ zz, zz = (w.alloc (.cells (x.cells : List Value).toArray 44)) := ⟨_, rfl⟩
  change Code.wp _ _ _ _ (w.alloc (.cells (x.cells : List Value).toArray 44))
  rw [← hw1]
  have HB1 := Lib.hid (show Cs w1 (w.heap.size) (x.cells : List Value).toArray 44 by rw [hw1]; exact Cs.new _ _ _)
  have hm : Mod (fun _ => False) w w1 := by rw [hw1]; exact (Mod.refl _ _).alloc _
  have HM0 := Lib.hid (show Mod (fun _ => False) w w1 from hm.mono (fun _ _ h => h.elim))
  have hs1 : w1.heap.size = w.heap.size + 1 := by rw [hw1]; simp
  clear hw1 hm
  go_upto_region 1 with (fail)
  generalize ha0 : Act.mk _ _ = a0
  have oe1 : a0.eval (.tmp 1) = .pointer (some ⟨w.heap.size, 0, none⟩) := by rw [← ha0]; rfl
  have hsz0 : a0.tmps.size = 20 := by rw [← ha0]; rfl
  have HA0 := Lib.hid ha0
  clear ha0
  refine wp_region_Q 20 hsz0 (by kernel_rfl) (by kernel_rfl) [4, 5, 6, 7, 3] (by kernel_rfl) (by decide) (fun _ => False) (fun _ _ => False) (fun _ _ h => h) [qv 0, qi (.pointer (some ⟨w.heap.size, 0, none⟩)), qi (.int .i64 x.rp), qv 1, qv 1] ⟨qv_stable, qi_stable, qi_stable, qv_stable, qv_stable, trivial⟩ [0, 3] (by kernel_rfl) (by decide) (by kernel_rfl) [] (by kernel_rfl) (by intro r hr; cases hr) (by intro r hr; cases hr) (by intro r hr; cases hr) ⟨?_, ?_, ?_, ?_, ?_, trivial⟩ ?_
  · exact stepq_chain rfl
  · refine stepq_env rfl rfl rfl fun Z tr act w' hZ hm hm0 hout hsz hd hub hpre => ?_
    refine qe_run rfl (wanted_none rfl) (ex_field rfl Try.underlying44 rfl (by kernel_rfl) ((hout 1 (by decide)).trans oe1)) QE.refl ?_
    rfl
  · refine stepq_env rfl rfl rfl fun Z tr act w' hZ hm hm0 hout hsz hd hub hpre => ?_
    have h1 := hd ⟨1, .data⟩ (by simp) rfl _ rfl
    refine qe_run rfl (wanted_none rfl) (ex_load1 rfl Try.underlying3 rfl h1 (Cs.pre1 (HB1.out.mod (Mod.mono (S' := fun k => w1.heap.size ≤ k) hm (fun _ _ h => h.elim (fun h => h.2.elim) (fun h => h))) (by intro h2; (try dsimp only at h2); (try simp only [false_or] at h2); omega)) rfl)) QE.refl ?_
    rfl
  · exact stepq_chain rfl
  · refine stepq_env rfl rfl rfl fun Z tr act w' hZ hm hm0 hout hsz hd hub hpre => ?_
    have h3 := hd ⟨3, .data⟩ (by simp) rfl _ rfl
    exact qe_run rfl (wanted_none rfl) (ex_assign rfl rfl) QE.refl h3
  intro u1_0 hr
  have zu1_0 := hr.size
  have Hx1 := Lib.hid (HB1.out.mod hr (by intro h2; (try dsimp only at h2); (try simp only [false_or] at h2); omega))
  have Hx2 := Lib.hid (HM0.out.trans hr (by intro k h1 h2; (try dsimp only at h2 ⊢); (try simp only [false_or] at h2 ⊢); omega))
  clear HB1 HM0
  clear hr
  refine QChain.cons rfl fun Z act hYZ hZ hout hsz hd hpre => ?_
  refine qc_call (args := #[.string { data := #[97, 99, 107] }]) rfl (wanted_none rfl) (by rw [ex_callF rfl Try.func63 (by kernel_rfl) (by kernel_rfl)]; exact congrArg (fun z => Result.ok (Next.enter _ z) _) (by simp only [List.map_toArray, List.map_cons, List.map_nil]; try rfl)) (text_Q { data := #[97, 99, 107] } _ (by decide)) ?_
  rintro e u1_1a ⟨g, rfl, qwr, hm⟩
  have zu1_1a := hm.size
  refine ⟨_, rfl, hm.mono (fun _ _ h => h.elim), (fun _ => rfl), ?_⟩
  intro u1_1 hr
  have zu1_1 := hr.size
  have Hx3 := Lib.hid ((qwr.widen (R' := (fun k => (u1_0.heap.size ≤ k ∧ k < u1_1a.heap.size))) (by intro k h1; (try unfold New at h1); (try dsimp only at h1 ⊢); (try simp only [false_or] at h1 ⊢); omega) (Nat.le_refl _)).mod hr (by intro k h1 h2; (try dsimp only at h1 h2); (try simp only [false_or] at h1 h2); omega))
  have hmr := Mod.after hm hr
  have Hx4 := Lib.hid (Hx1.out.mod hmr (by intro h2; (try dsimp only at h2); (try simp only [false_or] at h2); omega))
  have Hx5 := Lib.hid (Hx2.out.trans hmr (by intro k h1 h2; (try dsimp only at h2 ⊢); (try simp only [false_or] at h2 ⊢); omega))
  clear Hx1 Hx2
  clear hmr
  clear hm hr hYZ hZ hout hsz hd hpre qwr
  refine QChain.cons rfl fun Z act hYZ hZ hout hsz hd hpre => ?_
  have h0 := hd ⟨0, .data⟩ (by simp) rfl _ rfl
  have h2 := hd ⟨2, .data⟩ (by simp) rfl _ rfl
  have ea4 : act.eval (.tmp 4) = .pointer (some ⟨g, 0, none⟩) := (Option.some.inj (show some (.pointer (some ⟨g, 0, none⟩) : Value) = some (act.eval (.tmp 4)) from h0)).symm
  have ea6 : act.eval (.tmp 6) = .int .i64 x.rp := h2
  refine qc_call (args := #[.pointer (some ⟨g, 0, none⟩), .int .i64 x.rp]) rfl (wanted_none rfl) (by rw [ex_callF rfl Try.func64 (by kernel_rfl) (by kernel_rfl)]; exact congrArg (fun z => Result.ok (Next.enter _ z) _) (by simp only [List.map_toArray, List.map_cons, List.map_nil, ea4, ea6]; try rfl)) (WInt_Q Hx3.out HOK.out.rp (by have := HL.out; simp only [List.length_append] at this ⊢; omega)) ?_
  rintro e u1_2a ⟨rfl, qwr, hm⟩
  have zu1_2a := hm.size
  refine ⟨_, rfl, hm.mono (by intro k hk h; (try dsimp only at h ⊢); (try simp only [false_or, or_false, true_and] at h ⊢); omega), (fun _ => rfl), ?_⟩
  intro u1_2 hr
  have zu1_2 := hr.size
  have Hx6 := Lib.hid ((qwr.widen (R' := (fun k => (u1_0.heap.size ≤ k ∧ k < u1_1a.heap.size) ∨ (u1_1.heap.size ≤ k ∧ k < u1_2a.heap.size))) (by intro k h1; (try unfold New at h1); (try dsimp only at h1 ⊢); (try simp only [false_or] at h1 ⊢); omega) (Nat.le_refl _)).mod hr (by intro k h1 h2; (try dsimp only at h1 h2); (try simp only [false_or] at h1 h2); omega))
  have hmr := hm.two hr
  have Hx7 := Lib.hid (Hx4.out.mod hmr (by intro h2; (try dsimp only at h2); (try simp only [false_or] at h2); omega))
  have Hx8 := Lib.hid (Hx5.out.trans hmr (by intro k h1 h2; (try dsimp only at h2 ⊢); (try simp only [false_or] at h2 ⊢); omega))
  clear Hx4 Hx5
  clear hmr
  clear hm hr hYZ hZ hout hsz hd hpre qwr Hx3 ea4 ea6 h0 h2
  refine QChain.nil fun vs hl hzz hrows hne => ?_
  obtain ⟨Z, hYZ, hZb, hV⟩ := hzz
  obtain ⟨v0, vs0, rfl, hl0⟩ := list_cons hl
  obtain ⟨v1, vs1, rfl, hl1⟩ := list_cons hl0
  obtain ⟨v2, vs2, rfl, hl2⟩ := list_cons hl1
  obtain ⟨v3, vs3, rfl, hl3⟩ := list_cons hl2
  obtain ⟨v4, vs4, rfl, hl4⟩ := list_cons hl3
  obtain rfl := list_nil hl4
  clear hl hl0 hl1 hl2 hl3 hl4
  have e0 := Option.some.inj (show some (.pointer (some ⟨g, 0, none⟩)) = some v0 from hV 0 _ rfl)
  subst e0
  have e3 := Option.some.inj (show some (.pointer (some ⟨g, 0, none⟩)) = some v3 from hV 3 _ rfl)
  subst e3
  have e4 := Option.some.inj (show some (.pointer (some ⟨g, 0, none⟩)) = some v4 from hV 4 _ rfl)
  subst e4
  have ha0 := HA0.out
  subst ha0
  clear HA0 hV hYZ hZb hsz0 hrows hne oe1
  simp only [putAll, Act.put, List.setIfInBounds_toArray, List.set_cons_zero, List.set_cons_succ]
  go_upto_region 2 with (fail)
  generalize ha0 : Act.mk _ _ = a0
  have oe1 : a0.eval (.tmp 1) = .pointer (some ⟨w.heap.size, 0, none⟩) := by rw [← ha0]; rfl
  have oe3 : a0.eval (.tmp 3) = .pointer (some ⟨g, 0, none⟩) := by rw [← ha0]; rfl
  have hsz0 : a0.tmps.size = 20 := by rw [← ha0]; rfl
  have HA0 := Lib.hid ha0
  clear ha0
  refine wp_region_Q 20 hsz0 (by kernel_rfl) (by kernel_rfl) [8, 9, 10, 11] (by kernel_rfl) (by decide) (fun k => (u1_0.heap.size ≤ k ∧ k < u1_1a.heap.size) ∨ (u1_1.heap.size ≤ k ∧ k < u1_2a.heap.size)) (fun k j => (k = 0 ∧ ((u1_0.heap.size ≤ j ∧ j < u1_1a.heap.size) ∨ (u1_1.heap.size ≤ j ∧ j < u1_2a.heap.size)))) (by intro k j h; (try dsimp only at h ⊢); omega) [qi (.pointer (some ⟨g, 0, none⟩)), qi (.pointer (some ⟨w.heap.size, 1, none⟩)), qi (.agg #[.int .i64 x.cl, .int .i64 x.sq]), qi (.tuple #[])] ⟨qi_stable, qi_stable, qi_stable, qi_stable, trivial⟩ [3] (by kernel_rfl) (by decide) (by kernel_rfl) [] (by kernel_rfl) (by intro r hr; cases hr) (by intro r hr; cases hr) (by intro r hr; cases hr) ⟨?_, ?_, ?_, ?_, trivial⟩ ?_
  · refine stepq_env rfl rfl rfl fun Z tr act w' hZ hm hm0 hout hsz hd hub hpre => ?_
    refine qe_run rfl (wanted_none rfl) (ex_move rfl ((hout 3 (by decide)).trans oe3)) QE.refl ?_
    rfl
  · refine stepq_env rfl rfl rfl fun Z tr act w' hZ hm hm0 hout hsz hd hub hpre => ?_
    refine qe_run rfl (wanted_none rfl) (ex_field rfl Try.underlying44 rfl (by kernel_rfl) ((hout 1 (by decide)).trans oe1)) QE.refl ?_
    rfl
  · refine stepq_env rfl rfl rfl fun Z tr act w' hZ hm hm0 hout hsz hd hub hpre => ?_
    have h1 := hd ⟨1, .data⟩ (by simp) rfl _ rfl
    refine qe_run rfl (wanted_none rfl) (ex_loadA rfl Try.underlying23 rfl (off := 1) (cs := [.int .i64 x.cl, .int .i64 x.sq]) (by kernel_rfl) h1 (Cs.preA (Hx7.out.mod hm (by intro h2; (try dsimp only at h2); (try simp only [false_or] at h2); omega)) rfl)) QE.refl ?_
    rfl
  · exact stepq_chain rfl
  intro u2_0 hr
  have zu2_0 := hr.size
  have Hx9 := Lib.hid (Hx7.out.mod hr (by intro h2; (try dsimp only at h2); (try simp only [false_or] at h2); omega))
  have Hx10 := Lib.hid (Hx8.out.trans hr (by intro k h1 h2; (try dsimp only at h2 ⊢); (try simp only [false_or] at h2 ⊢); omega))
  have Hx11 := Lib.hid (Hx6.out.mod hr (by intro k h1 h2; (try dsimp only at h1 h2); (try simp only [false_or] at h1 h2); omega))
  clear Hx7 Hx8 Hx6
  clear hr
  refine QChain.cons rfl fun Z act hYZ hZ hout hsz hd hpre => ?_
  have h0 := hd ⟨0, .data⟩ (by simp) rfl _ rfl
  have h2 := hd ⟨2, .data⟩ (by simp) rfl _ rfl
  have ea8 : act.eval (.tmp 8) = .pointer (some ⟨g, 0, none⟩) := h0
  have ea10 : act.eval (.tmp 10) = .agg #[.int .i64 x.cl, .int .i64 x.sq] := h2
  refine qc_call (args := #[.pointer (some ⟨g, 0, none⟩), .agg #[.int .i64 x.cl, .int .i64 x.sq]]) rfl (wanted_none rfl) (by rw [ex_callF rfl Try.func65 (by kernel_rfl) (by kernel_rfl)]; exact congrArg (fun z => Result.ok (Next.enter _ z) _) (by simp only [List.map_toArray, List.map_cons, List.map_nil, ea8, ea10]; try rfl)) (PutName_Q Hx11.out (by intro k h1; (try dsimp only at h1); rcases h1 with h1 | h1 <;> (first | omega | (have hb := HBT.out k h1; omega))) HOK.out.cl HOK.out.sq (by have := HL.out; simp only [List.length_append] at this ⊢; omega)) ?_
  rintro e u2_1a ⟨rfl, qwr, hm⟩
  have zu2_1a := hm.size
  refine ⟨_, rfl, hm.mono (by intro k hk h; (try dsimp only at h ⊢); (try simp only [false_or, or_false, true_and] at h ⊢); omega), (fun _ => rfl), ?_⟩
  intro u2_1 hr
  have zu2_1 := hr.size
  have Hx12 := Lib.hid ((qwr.widen (R' := (fun k => (u1_0.heap.size ≤ k ∧ k < u1_1a.heap.size) ∨ (u1_1.heap.size ≤ k ∧ k < u1_2a.heap.size) ∨ (u2_0.heap.size ≤ k ∧ k < u2_1a.heap.size))) (by intro k h1; (try unfold New at h1); (try dsimp only at h1 ⊢); (try simp only [false_or] at h1 ⊢); omega) (Nat.le_refl _)).mod hr (by intro k h1 h2; (try dsimp only at h1 h2); (try simp only [false_or] at h1 h2); omega))
  have hmr := hm.two hr
  have Hx13 := Lib.hid (Hx9.out.mod hmr (by intro h2; (try dsimp only at h2); (try simp only [false_or] at h2); omega))
  have Hx14 := Lib.hid (Hx10.out.trans hmr (by intro k h1 h2; (try dsimp only at h2 ⊢); (try simp only [false_or] at h2 ⊢); omega))
  clear Hx9 Hx10
  clear hmr
  clear hm hr hYZ hZ hout hsz hd hpre qwr Hx11 ea8 ea10 h0 h2
  refine QChain.nil fun vs hl hzz hrows hne => ?_
  obtain ⟨Z, hYZ, hZb, hV⟩ := hzz
  obtain ⟨v0, vs0, rfl, hl0⟩ := list_cons hl
  obtain ⟨v1, vs1, rfl, hl1⟩ := list_cons hl0
  obtain ⟨v2, vs2, rfl, hl2⟩ := list_cons hl1
  obtain ⟨v3, vs3, rfl, hl3⟩ := list_cons hl2
  obtain rfl := list_nil hl3
  clear hl hl0 hl1 hl2 hl3
  obtain rfl : v0 = .pointer (some ⟨g, 0, none⟩) := hV 0 _ rfl
  obtain rfl : v3 = .tuple #[] := hV 3 _ rfl
  have ha0 := HA0.out
  subst ha0
  clear HA0 hV hYZ hZb hsz0 hrows hne oe1 oe3
  simp only [putAll, Act.put, List.setIfInBounds_toArray, List.set_cons_zero, List.set_cons_succ]
  go_upto_region 3 with (fail)
  generalize ha0 : Act.mk _ _ = a0
  have oe1 : a0.eval (.tmp 1) = .pointer (some ⟨w.heap.size, 0, none⟩) := by rw [← ha0]; rfl
  have oe3 : a0.eval (.tmp 3) = .pointer (some ⟨g, 0, none⟩) := by rw [← ha0]; rfl
  have hsz0 : a0.tmps.size = 20 := by rw [← ha0]; rfl
  have HA0 := Lib.hid ha0
  clear ha0
  refine wp_region_Q 20 hsz0 (by kernel_rfl) (by kernel_rfl) [12, 13, 14, 15, 16, 17, 18, 19, 2] (by kernel_rfl) (by decide) (fun k => (u1_0.heap.size ≤ k ∧ k < u1_1a.heap.size) ∨ (u1_1.heap.size ≤ k ∧ k < u1_2a.heap.size) ∨ (u2_0.heap.size ≤ k ∧ k < u2_1a.heap.size)) (fun k j => (k = 0 ∧ ((u1_0.heap.size ≤ j ∧ j < u1_1a.heap.size) ∨ (u1_1.heap.size ≤ j ∧ j < u1_2a.heap.size) ∨ (u2_0.heap.size ≤ j ∧ j < u2_1a.heap.size))) ∨ (k = 1 ∧ ((u1_0.heap.size ≤ j ∧ j < u1_1a.heap.size) ∨ (u1_1.heap.size ≤ j ∧ j < u1_2a.heap.size) ∨ (u2_0.heap.size ≤ j ∧ j < u2_1a.heap.size)))) (by intro k j h; (try dsimp only at h ⊢); omega) [qi (.pointer (some ⟨g, 0, none⟩)), qi (.pointer (some ⟨w.heap.size, 3, none⟩)), qi (hv x.h), qi (.pointer (some ⟨g, 0, none⟩)), qi (.pointer (some ⟨w.heap.size, 35, none⟩)), qi (.int .u64 (x.tm : Nat)), qi (.pointer (some ⟨g, 0, none⟩)), qv 2, qv 2] ⟨qi_stable, qi_stable, qi_stable, qi_stable, qi_stable, qi_stable, qi_stable, qv_stable, qv_stable, trivial⟩ [3, 6, 7] (by kernel_rfl) (by decide) (by kernel_rfl) [] (by kernel_rfl) (by intro r hr; cases hr) (by intro r hr; cases hr) (by intro r hr; cases hr) ⟨?_, ?_, ?_, ?_, ?_, ?_, ?_, ?_, ?_, trivial⟩ ?_
  · refine stepq_env rfl rfl rfl fun Z tr act w' hZ hm hm0 hout hsz hd hub hpre => ?_
    refine qe_run rfl (wanted_none rfl) (ex_move rfl ((hout 3 (by decide)).trans oe3)) QE.refl ?_
    rfl
  · refine stepq_env rfl rfl rfl fun Z tr act w' hZ hm hm0 hout hsz hd hub hpre => ?_
    refine qe_run rfl (wanted_none rfl) (ex_field rfl Try.underlying44 rfl (by kernel_rfl) ((hout 1 (by decide)).trans oe1)) QE.refl ?_
    rfl
  · refine stepq_env rfl rfl rfl fun Z tr act w' hZ hm hm0 hout hsz hd hub hpre => ?_
    have h1 := hd ⟨1, .data⟩ (by simp) rfl _ rfl
    refine qe_run rfl (wanted_none rfl) (ex_loadA rfl Try.underlying25 rfl (off := 3) (cs := x.h.map bv) (by rw [List.length_map, HOK.out.h.1]; exact size_hash) h1 (Cs.midA (Hx13.out.mod hm (by intro h2; (try dsimp only at h2); (try simp only [false_or] at h2); omega)) rfl)) QE.refl ?_
    rfl
  · exact stepq_chain rfl
  · refine stepq_env rfl rfl rfl fun Z tr act w' hZ hm hm0 hout hsz hd hub hpre => ?_
    refine qe_run rfl (wanted_none rfl) (ex_field rfl Try.underlying44 rfl (by kernel_rfl) ((hout 1 (by decide)).trans oe1)) QE.refl ?_
    rfl
  · refine stepq_env rfl rfl rfl fun Z tr act w' hZ hm hm0 hout hsz hd hub hpre => ?_
    have h4 := hd ⟨4, .data⟩ (by simp) rfl _ rfl
    refine qe_run rfl (wanted_none rfl) (ex_load1 rfl Try.underlying26 rfl h4 (Cs.post1 (m := 32) (k := 0) (Hx13.out.mod hm (by intro h2; (try dsimp only at h2); (try simp only [false_or] at h2); omega)) (by rw [List.length_map]; exact HOK.out.h.1) rfl rfl)) QE.refl ?_
    rfl
  · exact stepq_chain rfl
  · exact stepq_chain rfl
  · refine stepq_env rfl rfl rfl fun Z tr act w' hZ hm hm0 hout hsz hd hub hpre => ?_
    have h7 := hd ⟨7, .data⟩ (by simp) rfl _ rfl
    exact qe_run rfl (wanted_none rfl) (ex_assign rfl rfl) QE.refl h7
  intro u3_0 hr
  have zu3_0 := hr.size
  have Hx15 := Lib.hid (Hx13.out.mod hr (by intro h2; (try dsimp only at h2); (try simp only [false_or] at h2); omega))
  have Hx16 := Lib.hid (Hx14.out.trans hr (by intro k h1 h2; (try dsimp only at h2 ⊢); (try simp only [false_or] at h2 ⊢); omega))
  have Hx17 := Lib.hid (Hx12.out.mod hr (by intro k h1 h2; (try dsimp only at h1 h2); (try simp only [false_or] at h1 h2); omega))
  clear Hx13 Hx14 Hx12
  clear hr
  refine QChain.cons rfl fun Z act hYZ hZ hout hsz hd hpre => ?_
  have h0 := hd ⟨0, .data⟩ (by simp) rfl _ rfl
  have h2 := hd ⟨2, .data⟩ (by simp) rfl _ rfl
  have ea12 : act.eval (.tmp 12) = .pointer (some ⟨g, 0, none⟩) := h0
  have ea14 : act.eval (.tmp 14) = hv x.h := h2
  refine qc_call (args := #[.pointer (some ⟨g, 0, none⟩), hv x.h]) rfl (wanted_none rfl) (by rw [ex_callF rfl Try.func66 (by kernel_rfl) (by kernel_rfl)]; exact congrArg (fun z => Result.ok (Next.enter _ z) _) (by simp only [List.map_toArray, List.map_cons, List.map_nil, ea12, ea14]; try rfl)) (WHash_Q Hx17.out HOK.out.h (by have := HL.out; simp only [List.length_append] at this ⊢; omega)) ?_
  rintro e u3_1a ⟨rfl, qwr, hm⟩
  have zu3_1a := hm.size
  refine ⟨_, rfl, hm.mono (by intro k hk h; (try dsimp only at h ⊢); (try simp only [false_or, or_false, true_and] at h ⊢); omega), (fun _ => rfl), ?_⟩
  intro u3_1 hr
  have zu3_1 := hr.size
  have Hx18 := Lib.hid ((qwr.widen (R' := (fun k => (u1_0.heap.size ≤ k ∧ k < u1_1a.heap.size) ∨ (u1_1.heap.size ≤ k ∧ k < u1_2a.heap.size) ∨ (u2_0.heap.size ≤ k ∧ k < u2_1a.heap.size) ∨ (u3_0.heap.size ≤ k ∧ k < u3_1a.heap.size))) (by intro k h1; (try unfold New at h1); (try dsimp only at h1 ⊢); (try simp only [false_or] at h1 ⊢); omega) (Nat.le_refl _)).mod hr (by intro k h1 h2; (try dsimp only at h1 h2); (try simp only [false_or] at h1 h2); omega))
  have hmr := hm.two hr
  have Hx19 := Lib.hid (Hx15.out.mod hmr (by intro h2; (try dsimp only at h2); (try simp only [false_or] at h2); omega))
  have Hx20 := Lib.hid (Hx16.out.trans hmr (by intro k h1 h2; (try dsimp only at h2 ⊢); (try simp only [false_or] at h2 ⊢); omega))
  clear Hx15 Hx16
  clear hmr
  clear hm hr hYZ hZ hout hsz hd hpre qwr Hx17 ea12 ea14 h0 h2
  refine QChain.cons rfl fun Z act hYZ hZ hout hsz hd hpre => ?_
  have h3 := hd ⟨3, .data⟩ (by simp) rfl _ rfl
  have h5 := hd ⟨5, .data⟩ (by simp) rfl _ rfl
  have ea15 : act.eval (.tmp 15) = .pointer (some ⟨g, 0, none⟩) := h3
  have ea17 : act.eval (.tmp 17) = .int .u64 (x.tm : Nat) := h5
  refine qc_call (args := #[.pointer (some ⟨g, 0, none⟩), .int .u64 (x.tm : Nat)]) rfl (wanted_none rfl) (by rw [ex_callF rfl Try.func67 (by kernel_rfl) (by kernel_rfl)]; exact congrArg (fun z => Result.ok (Next.enter _ z) _) (by simp only [List.map_toArray, List.map_cons, List.map_nil, ea15, ea17]; try rfl)) (WNum_Q Hx18.out HOK.out.tm (by have := HL.out; simp only [List.length_append] at this ⊢; omega)) ?_
  rintro e u3_2a ⟨rfl, qwr, hm⟩
  have zu3_2a := hm.size
  refine ⟨_, rfl, hm.mono (by intro k hk h; (try dsimp only at h ⊢); (try simp only [false_or, or_false, true_and] at h ⊢); omega), (fun _ => rfl), ?_⟩
  intro u3_2 hr
  have zu3_2 := hr.size
  have Hx21 := Lib.hid ((qwr.widen (R' := (fun k => (u1_0.heap.size ≤ k ∧ k < u1_1a.heap.size) ∨ (u1_1.heap.size ≤ k ∧ k < u1_2a.heap.size) ∨ (u2_0.heap.size ≤ k ∧ k < u2_1a.heap.size) ∨ (u3_0.heap.size ≤ k ∧ k < u3_1a.heap.size) ∨ (u3_1.heap.size ≤ k ∧ k < u3_2a.heap.size))) (by intro k h1; (try unfold New at h1); (try dsimp only at h1 ⊢); (try simp only [false_or] at h1 ⊢); omega) (Nat.le_refl _)).mod hr (by intro k h1 h2; (try dsimp only at h1 h2); (try simp only [false_or] at h1 h2); omega))
  have hmr := hm.two hr
  have Hx22 := Lib.hid (Hx19.out.mod hmr (by intro h2; (try dsimp only at h2); (try simp only [false_or] at h2); omega))
  have Hx23 := Lib.hid (Hx20.out.trans hmr (by intro k h1 h2; (try dsimp only at h2 ⊢); (try simp only [false_or] at h2 ⊢); omega))
  clear Hx19 Hx20
  clear hmr
  clear hm hr hYZ hZ hout hsz hd hpre qwr Hx18 ea15 ea17 h3 h5
  refine QChain.cons rfl fun Z act hYZ hZ hout hsz hd hpre => ?_
  have h6 := hd ⟨6, .data⟩ (by simp) rfl _ rfl
  have ea18 : act.eval (.tmp 18) = .pointer (some ⟨g, 0, none⟩) := h6
  refine qc_call (args := #[.pointer (some ⟨g, 0, none⟩)]) rfl (wanted_none rfl) (by rw [ex_callF rfl Try.func50 (by kernel_rfl) (by kernel_rfl)]; exact congrArg (fun z => Result.ok (Next.enter _ z) _) (by simp only [List.map_toArray, List.map_cons, List.map_nil, ea18]; try rfl)) (WBytes_Q Hx21.out) ?_
  rintro e u3_3a ⟨vb, rfl, qout, hm⟩
  have zu3_3a := hm.size
  refine ⟨_, rfl, hm.mono (fun _ _ h => h.elim), (fun _ => rfl), ?_⟩
  intro u3_3 hr
  have zu3_3 := hr.size
  have Hx24 := Lib.hid ((qout.widen (R' := (fun k => (u3_2.heap.size ≤ k ∧ k < u3_3a.heap.size))) (by intro k h1; (try unfold New at h1); (try dsimp only at h1 ⊢); (try simp only [false_or] at h1 ⊢); omega) (Nat.le_refl _)).mod hr (by intro k h1 h2; (try dsimp only at h1 h2); (try simp only [false_or] at h1 h2); omega))
  have hmr := Mod.after hm hr
  have Hx25 := Lib.hid (Hx22.out.mod hmr (by intro h2; (try dsimp only at h2); (try simp only [false_or] at h2); omega))
  have Hx26 := Lib.hid (Hx23.out.trans hmr (by intro k h1 h2; (try dsimp only at h2 ⊢); (try simp only [false_or] at h2 ⊢); omega))
  have Hx27 := Lib.hid (Hx21.out.mod hmr (by intro k h1 h2; (try dsimp only at h1 h2); (try simp only [false_or] at h1 h2); omega))
  clear Hx22 Hx23 Hx21
  clear hmr
  clear hm hr hYZ hZ hout hsz hd hpre qout ea18 h6
  refine QChain.nil fun vs hl hzz hrows hne => ?_
  obtain ⟨Z, hYZ, hZb, hV⟩ := hzz
  obtain ⟨v0, vs0, rfl, hl0⟩ := list_cons hl
  obtain ⟨v1, vs1, rfl, hl1⟩ := list_cons hl0
  obtain ⟨v2, vs2, rfl, hl2⟩ := list_cons hl1
  obtain ⟨v3, vs3, rfl, hl3⟩ := list_cons hl2
  obtain ⟨v4, vs4, rfl, hl4⟩ := list_cons hl3
  obtain ⟨v5, vs5, rfl, hl5⟩ := list_cons hl4
  obtain ⟨v6, vs6, rfl, hl6⟩ := list_cons hl5
  obtain ⟨v7, vs7, rfl, hl7⟩ := list_cons hl6
  obtain ⟨v8, vs8, rfl, hl8⟩ := list_cons hl7
  obtain rfl := list_nil hl8
  clear hl hl0 hl1 hl2 hl3 hl4 hl5 hl6 hl7 hl8
  obtain rfl : v0 = .pointer (some ⟨g, 0, none⟩) := hV 0 _ rfl
  obtain rfl : v3 = .pointer (some ⟨g, 0, none⟩) := hV 3 _ rfl
  obtain rfl : v6 = .pointer (some ⟨g, 0, none⟩) := hV 6 _ rfl
  have e7 := Option.some.inj (show some (vb) = some v7 from hV 7 _ rfl)
  subst e7
  have e8 := Option.some.inj (show some (vb) = some v8 from hV 8 _ rfl)
  subst e8
  have ha0 := HA0.out
  subst ha0
  clear HA0 hV hYZ hZb hsz0 hrows hne oe1 oe3
  simp only [putAll, Act.put, List.setIfInBounds_toArray, List.set_cons_zero, List.set_cons_succ]
  go_wp2
  go_ret
  have hq := (Hx24.out.widen (R' := (fun k => New w u3_3 k)) (by intro k h1; (try dsimp only at h1 ⊢); (try simp only [false_or] at h1 ⊢); unfold New; omega) (Nat.le_refl _))
  simp only [List.append_assoc, List.nil_append] at hq
  exact ⟨vb, rfl, by simpa only [ackT, wAck, List.append_assoc] using hq, Hx26.out⟩
set_option maxHeartbeats 4000000 in
theorem DenyText_Q : Makes DnR 16 denyT := by
  intro R2 cs x w hx hB2 hl
  obtain ⟨rfl, hok⟩ := hx
  have HBT := Lib.hid hB2
  have HOK := Lib.hid hok
  have HL := Lib.hid hl
  clear hB2 hl hok
  unfold denyT wDeny at HL
  go_enter Try.func16, Try.ntmps16
  go_upto_region 1 with (fail)
  obtain ⟨w1, hw1⟩ : ∃ zz, zz = (w.alloc (.cells (x.cells : List Value).toArray 34)) := ⟨_, rfl⟩
  change Code.wp _ _ _ _ (w.alloc (.cells (x.cells : List Value).toArray 34))
  rw [← hw1]
  have HB1 := Lib.hid (show Cs w1 (w.heap.size) (x.cells : List Value).toArray 34 by rw [hw1]; exact Cs.new _ _ _)
  have hm : Mod (fun _ => False) w w1 := by rw [hw1]; exact (Mod.refl _ _).alloc _
  have HM0 := Lib.hid (show Mod (fun _ => False) w w1 from hm.mono (fun _ _ h => h.elim))
  have hs1 : w1.heap.size = w.heap.size + 1 := by rw [hw1]; simp
  clear hw1 hm
  go_upto_region 1 with (fail)
  generalize ha0 : Act.mk _ _ = a0
  have oe1 : a0.eval (.tmp 1) = .pointer (some ⟨w.heap.size, 0, none⟩) := by rw [← ha0]; rfl
  have hsz0 : a0.tmps.size = 11 := by rw [← ha0]; rfl
  have HA0 := Lib.hid ha0
  clear ha0
  refine wp_region_Q 11 hsz0 (by kernel_rfl) (by kernel_rfl) [3, 4, 5, 6, 7, 8, 9, 10, 2] (by kernel_rfl) (by decide) (fun _ => False) (fun _ _ => False) (fun _ _ h => h) [qv 0, qi (.pointer (some ⟨w.heap.size, 0, none⟩)), qi (.int .i64 x.rp), qv 1, qi (.pointer (some ⟨w.heap.size, 1, none⟩)), qi (.int .i64 x.ix), qv 2, qv 3, qv 3] ⟨qv_stable, qi_stable, qi_stable, qv_stable, qi_stable, qi_stable, qv_stable, qv_stable, qv_stable, trivial⟩ [0, 3, 6, 7] (by kernel_rfl) (by decide) (by kernel_rfl) [] (by kernel_rfl) (by intro r hr; cases hr) (by intro r hr; cases hr) (by intro r hr; cases hr) ⟨?_, ?_, ?_, ?_, ?_, ?_, ?_, ?_, ?_, trivial⟩ ?_
  · exact stepq_chain rfl
  · refine stepq_env rfl rfl rfl fun Z tr act w' hZ hm hm0 hout hsz hd hub hpre => ?_
    refine qe_run rfl (wanted_none rfl) (ex_field rfl Try.underlying34 rfl (by kernel_rfl) ((hout 1 (by decide)).trans oe1)) QE.refl ?_
    rfl
  · refine stepq_env rfl rfl rfl fun Z tr act w' hZ hm hm0 hout hsz hd hub hpre => ?_
    have h1 := hd ⟨1, .data⟩ (by simp) rfl _ rfl
    refine qe_run rfl (wanted_none rfl) (ex_load1 rfl Try.underlying3 rfl h1 (Cs.lit1 (HB1.out.mod (Mod.mono (S' := fun k => w1.heap.size ≤ k) hm (fun _ _ h => h.elim (fun h => h.2.elim) (fun h => h))) (by intro h2; (try dsimp only at h2); (try simp only [false_or] at h2); omega)) rfl)) QE.refl ?_
    rfl
  · exact stepq_chain rfl
  · refine stepq_env rfl rfl rfl fun Z tr act w' hZ hm hm0 hout hsz hd hub hpre => ?_
    refine qe_run rfl (wanted_none rfl) (ex_field rfl Try.underlying34 rfl (by kernel_rfl) ((hout 1 (by decide)).trans oe1)) QE.refl ?_
    rfl
  · refine stepq_env rfl rfl rfl fun Z tr act w' hZ hm hm0 hout hsz hd hub hpre => ?_
    have h4 := hd ⟨4, .data⟩ (by simp) rfl _ rfl
    refine qe_run rfl (wanted_none rfl) (ex_load1 rfl Try.underlying3 rfl h4 (Cs.lit1 (HB1.out.mod (Mod.mono (S' := fun k => w1.heap.size ≤ k) hm (fun _ _ h => h.elim (fun h => h.2.elim) (fun h => h))) (by intro h2; (try dsimp only at h2); (try simp only [false_or] at h2); omega)) rfl)) QE.refl ?_
    rfl
  · exact stepq_chain rfl
  · exact stepq_chain rfl
  · refine stepq_env rfl rfl rfl fun Z tr act w' hZ hm hm0 hout hsz hd hub hpre => ?_
    have h7 := hd ⟨7, .data⟩ (by simp) rfl _ rfl
    exact qe_run rfl (wanted_none rfl) (ex_assign rfl rfl) QE.refl h7
  intro u1_0 hr
  have zu1_0 := hr.size
  have Hx1 := Lib.hid (HB1.out.mod hr (by intro h2; (try dsimp only at h2); (try simp only [false_or] at h2); omega))
  have Hx2 := Lib.hid (HM0.out.trans hr (by intro k h1 h2; (try dsimp only at h2 ⊢); (try simp only [false_or] at h2 ⊢); omega))
  clear HB1 HM0
  clear hr
  refine QChain.cons rfl fun Z act hYZ hZ hout hsz hd hpre => ?_
  refine qc_call (args := #[.string { data := #[100, 101, 110, 121] }]) rfl (wanted_none rfl) (by rw [ex_callF rfl Try.func63 (by kernel_rfl) (by kernel_rfl)]; exact congrArg (fun z => Result.ok (Next.enter _ z) _) (by simp only [List.map_toArray, List.map_cons, List.map_nil]; try rfl)) (text_Q { data := #[100, 101, 110, 121] } _ (by decide)) ?_
  rintro e u1_1a ⟨g, rfl, qwr, hm⟩
  have zu1_1a := hm.size
  refine ⟨_, rfl, hm.mono (fun _ _ h => h.elim), (fun _ => rfl), ?_⟩
  intro u1_1 hr
  have zu1_1 := hr.size
  have Hx3 := Lib.hid ((qwr.widen (R' := (fun k => (u1_0.heap.size ≤ k ∧ k < u1_1a.heap.size))) (by intro k h1; (try unfold New at h1); (try dsimp only at h1 ⊢); (try simp only [false_or] at h1 ⊢); omega) (Nat.le_refl _)).mod hr (by intro k h1 h2; (try dsimp only at h1 h2); (try simp only [false_or] at h1 h2); omega))
  have hmr := Mod.after hm hr
  have Hx4 := Lib.hid (Hx1.out.mod hmr (by intro h2; (try dsimp only at h2); (try simp only [false_or] at h2); omega))
  have Hx5 := Lib.hid (Hx2.out.trans hmr (by intro k h1 h2; (try dsimp only at h2 ⊢); (try simp only [false_or] at h2 ⊢); omega))
  clear Hx1 Hx2
  clear hmr
  clear hm hr hYZ hZ hout hsz hd hpre qwr
  refine QChain.cons rfl fun Z act hYZ hZ hout hsz hd hpre => ?_
  have h0 := hd ⟨0, .data⟩ (by simp) rfl _ rfl
  have h2 := hd ⟨2, .data⟩ (by simp) rfl _ rfl
  have ea3 : act.eval (.tmp 3) = .pointer (some ⟨g, 0, none⟩) := (Option.some.inj (show some (.pointer (some ⟨g, 0, none⟩) : Value) = some (act.eval (.tmp 3)) from h0)).symm
  have ea5 : act.eval (.tmp 5) = .int .i64 x.rp := h2
  refine qc_call (args := #[.pointer (some ⟨g, 0, none⟩), .int .i64 x.rp]) rfl (wanted_none rfl) (by rw [ex_callF rfl Try.func64 (by kernel_rfl) (by kernel_rfl)]; exact congrArg (fun z => Result.ok (Next.enter _ z) _) (by simp only [List.map_toArray, List.map_cons, List.map_nil, ea3, ea5]; try rfl)) (WInt_Q Hx3.out HOK.out.rp (by have := HL.out; simp only [List.length_append] at this ⊢; omega)) ?_
  rintro e u1_2a ⟨rfl, qwr, hm⟩
  have zu1_2a := hm.size
  refine ⟨_, rfl, hm.mono (by intro k hk h; (try dsimp only at h ⊢); (try simp only [false_or, or_false, true_and] at h ⊢); omega), (fun _ => rfl), ?_⟩
  intro u1_2 hr
  have zu1_2 := hr.size
  have Hx6 := Lib.hid ((qwr.widen (R' := (fun k => (u1_0.heap.size ≤ k ∧ k < u1_1a.heap.size) ∨ (u1_1.heap.size ≤ k ∧ k < u1_2a.heap.size))) (by intro k h1; (try unfold New at h1); (try dsimp only at h1 ⊢); (try simp only [false_or] at h1 ⊢); omega) (Nat.le_refl _)).mod hr (by intro k h1 h2; (try dsimp only at h1 h2); (try simp only [false_or] at h1 h2); omega))
  have hmr := hm.two hr
  have Hx7 := Lib.hid (Hx4.out.mod hmr (by intro h2; (try dsimp only at h2); (try simp only [false_or] at h2); omega))
  have Hx8 := Lib.hid (Hx5.out.trans hmr (by intro k h1 h2; (try dsimp only at h2 ⊢); (try simp only [false_or] at h2 ⊢); omega))
  clear Hx4 Hx5
  clear hmr
  clear hm hr hYZ hZ hout hsz hd hpre qwr Hx3 ea3 ea5 h0 h2
  refine QChain.cons rfl fun Z act hYZ hZ hout hsz hd hpre => ?_
  have h3 := hd ⟨3, .data⟩ (by simp) rfl _ rfl
  have h5 := hd ⟨5, .data⟩ (by simp) rfl _ rfl
  have ea6 : act.eval (.tmp 6) = .pointer (some ⟨g, 0, none⟩) := (Option.some.inj (show some (.pointer (some ⟨g, 0, none⟩) : Value) = some (act.eval (.tmp 6)) from h3)).symm
  have ea8 : act.eval (.tmp 8) = .int .i64 x.ix := h5
  refine qc_call (args := #[.pointer (some ⟨g, 0, none⟩), .int .i64 x.ix]) rfl (wanted_none rfl) (by rw [ex_callF rfl Try.func64 (by kernel_rfl) (by kernel_rfl)]; exact congrArg (fun z => Result.ok (Next.enter _ z) _) (by simp only [List.map_toArray, List.map_cons, List.map_nil, ea6, ea8]; try rfl)) (WInt_Q Hx6.out HOK.out.ix (by have := HL.out; simp only [List.length_append] at this ⊢; omega)) ?_
  rintro e u1_3a ⟨rfl, qwr, hm⟩
  have zu1_3a := hm.size
  refine ⟨_, rfl, hm.mono (by intro k hk h; (try dsimp only at h ⊢); (try simp only [false_or, or_false, true_and] at h ⊢); omega), (fun _ => rfl), ?_⟩
  intro u1_3 hr
  have zu1_3 := hr.size
  have Hx9 := Lib.hid ((qwr.widen (R' := (fun k => (u1_0.heap.size ≤ k ∧ k < u1_1a.heap.size) ∨ (u1_1.heap.size ≤ k ∧ k < u1_2a.heap.size) ∨ (u1_2.heap.size ≤ k ∧ k < u1_3a.heap.size))) (by intro k h1; (try unfold New at h1); (try dsimp only at h1 ⊢); (try simp only [false_or] at h1 ⊢); omega) (Nat.le_refl _)).mod hr (by intro k h1 h2; (try dsimp only at h1 h2); (try simp only [false_or] at h1 h2); omega))
  have hmr := hm.two hr
  have Hx10 := Lib.hid (Hx7.out.mod hmr (by intro h2; (try dsimp only at h2); (try simp only [false_or] at h2); omega))
  have Hx11 := Lib.hid (Hx8.out.trans hmr (by intro k h1 h2; (try dsimp only at h2 ⊢); (try simp only [false_or] at h2 ⊢); omega))
  clear Hx7 Hx8
  clear hmr
  clear hm hr hYZ hZ hout hsz hd hpre qwr Hx6 ea6 ea8 h3 h5
  refine QChain.cons rfl fun Z act hYZ hZ hout hsz hd hpre => ?_
  have h6 := hd ⟨6, .data⟩ (by simp) rfl _ rfl
  have ea9 : act.eval (.tmp 9) = .pointer (some ⟨g, 0, none⟩) := (Option.some.inj (show some (.pointer (some ⟨g, 0, none⟩) : Value) = some (act.eval (.tmp 9)) from h6)).symm
  refine qc_call (args := #[.pointer (some ⟨g, 0, none⟩)]) rfl (wanted_none rfl) (by rw [ex_callF rfl Try.func50 (by kernel_rfl) (by kernel_rfl)]; exact congrArg (fun z => Result.ok (Next.enter _ z) _) (by simp only [List.map_toArray, List.map_cons, List.map_nil, ea9]; try rfl)) (WBytes_Q Hx9.out) ?_
  rintro e u1_4a ⟨vb, rfl, qout, hm⟩
  have zu1_4a := hm.size
  refine ⟨_, rfl, hm.mono (fun _ _ h => h.elim), (fun _ => rfl), ?_⟩
  intro u1_4 hr
  have zu1_4 := hr.size
  have Hx12 := Lib.hid ((qout.widen (R' := (fun k => (u1_3.heap.size ≤ k ∧ k < u1_4a.heap.size))) (by intro k h1; (try unfold New at h1); (try dsimp only at h1 ⊢); (try simp only [false_or] at h1 ⊢); omega) (Nat.le_refl _)).mod hr (by intro k h1 h2; (try dsimp only at h1 h2); (try simp only [false_or] at h1 h2); omega))
  have hmr := Mod.after hm hr
  have Hx13 := Lib.hid (Hx10.out.mod hmr (by intro h2; (try dsimp only at h2); (try simp only [false_or] at h2); omega))
  have Hx14 := Lib.hid (Hx11.out.trans hmr (by intro k h1 h2; (try dsimp only at h2 ⊢); (try simp only [false_or] at h2 ⊢); omega))
  have Hx15 := Lib.hid (Hx9.out.mod hmr (by intro k h1 h2; (try dsimp only at h1 h2); (try simp only [false_or] at h1 h2); omega))
  clear Hx10 Hx11 Hx9
  clear hmr
  clear hm hr hYZ hZ hout hsz hd hpre qout ea9 h6
  refine QChain.nil fun vs hl hzz hrows hne => ?_
  obtain ⟨Z, hYZ, hZb, hV⟩ := hzz
  obtain ⟨v0, vs0, rfl, hl0⟩ := list_cons hl
  obtain ⟨v1, vs1, rfl, hl1⟩ := list_cons hl0
  obtain ⟨v2, vs2, rfl, hl2⟩ := list_cons hl1
  obtain ⟨v3, vs3, rfl, hl3⟩ := list_cons hl2
  obtain ⟨v4, vs4, rfl, hl4⟩ := list_cons hl3
  obtain ⟨v5, vs5, rfl, hl5⟩ := list_cons hl4
  obtain ⟨v6, vs6, rfl, hl6⟩ := list_cons hl5
  obtain ⟨v7, vs7, rfl, hl7⟩ := list_cons hl6
  obtain ⟨v8, vs8, rfl, hl8⟩ := list_cons hl7
  obtain rfl := list_nil hl8
  clear hl hl0 hl1 hl2 hl3 hl4 hl5 hl6 hl7 hl8
  have e0 := Option.some.inj (show some (.pointer (some ⟨g, 0, none⟩)) = some v0 from hV 0 _ rfl)
  subst e0
  have e3 := Option.some.inj (show some (.pointer (some ⟨g, 0, none⟩)) = some v3 from hV 3 _ rfl)
  subst e3
  have e6 := Option.some.inj (show some (.pointer (some ⟨g, 0, none⟩)) = some v6 from hV 6 _ rfl)
  subst e6
  have e7 := Option.some.inj (show some (vb) = some v7 from hV 7 _ rfl)
  subst e7
  have e8 := Option.some.inj (show some (vb) = some v8 from hV 8 _ rfl)
  subst e8
  have ha0 := HA0.out
  subst ha0
  clear HA0 hV hYZ hZb hsz0 hrows hne oe1
  simp only [putAll, Act.put, List.setIfInBounds_toArray, List.set_cons_zero, List.set_cons_succ]
  go_wp2
  go_ret
  have hq := (Hx12.out.widen (R' := (fun k => New w u1_4 k)) (by intro k h1; (try dsimp only at h1 ⊢); (try simp only [false_or] at h1 ⊢); unfold New; omega) (Nat.le_refl _))
  simp only [List.append_assoc, List.nil_append] at hq
  exact ⟨vb, rfl, by simpa only [denyT, wDeny, List.append_assoc] using hq, Hx14.out⟩
set_option maxHeartbeats 4000000 in
theorem VoteText_Q : Makes VtR 15 voteT := by
  intro R2 cs x w hx hB2 hl
  obtain ⟨rfl, hok⟩ := hx
  have HBT := Lib.hid hB2
  have HOK := Lib.hid hok
  have HL := Lib.hid hl
  clear hB2 hl hok
  unfold voteT wVote at HL
  go_enter Try.func15, Try.ntmps15
  go_upto_region 1 with (fail)
  obtain ⟨w1, hw1⟩ : ∃ zz, zz = (w.alloc (.cells (x.cells : List Value).toArray 32)) := ⟨_, rfl⟩
  change Code.wp _ _ _ _ (w.alloc (.cells (x.cells : List Value).toArray 32))
  rw [← hw1]
  have HB1 := Lib.hid (show Cs w1 (w.heap.size) (x.cells : List Value).toArray 32 by rw [hw1]; exact Cs.new _ _ _)
  have hm : Mod (fun _ => False) w w1 := by rw [hw1]; exact (Mod.refl _ _).alloc _
  have HM0 := Lib.hid (show Mod (fun _ => False) w w1 from hm.mono (fun _ _ h => h.elim))
  have hs1 : w1.heap.size = w.heap.size + 1 := by rw [hw1]; simp
  clear hw1 hm
  go_upto_region 1 with (fail)
  generalize ha0 : Act.mk _ _ = a0
  have oe1 : a0.eval (.tmp 1) = .pointer (some ⟨w.heap.size, 0, none⟩) := by rw [← ha0]; rfl
  have hsz0 : a0.tmps.size = 20 := by rw [← ha0]; rfl
  have HA0 := Lib.hid ha0
  clear ha0
  refine wp_region_Q 20 hsz0 (by kernel_rfl) (by kernel_rfl) [3, 4, 5, 6, 7, 8, 9, 10, 11, 12, 13, 14, 15, 16, 17, 18, 19, 2] (by kernel_rfl) (by decide) (fun _ => False) (fun _ _ => False) (fun _ _ h => h) [qv 0, qi (.pointer (some ⟨w.heap.size, 0, none⟩)), qi (.int .i64 x.kd), qv 1, qi (.pointer (some ⟨w.heap.size, 1, none⟩)), qi (.int .i64 x.ep), qv 2, qi (.pointer (some ⟨w.heap.size, 2, none⟩)), qi (.int .i64 x.rd), qv 3, qi (.pointer (some ⟨w.heap.size, 3, none⟩)), qi (.int .i64 x.rp), qv 4, qi (.pointer (some ⟨w.heap.size, 4, none⟩)), qi (hv x.h), qv 5, qv 6, qv 6] ⟨qv_stable, qi_stable, qi_stable, qv_stable, qi_stable, qi_stable, qv_stable, qi_stable, qi_stable, qv_stable, qi_stable, qi_stable, qv_stable, qi_stable, qi_stable, qv_stable, qv_stable, qv_stable, trivial⟩ [0, 3, 6, 9, 12, 15, 16] (by kernel_rfl) (by decide) (by kernel_rfl) [] (by kernel_rfl) (by intro r hr; cases hr) (by intro r hr; cases hr) (by intro r hr; cases hr) ⟨?_, ?_, ?_, ?_, ?_, ?_, ?_, ?_, ?_, ?_, ?_, ?_, ?_, ?_, ?_, ?_, ?_, ?_, trivial⟩ ?_
  · exact stepq_chain rfl
  · refine stepq_env rfl rfl rfl fun Z tr act w' hZ hm hm0 hout hsz hd hub hpre => ?_
    refine qe_run rfl (wanted_none rfl) (ex_field rfl Try.underlying32 rfl (by kernel_rfl) ((hout 1 (by decide)).trans oe1)) QE.refl ?_
    rfl
  · refine stepq_env rfl rfl rfl fun Z tr act w' hZ hm hm0 hout hsz hd hub hpre => ?_
    have h1 := hd ⟨1, .data⟩ (by simp) rfl _ rfl
    refine qe_run rfl (wanted_none rfl) (ex_load1 rfl Try.underlying3 rfl h1 (Cs.pre1 (HB1.out.mod (Mod.mono (S' := fun k => w1.heap.size ≤ k) hm (fun _ _ h => h.elim (fun h => h.2.elim) (fun h => h))) (by intro h2; (try dsimp only at h2); (try simp only [false_or] at h2); omega)) rfl)) QE.refl ?_
    rfl
  · exact stepq_chain rfl
  · refine stepq_env rfl rfl rfl fun Z tr act w' hZ hm hm0 hout hsz hd hub hpre => ?_
    refine qe_run rfl (wanted_none rfl) (ex_field rfl Try.underlying32 rfl (by kernel_rfl) ((hout 1 (by decide)).trans oe1)) QE.refl ?_
    rfl
  · refine stepq_env rfl rfl rfl fun Z tr act w' hZ hm hm0 hout hsz hd hub hpre => ?_
    have h4 := hd ⟨4, .data⟩ (by simp) rfl _ rfl
    refine qe_run rfl (wanted_none rfl) (ex_load1 rfl Try.underlying3 rfl h4 (Cs.pre1 (HB1.out.mod (Mod.mono (S' := fun k => w1.heap.size ≤ k) hm (fun _ _ h => h.elim (fun h => h.2.elim) (fun h => h))) (by intro h2; (try dsimp only at h2); (try simp only [false_or] at h2); omega)) rfl)) QE.refl ?_
    rfl
  · exact stepq_chain rfl
  · refine stepq_env rfl rfl rfl fun Z tr act w' hZ hm hm0 hout hsz hd hub hpre => ?_
    refine qe_run rfl (wanted_none rfl) (ex_field rfl Try.underlying32 rfl (by kernel_rfl) ((hout 1 (by decide)).trans oe1)) QE.refl ?_
    rfl
  · refine stepq_env rfl rfl rfl fun Z tr act w' hZ hm hm0 hout hsz hd hub hpre => ?_
    have h7 := hd ⟨7, .data⟩ (by simp) rfl _ rfl
    refine qe_run rfl (wanted_none rfl) (ex_load1 rfl Try.underlying3 rfl h7 (Cs.pre1 (HB1.out.mod (Mod.mono (S' := fun k => w1.heap.size ≤ k) hm (fun _ _ h => h.elim (fun h => h.2.elim) (fun h => h))) (by intro h2; (try dsimp only at h2); (try simp only [false_or] at h2); omega)) rfl)) QE.refl ?_
    rfl
  · exact stepq_chain rfl
  · refine stepq_env rfl rfl rfl fun Z tr act w' hZ hm hm0 hout hsz hd hub hpre => ?_
    refine qe_run rfl (wanted_none rfl) (ex_field rfl Try.underlying32 rfl (by kernel_rfl) ((hout 1 (by decide)).trans oe1)) QE.refl ?_
    rfl
  · refine stepq_env rfl rfl rfl fun Z tr act w' hZ hm hm0 hout hsz hd hub hpre => ?_
    have h10 := hd ⟨10, .data⟩ (by simp) rfl _ rfl
    refine qe_run rfl (wanted_none rfl) (ex_load1 rfl Try.underlying3 rfl h10 (Cs.pre1 (HB1.out.mod (Mod.mono (S' := fun k => w1.heap.size ≤ k) hm (fun _ _ h => h.elim (fun h => h.2.elim) (fun h => h))) (by intro h2; (try dsimp only at h2); (try simp only [false_or] at h2); omega)) rfl)) QE.refl ?_
    rfl
  · exact stepq_chain rfl
  · refine stepq_env rfl rfl rfl fun Z tr act w' hZ hm hm0 hout hsz hd hub hpre => ?_
    refine qe_run rfl (wanted_none rfl) (ex_field rfl Try.underlying32 rfl (by kernel_rfl) ((hout 1 (by decide)).trans oe1)) QE.refl ?_
    rfl
  · refine stepq_env rfl rfl rfl fun Z tr act w' hZ hm hm0 hout hsz hd hub hpre => ?_
    have h13 := hd ⟨13, .data⟩ (by simp) rfl _ rfl
    refine qe_run rfl (wanted_none rfl) (ex_loadA rfl Try.underlying25 rfl (off := 4) (cs := x.h.map bv) (by rw [List.length_map, HOK.out.h.1]; exact size_hash) h13 (Cs.midA (HB1.out.mod (Mod.mono (S' := fun k => w1.heap.size ≤ k) hm (fun _ _ h => h.elim (fun h => h.2.elim) (fun h => h))) (by intro h2; (try dsimp only at h2); (try simp only [false_or] at h2); omega)) rfl)) QE.refl ?_
    rfl
  · exact stepq_chain rfl
  · exact stepq_chain rfl
  · refine stepq_env rfl rfl rfl fun Z tr act w' hZ hm hm0 hout hsz hd hub hpre => ?_
    have h16 := hd ⟨16, .data⟩ (by simp) rfl _ rfl
    exact qe_run rfl (wanted_none rfl) (ex_assign rfl rfl) QE.refl h16
  intro u1_0 hr
  have zu1_0 := hr.size
  have Hx1 := Lib.hid (HB1.out.mod hr (by intro h2; (try dsimp only at h2); (try simp only [false_or] at h2); omega))
  have Hx2 := Lib.hid (HM0.out.trans hr (by intro k h1 h2; (try dsimp only at h2 ⊢); (try simp only [false_or] at h2 ⊢); omega))
  clear HB1 HM0
  clear hr
  refine QChain.cons rfl fun Z act hYZ hZ hout hsz hd hpre => ?_
  refine qc_call (args := #[.string { data := #[118, 111, 116, 101] }]) rfl (wanted_none rfl) (by rw [ex_callF rfl Try.func63 (by kernel_rfl) (by kernel_rfl)]; exact congrArg (fun z => Result.ok (Next.enter _ z) _) (by simp only [List.map_toArray, List.map_cons, List.map_nil]; try rfl)) (text_Q { data := #[118, 111, 116, 101] } _ (by decide)) ?_
  rintro e u1_1a ⟨g, rfl, qwr, hm⟩
  have zu1_1a := hm.size
  refine ⟨_, rfl, hm.mono (fun _ _ h => h.elim), (fun _ => rfl), ?_⟩
  intro u1_1 hr
  have zu1_1 := hr.size
  have Hx3 := Lib.hid ((qwr.widen (R' := (fun k => (u1_0.heap.size ≤ k ∧ k < u1_1a.heap.size))) (by intro k h1; (try unfold New at h1); (try dsimp only at h1 ⊢); (try simp only [false_or] at h1 ⊢); omega) (Nat.le_refl _)).mod hr (by intro k h1 h2; (try dsimp only at h1 h2); (try simp only [false_or] at h1 h2); omega))
  have hmr := Mod.after hm hr
  have Hx4 := Lib.hid (Hx1.out.mod hmr (by intro h2; (try dsimp only at h2); (try simp only [false_or] at h2); omega))
  have Hx5 := Lib.hid (Hx2.out.trans hmr (by intro k h1 h2; (try dsimp only at h2 ⊢); (try simp only [false_or] at h2 ⊢); omega))
  clear Hx1 Hx2
  clear hmr
  clear hm hr hYZ hZ hout hsz hd hpre qwr
  refine QChain.cons rfl fun Z act hYZ hZ hout hsz hd hpre => ?_
  have h0 := hd ⟨0, .data⟩ (by simp) rfl _ rfl
  have h2 := hd ⟨2, .data⟩ (by simp) rfl _ rfl
  have ea3 : act.eval (.tmp 3) = .pointer (some ⟨g, 0, none⟩) := (Option.some.inj (show some (.pointer (some ⟨g, 0, none⟩) : Value) = some (act.eval (.tmp 3)) from h0)).symm
  have ea5 : act.eval (.tmp 5) = .int .i64 x.kd := h2
  refine qc_call (args := #[.pointer (some ⟨g, 0, none⟩), .int .i64 x.kd]) rfl (wanted_none rfl) (by rw [ex_callF rfl Try.func64 (by kernel_rfl) (by kernel_rfl)]; exact congrArg (fun z => Result.ok (Next.enter _ z) _) (by simp only [List.map_toArray, List.map_cons, List.map_nil, ea3, ea5]; try rfl)) (WInt_Q Hx3.out HOK.out.kd (by have := HL.out; simp only [List.length_append] at this ⊢; omega)) ?_
  rintro e u1_2a ⟨rfl, qwr, hm⟩
  have zu1_2a := hm.size
  refine ⟨_, rfl, hm.mono (by intro k hk h; (try dsimp only at h ⊢); (try simp only [false_or, or_false, true_and] at h ⊢); omega), (fun _ => rfl), ?_⟩
  intro u1_2 hr
  have zu1_2 := hr.size
  have Hx6 := Lib.hid ((qwr.widen (R' := (fun k => (u1_0.heap.size ≤ k ∧ k < u1_1a.heap.size) ∨ (u1_1.heap.size ≤ k ∧ k < u1_2a.heap.size))) (by intro k h1; (try unfold New at h1); (try dsimp only at h1 ⊢); (try simp only [false_or] at h1 ⊢); omega) (Nat.le_refl _)).mod hr (by intro k h1 h2; (try dsimp only at h1 h2); (try simp only [false_or] at h1 h2); omega))
  have hmr := hm.two hr
  have Hx7 := Lib.hid (Hx4.out.mod hmr (by intro h2; (try dsimp only at h2); (try simp only [false_or] at h2); omega))
  have Hx8 := Lib.hid (Hx5.out.trans hmr (by intro k h1 h2; (try dsimp only at h2 ⊢); (try simp only [false_or] at h2 ⊢); omega))
  clear Hx4 Hx5
  clear hmr
  clear hm hr hYZ hZ hout hsz hd hpre qwr Hx3 ea3 ea5 h0 h2
  refine QChain.cons rfl fun Z act hYZ hZ hout hsz hd hpre => ?_
  have h3 := hd ⟨3, .data⟩ (by simp) rfl _ rfl
  have h5 := hd ⟨5, .data⟩ (by simp) rfl _ rfl
  have ea6 : act.eval (.tmp 6) = .pointer (some ⟨g, 0, none⟩) := (Option.some.inj (show some (.pointer (some ⟨g, 0, none⟩) : Value) = some (act.eval (.tmp 6)) from h3)).symm
  have ea8 : act.eval (.tmp 8) = .int .i64 x.ep := h5
  refine qc_call (args := #[.pointer (some ⟨g, 0, none⟩), .int .i64 x.ep]) rfl (wanted_none rfl) (by rw [ex_callF rfl Try.func64 (by kernel_rfl) (by kernel_rfl)]; exact congrArg (fun z => Result.ok (Next.enter _ z) _) (by simp only [List.map_toArray, List.map_cons, List.map_nil, ea6, ea8]; try rfl)) (WInt_Q Hx6.out HOK.out.ep (by have := HL.out; simp only [List.length_append] at this ⊢; omega)) ?_
  rintro e u1_3a ⟨rfl, qwr, hm⟩
  have zu1_3a := hm.size
  refine ⟨_, rfl, hm.mono (by intro k hk h; (try dsimp only at h ⊢); (try simp only [false_or, or_false, true_and] at h ⊢); omega), (fun _ => rfl), ?_⟩
  intro u1_3 hr
  have zu1_3 := hr.size
  have Hx9 := Lib.hid ((qwr.widen (R' := (fun k => (u1_0.heap.size ≤ k ∧ k < u1_1a.heap.size) ∨ (u1_1.heap.size ≤ k ∧ k < u1_2a.heap.size) ∨ (u1_2.heap.size ≤ k ∧ k < u1_3a.heap.size))) (by intro k h1; (try unfold New at h1); (try dsimp only at h1 ⊢); (try simp only [false_or] at h1 ⊢); omega) (Nat.le_refl _)).mod hr (by intro k h1 h2; (try dsimp only at h1 h2); (try simp only [false_or] at h1 h2); omega))
  have hmr := hm.two hr
  have Hx10 := Lib.hid (Hx7.out.mod hmr (by intro h2; (try dsimp only at h2); (try simp only [false_or] at h2); omega))
  have Hx11 := Lib.hid (Hx8.out.trans hmr (by intro k h1 h2; (try dsimp only at h2 ⊢); (try simp only [false_or] at h2 ⊢); omega))
  clear Hx7 Hx8
  clear hmr
  clear hm hr hYZ hZ hout hsz hd hpre qwr Hx6 ea6 ea8 h3 h5
  refine QChain.cons rfl fun Z act hYZ hZ hout hsz hd hpre => ?_
  have h6 := hd ⟨6, .data⟩ (by simp) rfl _ rfl
  have h8 := hd ⟨8, .data⟩ (by simp) rfl _ rfl
  have ea9 : act.eval (.tmp 9) = .pointer (some ⟨g, 0, none⟩) := (Option.some.inj (show some (.pointer (some ⟨g, 0, none⟩) : Value) = some (act.eval (.tmp 9)) from h6)).symm
  have ea11 : act.eval (.tmp 11) = .int .i64 x.rd := h8
  refine qc_call (args := #[.pointer (some ⟨g, 0, none⟩), .int .i64 x.rd]) rfl (wanted_none rfl) (by rw [ex_callF rfl Try.func64 (by kernel_rfl) (by kernel_rfl)]; exact congrArg (fun z => Result.ok (Next.enter _ z) _) (by simp only [List.map_toArray, List.map_cons, List.map_nil, ea9, ea11]; try rfl)) (WInt_Q Hx9.out HOK.out.rd (by have := HL.out; simp only [List.length_append] at this ⊢; omega)) ?_
  rintro e u1_4a ⟨rfl, qwr, hm⟩
  have zu1_4a := hm.size
  refine ⟨_, rfl, hm.mono (by intro k hk h; (try dsimp only at h ⊢); (try simp only [false_or, or_false, true_and] at h ⊢); omega), (fun _ => rfl), ?_⟩
  intro u1_4 hr
  have zu1_4 := hr.size
  have Hx12 := Lib.hid ((qwr.widen (R' := (fun k => (u1_0.heap.size ≤ k ∧ k < u1_1a.heap.size) ∨ (u1_1.heap.size ≤ k ∧ k < u1_2a.heap.size) ∨ (u1_2.heap.size ≤ k ∧ k < u1_3a.heap.size) ∨ (u1_3.heap.size ≤ k ∧ k < u1_4a.heap.size))) (by intro k h1; (try unfold New at h1); (try dsimp only at h1 ⊢); (try simp only [false_or] at h1 ⊢); omega) (Nat.le_refl _)).mod hr (by intro k h1 h2; (try dsimp only at h1 h2); (try simp only [false_or] at h1 h2); omega))
  have hmr := hm.two hr
  have Hx13 := Lib.hid (Hx10.out.mod hmr (by intro h2; (try dsimp only at h2); (try simp only [false_or] at h2); omega))
  have Hx14 := Lib.hid (Hx11.out.trans hmr (by intro k h1 h2; (try dsimp only at h2 ⊢); (try simp only [false_or] at h2 ⊢); omega))
  clear Hx10 Hx11
  clear hmr
  clear hm hr hYZ hZ hout hsz hd hpre qwr Hx9 ea9 ea11 h6 h8
  refine QChain.cons rfl fun Z act hYZ hZ hout hsz hd hpre => ?_
  have h9 := hd ⟨9, .data⟩ (by simp) rfl _ rfl
  have h11 := hd ⟨11, .data⟩ (by simp) rfl _ rfl
  have ea12 : act.eval (.tmp 12) = .pointer (some ⟨g, 0, none⟩) := (Option.some.inj (show some (.pointer (some ⟨g, 0, none⟩) : Value) = some (act.eval (.tmp 12)) from h9)).symm
  have ea14 : act.eval (.tmp 14) = .int .i64 x.rp := h11
  refine qc_call (args := #[.pointer (some ⟨g, 0, none⟩), .int .i64 x.rp]) rfl (wanted_none rfl) (by rw [ex_callF rfl Try.func64 (by kernel_rfl) (by kernel_rfl)]; exact congrArg (fun z => Result.ok (Next.enter _ z) _) (by simp only [List.map_toArray, List.map_cons, List.map_nil, ea12, ea14]; try rfl)) (WInt_Q Hx12.out HOK.out.rp (by have := HL.out; simp only [List.length_append] at this ⊢; omega)) ?_
  rintro e u1_5a ⟨rfl, qwr, hm⟩
  have zu1_5a := hm.size
  refine ⟨_, rfl, hm.mono (by intro k hk h; (try dsimp only at h ⊢); (try simp only [false_or, or_false, true_and] at h ⊢); omega), (fun _ => rfl), ?_⟩
  intro u1_5 hr
  have zu1_5 := hr.size
  have Hx15 := Lib.hid ((qwr.widen (R' := (fun k => (u1_0.heap.size ≤ k ∧ k < u1_1a.heap.size) ∨ (u1_1.heap.size ≤ k ∧ k < u1_2a.heap.size) ∨ (u1_2.heap.size ≤ k ∧ k < u1_3a.heap.size) ∨ (u1_3.heap.size ≤ k ∧ k < u1_4a.heap.size) ∨ (u1_4.heap.size ≤ k ∧ k < u1_5a.heap.size))) (by intro k h1; (try unfold New at h1); (try dsimp only at h1 ⊢); (try simp only [false_or] at h1 ⊢); omega) (Nat.le_refl _)).mod hr (by intro k h1 h2; (try dsimp only at h1 h2); (try simp only [false_or] at h1 h2); omega))
  have hmr := hm.two hr
  have Hx16 := Lib.hid (Hx13.out.mod hmr (by intro h2; (try dsimp only at h2); (try simp only [false_or] at h2); omega))
  have Hx17 := Lib.hid (Hx14.out.trans hmr (by intro k h1 h2; (try dsimp only at h2 ⊢); (try simp only [false_or] at h2 ⊢); omega))
  clear Hx13 Hx14
  clear hmr
  clear hm hr hYZ hZ hout hsz hd hpre qwr Hx12 ea12 ea14 h9 h11
  refine QChain.cons rfl fun Z act hYZ hZ hout hsz hd hpre => ?_
  have h12 := hd ⟨12, .data⟩ (by simp) rfl _ rfl
  have h14 := hd ⟨14, .data⟩ (by simp) rfl _ rfl
  have ea15 : act.eval (.tmp 15) = .pointer (some ⟨g, 0, none⟩) := (Option.some.inj (show some (.pointer (some ⟨g, 0, none⟩) : Value) = some (act.eval (.tmp 15)) from h12)).symm
  have ea17 : act.eval (.tmp 17) = hv x.h := h14
  refine qc_call (args := #[.pointer (some ⟨g, 0, none⟩), hv x.h]) rfl (wanted_none rfl) (by rw [ex_callF rfl Try.func66 (by kernel_rfl) (by kernel_rfl)]; exact congrArg (fun z => Result.ok (Next.enter _ z) _) (by simp only [List.map_toArray, List.map_cons, List.map_nil, ea15, ea17]; try rfl)) (WHash_Q Hx15.out HOK.out.h (by have := HL.out; simp only [List.length_append] at this ⊢; omega)) ?_
  rintro e u1_6a ⟨rfl, qwr, hm⟩
  have zu1_6a := hm.size
  refine ⟨_, rfl, hm.mono (by intro k hk h; (try dsimp only at h ⊢); (try simp only [false_or, or_false, true_and] at h ⊢); omega), (fun _ => rfl), ?_⟩
  intro u1_6 hr
  have zu1_6 := hr.size
  have Hx18 := Lib.hid ((qwr.widen (R' := (fun k => (u1_0.heap.size ≤ k ∧ k < u1_1a.heap.size) ∨ (u1_1.heap.size ≤ k ∧ k < u1_2a.heap.size) ∨ (u1_2.heap.size ≤ k ∧ k < u1_3a.heap.size) ∨ (u1_3.heap.size ≤ k ∧ k < u1_4a.heap.size) ∨ (u1_4.heap.size ≤ k ∧ k < u1_5a.heap.size) ∨ (u1_5.heap.size ≤ k ∧ k < u1_6a.heap.size))) (by intro k h1; (try unfold New at h1); (try dsimp only at h1 ⊢); (try simp only [false_or] at h1 ⊢); omega) (Nat.le_refl _)).mod hr (by intro k h1 h2; (try dsimp only at h1 h2); (try simp only [false_or] at h1 h2); omega))
  have hmr := hm.two hr
  have Hx19 := Lib.hid (Hx16.out.mod hmr (by intro h2; (try dsimp only at h2); (try simp only [false_or] at h2); omega))
  have Hx20 := Lib.hid (Hx17.out.trans hmr (by intro k h1 h2; (try dsimp only at h2 ⊢); (try simp only [false_or] at h2 ⊢); omega))
  clear Hx16 Hx17
  clear hmr
  clear hm hr hYZ hZ hout hsz hd hpre qwr Hx15 ea15 ea17 h12 h14
  refine QChain.cons rfl fun Z act hYZ hZ hout hsz hd hpre => ?_
  have h15 := hd ⟨15, .data⟩ (by simp) rfl _ rfl
  have ea18 : act.eval (.tmp 18) = .pointer (some ⟨g, 0, none⟩) := (Option.some.inj (show some (.pointer (some ⟨g, 0, none⟩) : Value) = some (act.eval (.tmp 18)) from h15)).symm
  refine qc_call (args := #[.pointer (some ⟨g, 0, none⟩)]) rfl (wanted_none rfl) (by rw [ex_callF rfl Try.func50 (by kernel_rfl) (by kernel_rfl)]; exact congrArg (fun z => Result.ok (Next.enter _ z) _) (by simp only [List.map_toArray, List.map_cons, List.map_nil, ea18]; try rfl)) (WBytes_Q Hx18.out) ?_
  rintro e u1_7a ⟨vb, rfl, qout, hm⟩
  have zu1_7a := hm.size
  refine ⟨_, rfl, hm.mono (fun _ _ h => h.elim), (fun _ => rfl), ?_⟩
  intro u1_7 hr
  have zu1_7 := hr.size
  have Hx21 := Lib.hid ((qout.widen (R' := (fun k => (u1_6.heap.size ≤ k ∧ k < u1_7a.heap.size))) (by intro k h1; (try unfold New at h1); (try dsimp only at h1 ⊢); (try simp only [false_or] at h1 ⊢); omega) (Nat.le_refl _)).mod hr (by intro k h1 h2; (try dsimp only at h1 h2); (try simp only [false_or] at h1 h2); omega))
  have hmr := Mod.after hm hr
  have Hx22 := Lib.hid (Hx19.out.mod hmr (by intro h2; (try dsimp only at h2); (try simp only [false_or] at h2); omega))
  have Hx23 := Lib.hid (Hx20.out.trans hmr (by intro k h1 h2; (try dsimp only at h2 ⊢); (try simp only [false_or] at h2 ⊢); omega))
  have Hx24 := Lib.hid (Hx18.out.mod hmr (by intro k h1 h2; (try dsimp only at h1 h2); (try simp only [false_or] at h1 h2); omega))
  clear Hx19 Hx20 Hx18
  clear hmr
  clear hm hr hYZ hZ hout hsz hd hpre qout ea18 h15
  refine QChain.nil fun vs hl hzz hrows hne => ?_
  obtain ⟨Z, hYZ, hZb, hV⟩ := hzz
  obtain ⟨v0, vs0, rfl, hl0⟩ := list_cons hl
  obtain ⟨v1, vs1, rfl, hl1⟩ := list_cons hl0
  obtain ⟨v2, vs2, rfl, hl2⟩ := list_cons hl1
  obtain ⟨v3, vs3, rfl, hl3⟩ := list_cons hl2
  obtain ⟨v4, vs4, rfl, hl4⟩ := list_cons hl3
  obtain ⟨v5, vs5, rfl, hl5⟩ := list_cons hl4
  obtain ⟨v6, vs6, rfl, hl6⟩ := list_cons hl5
  obtain ⟨v7, vs7, rfl, hl7⟩ := list_cons hl6
  obtain ⟨v8, vs8, rfl, hl8⟩ := list_cons hl7
  obtain ⟨v9, vs9, rfl, hl9⟩ := list_cons hl8
  obtain ⟨v10, vs10, rfl, hl10⟩ := list_cons hl9
  obtain ⟨v11, vs11, rfl, hl11⟩ := list_cons hl10
  obtain ⟨v12, vs12, rfl, hl12⟩ := list_cons hl11
  obtain ⟨v13, vs13, rfl, hl13⟩ := list_cons hl12
  obtain ⟨v14, vs14, rfl, hl14⟩ := list_cons hl13
  obtain ⟨v15, vs15, rfl, hl15⟩ := list_cons hl14
  obtain ⟨v16, vs16, rfl, hl16⟩ := list_cons hl15
  obtain ⟨v17, vs17, rfl, hl17⟩ := list_cons hl16
  obtain rfl := list_nil hl17
  clear hl hl0 hl1 hl2 hl3 hl4 hl5 hl6 hl7 hl8 hl9 hl10 hl11 hl12 hl13 hl14 hl15 hl16 hl17
  have e0 := Option.some.inj (show some (.pointer (some ⟨g, 0, none⟩)) = some v0 from hV 0 _ rfl)
  subst e0
  have e3 := Option.some.inj (show some (.pointer (some ⟨g, 0, none⟩)) = some v3 from hV 3 _ rfl)
  subst e3
  have e6 := Option.some.inj (show some (.pointer (some ⟨g, 0, none⟩)) = some v6 from hV 6 _ rfl)
  subst e6
  have e9 := Option.some.inj (show some (.pointer (some ⟨g, 0, none⟩)) = some v9 from hV 9 _ rfl)
  subst e9
  have e12 := Option.some.inj (show some (.pointer (some ⟨g, 0, none⟩)) = some v12 from hV 12 _ rfl)
  subst e12
  have e15 := Option.some.inj (show some (.pointer (some ⟨g, 0, none⟩)) = some v15 from hV 15 _ rfl)
  subst e15
  have e16 := Option.some.inj (show some (vb) = some v16 from hV 16 _ rfl)
  subst e16
  have e17 := Option.some.inj (show some (vb) = some v17 from hV 17 _ rfl)
  subst e17
  have ha0 := HA0.out
  subst ha0
  clear HA0 hV hYZ hZb hsz0 hrows hne oe1
  simp only [putAll, Act.put, List.setIfInBounds_toArray, List.set_cons_zero, List.set_cons_succ]
  go_wp2
  go_ret
  have hq := (Hx21.out.widen (R' := (fun k => New w u1_7 k)) (by intro k h1; (try dsimp only at h1 ⊢); (try simp only [false_or] at h1 ⊢); unfold New; omega) (Nat.le_refl _))
  simp only [List.append_assoc, List.nil_append] at hq
  exact ⟨vb, rfl, by simpa only [voteT, wVote, List.append_assoc] using hq, Hx23.out⟩
set_option maxHeartbeats 4000000 in
theorem PromiseText_Q : Makes PmR 57 promT := by
  intro R2 cs x w hx hB2 hl
  obtain ⟨v_l, rfl, hok, hs0⟩ := hx
  have HS0 := Lib.hid hs0
  clear hs0
  have HBT := Lib.hid hB2
  have HOK := Lib.hid hok
  have HL := Lib.hid hl
  clear hB2 hl hok
  unfold promT wProm at HL
  go_enter Try.func57, Try.ntmps57
  go_upto_region 1 with (fail)
  obtain ⟨w1, hw1⟩ : ∃ zz, zz = (w.alloc (.cells (x.cells v_l : List Value).toArray 55)) := ⟨_, rfl⟩
  change Code.wp _ _ _ _ (w.alloc (.cells (x.cells v_l : List Value).toArray 55))
  rw [← hw1]
  have HB1 := Lib.hid (show Cs w1 (w.heap.size) (x.cells v_l : List Value).toArray 55 by rw [hw1]; exact Cs.new _ _ _)
  have hm : Mod (fun _ => False) w w1 := by rw [hw1]; exact (Mod.refl _ _).alloc _
  have HM0 := Lib.hid (show Mod (fun _ => False) w w1 from hm.mono (fun _ _ h => h.elim))
  have hs1 : w1.heap.size = w.heap.size + 1 := by rw [hw1]; simp
  have Hx1 := Lib.hid (HS0.out.mod hm (fun _ _ h => h))
  clear HS0
  clear hw1 hm
  go_upto_region 1 with (fail)
  generalize ha0 : Act.mk _ _ = a0
  have oe1 : a0.eval (.tmp 1) = .pointer (some ⟨w.heap.size, 0, none⟩) := by rw [← ha0]; rfl
  have hsz0 : a0.tmps.size = 20 := by rw [← ha0]; rfl
  have HA0 := Lib.hid ha0
  clear ha0
  refine wp_region_Q 20 hsz0 (by kernel_rfl) (by kernel_rfl) [4, 5, 6, 7, 8, 9, 10, 11, 12, 13, 3] (by kernel_rfl) (by decide) (fun _ => False) (fun _ _ => False) (fun _ _ h => h) [qv 0, qi (.pointer (some ⟨w.heap.size, 0, none⟩)), qi (.int .i64 x.rp), qv 1, qi (.pointer (some ⟨w.heap.size, 1, none⟩)), qi (.int .i64 x.ep), qv 2, qi (.pointer (some ⟨w.heap.size, 2, none⟩)), qi (.int .u64 (x.fl : Nat)), qv 3, qv 3] ⟨qv_stable, qi_stable, qi_stable, qv_stable, qi_stable, qi_stable, qv_stable, qi_stable, qi_stable, qv_stable, qv_stable, trivial⟩ [0, 3, 6, 9] (by kernel_rfl) (by decide) (by kernel_rfl) [] (by kernel_rfl) (by intro r hr; cases hr) (by intro r hr; cases hr) (by intro r hr; cases hr) ⟨?_, ?_, ?_, ?_, ?_, ?_, ?_, ?_, ?_, ?_, ?_, trivial⟩ ?_
  · exact stepq_chain rfl
  · refine stepq_env rfl rfl rfl fun Z tr act w' hZ hm hm0 hout hsz hd hub hpre => ?_
    refine qe_run rfl (wanted_none rfl) (ex_field rfl Try.underlying55 rfl (by kernel_rfl) ((hout 1 (by decide)).trans oe1)) QE.refl ?_
    rfl
  · refine stepq_env rfl rfl rfl fun Z tr act w' hZ hm hm0 hout hsz hd hub hpre => ?_
    have h1 := hd ⟨1, .data⟩ (by simp) rfl _ rfl
    refine qe_run rfl (wanted_none rfl) (ex_load1 rfl Try.underlying3 rfl h1 (Cs.lit1 (HB1.out.mod (Mod.mono (S' := fun k => w1.heap.size ≤ k) hm (fun _ _ h => h.elim (fun h => h.2.elim) (fun h => h))) (by intro h2; (try dsimp only at h2); (try simp only [false_or] at h2); omega)) rfl)) QE.refl ?_
    rfl
  · exact stepq_chain rfl
  · refine stepq_env rfl rfl rfl fun Z tr act w' hZ hm hm0 hout hsz hd hub hpre => ?_
    refine qe_run rfl (wanted_none rfl) (ex_field rfl Try.underlying55 rfl (by kernel_rfl) ((hout 1 (by decide)).trans oe1)) QE.refl ?_
    rfl
  · refine stepq_env rfl rfl rfl fun Z tr act w' hZ hm hm0 hout hsz hd hub hpre => ?_
    have h4 := hd ⟨4, .data⟩ (by simp) rfl _ rfl
    refine qe_run rfl (wanted_none rfl) (ex_load1 rfl Try.underlying3 rfl h4 (Cs.lit1 (HB1.out.mod (Mod.mono (S' := fun k => w1.heap.size ≤ k) hm (fun _ _ h => h.elim (fun h => h.2.elim) (fun h => h))) (by intro h2; (try dsimp only at h2); (try simp only [false_or] at h2); omega)) rfl)) QE.refl ?_
    rfl
  · exact stepq_chain rfl
  · refine stepq_env rfl rfl rfl fun Z tr act w' hZ hm hm0 hout hsz hd hub hpre => ?_
    refine qe_run rfl (wanted_none rfl) (ex_field rfl Try.underlying55 rfl (by kernel_rfl) ((hout 1 (by decide)).trans oe1)) QE.refl ?_
    rfl
  · refine stepq_env rfl rfl rfl fun Z tr act w' hZ hm hm0 hout hsz hd hub hpre => ?_
    have h7 := hd ⟨7, .data⟩ (by simp) rfl _ rfl
    refine qe_run rfl (wanted_none rfl) (ex_load1 rfl Try.underlying26 rfl h7 (Cs.lit1 (HB1.out.mod (Mod.mono (S' := fun k => w1.heap.size ≤ k) hm (fun _ _ h => h.elim (fun h => h.2.elim) (fun h => h))) (by intro h2; (try dsimp only at h2); (try simp only [false_or] at h2); omega)) rfl)) QE.refl ?_
    rfl
  · exact stepq_chain rfl
  · refine stepq_env rfl rfl rfl fun Z tr act w' hZ hm hm0 hout hsz hd hub hpre => ?_
    have h9 := hd ⟨9, .data⟩ (by simp) rfl _ rfl
    exact qe_run rfl (wanted_none rfl) (ex_assign rfl rfl) QE.refl h9
  intro u1_0 hr
  have zu1_0 := hr.size
  have Hx2 := Lib.hid (Hx1.out.mod hr (by intro k h1 h2; (try dsimp only at h1 h2); (try simp only [false_or] at h1 h2); (first | omega | (have hb := HBT.out k h1; omega) | (have hb := HBT.out k h2; omega))))
  have Hx3 := Lib.hid (HB1.out.mod hr (by intro h2; (try dsimp only at h2); (try simp only [false_or] at h2); omega))
  have Hx4 := Lib.hid (HM0.out.trans hr (by intro k h1 h2; (try dsimp only at h2 ⊢); (try simp only [false_or] at h2 ⊢); omega))
  clear Hx1 HB1 HM0
  clear hr
  refine QChain.cons rfl fun Z act hYZ hZ hout hsz hd hpre => ?_
  refine qc_call (args := #[.string { data := #[112, 114, 111, 109, 105, 115, 101] }]) rfl (wanted_none rfl) (by rw [ex_callF rfl Try.func63 (by kernel_rfl) (by kernel_rfl)]; exact congrArg (fun z => Result.ok (Next.enter _ z) _) (by simp only [List.map_toArray, List.map_cons, List.map_nil]; try rfl)) (text_Q { data := #[112, 114, 111, 109, 105, 115, 101] } _ (by decide)) ?_
  rintro e u1_1a ⟨g, rfl, qwr, hm⟩
  have zu1_1a := hm.size
  refine ⟨_, rfl, hm.mono (fun _ _ h => h.elim), (fun _ => rfl), ?_⟩
  intro u1_1 hr
  have zu1_1 := hr.size
  have Hx5 := Lib.hid ((qwr.widen (R' := (fun k => (u1_0.heap.size ≤ k ∧ k < u1_1a.heap.size))) (by intro k h1; (try unfold New at h1); (try dsimp only at h1 ⊢); (try simp only [false_or] at h1 ⊢); omega) (Nat.le_refl _)).mod hr (by intro k h1 h2; (try dsimp only at h1 h2); (try simp only [false_or] at h1 h2); omega))
  have hmr := Mod.after hm hr
  have Hx6 := Lib.hid (Hx2.out.mod hmr (by intro k h1 h2; (try dsimp only at h1 h2); (try simp only [false_or] at h1 h2); (first | omega | (have hb := HBT.out k h1; omega) | (have hb := HBT.out k h2; omega))))
  have Hx7 := Lib.hid (Hx3.out.mod hmr (by intro h2; (try dsimp only at h2); (try simp only [false_or] at h2); omega))
  have Hx8 := Lib.hid (Hx4.out.trans hmr (by intro k h1 h2; (try dsimp only at h2 ⊢); (try simp only [false_or] at h2 ⊢); omega))
  clear Hx2 Hx3 Hx4
  clear hmr
  clear hm hr hYZ hZ hout hsz hd hpre qwr
  refine QChain.cons rfl fun Z act hYZ hZ hout hsz hd hpre => ?_
  have h0 := hd ⟨0, .data⟩ (by simp) rfl _ rfl
  have h2 := hd ⟨2, .data⟩ (by simp) rfl _ rfl
  have ea4 : act.eval (.tmp 4) = .pointer (some ⟨g, 0, none⟩) := (Option.some.inj (show some (.pointer (some ⟨g, 0, none⟩) : Value) = some (act.eval (.tmp 4)) from h0)).symm
  have ea6 : act.eval (.tmp 6) = .int .i64 x.rp := h2
  refine qc_call (args := #[.pointer (some ⟨g, 0, none⟩), .int .i64 x.rp]) rfl (wanted_none rfl) (by rw [ex_callF rfl Try.func64 (by kernel_rfl) (by kernel_rfl)]; exact congrArg (fun z => Result.ok (Next.enter _ z) _) (by simp only [List.map_toArray, List.map_cons, List.map_nil, ea4, ea6]; try rfl)) (WInt_Q Hx5.out HOK.out.1 (by have := HL.out; simp only [List.length_append] at this ⊢; omega)) ?_
  rintro e u1_2a ⟨rfl, qwr, hm⟩
  have zu1_2a := hm.size
  refine ⟨_, rfl, hm.mono (by intro k hk h; (try dsimp only at h ⊢); (try simp only [false_or, or_false, true_and] at h ⊢); omega), (fun _ => rfl), ?_⟩
  intro u1_2 hr
  have zu1_2 := hr.size
  have Hx9 := Lib.hid ((qwr.widen (R' := (fun k => (u1_0.heap.size ≤ k ∧ k < u1_1a.heap.size) ∨ (u1_1.heap.size ≤ k ∧ k < u1_2a.heap.size))) (by intro k h1; (try unfold New at h1); (try dsimp only at h1 ⊢); (try simp only [false_or] at h1 ⊢); omega) (Nat.le_refl _)).mod hr (by intro k h1 h2; (try dsimp only at h1 h2); (try simp only [false_or] at h1 h2); omega))
  have hmr := hm.two hr
  have Hx10 := Lib.hid (Hx6.out.mod hmr (by intro k h1 h2; (try dsimp only at h1 h2); (try simp only [false_or] at h1 h2); rcases h2 with h2 | h2 <;> (first | omega | (have hb := HBT.out k h1; omega) | (have hb := HBT.out k h2; omega))))
  have Hx11 := Lib.hid (Hx7.out.mod hmr (by intro h2; (try dsimp only at h2); (try simp only [false_or] at h2); omega))
  have Hx12 := Lib.hid (Hx8.out.trans hmr (by intro k h1 h2; (try dsimp only at h2 ⊢); (try simp only [false_or] at h2 ⊢); omega))
  clear Hx6 Hx7 Hx8
  clear hmr
  clear hm hr hYZ hZ hout hsz hd hpre qwr Hx5 ea4 ea6 h0 h2
  refine QChain.cons rfl fun Z act hYZ hZ hout hsz hd hpre => ?_
  have h3 := hd ⟨3, .data⟩ (by simp) rfl _ rfl
  have h5 := hd ⟨5, .data⟩ (by simp) rfl _ rfl
  have ea7 : act.eval (.tmp 7) = .pointer (some ⟨g, 0, none⟩) := (Option.some.inj (show some (.pointer (some ⟨g, 0, none⟩) : Value) = some (act.eval (.tmp 7)) from h3)).symm
  have ea9 : act.eval (.tmp 9) = .int .i64 x.ep := h5
  refine qc_call (args := #[.pointer (some ⟨g, 0, none⟩), .int .i64 x.ep]) rfl (wanted_none rfl) (by rw [ex_callF rfl Try.func64 (by kernel_rfl) (by kernel_rfl)]; exact congrArg (fun z => Result.ok (Next.enter _ z) _) (by simp only [List.map_toArray, List.map_cons, List.map_nil, ea7, ea9]; try rfl)) (WInt_Q Hx9.out HOK.out.2.1 (by have := HL.out; simp only [List.length_append] at this ⊢; omega)) ?_
  rintro e u1_3a ⟨rfl, qwr, hm⟩
  have zu1_3a := hm.size
  refine ⟨_, rfl, hm.mono (by intro k hk h; (try dsimp only at h ⊢); (try simp only [false_or, or_false, true_and] at h ⊢); omega), (fun _ => rfl), ?_⟩
  intro u1_3 hr
  have zu1_3 := hr.size
  have Hx13 := Lib.hid ((qwr.widen (R' := (fun k => (u1_0.heap.size ≤ k ∧ k < u1_1a.heap.size) ∨ (u1_1.heap.size ≤ k ∧ k < u1_2a.heap.size) ∨ (u1_2.heap.size ≤ k ∧ k < u1_3a.heap.size))) (by intro k h1; (try unfold New at h1); (try dsimp only at h1 ⊢); (try simp only [false_or] at h1 ⊢); omega) (Nat.le_refl _)).mod hr (by intro k h1 h2; (try dsimp only at h1 h2); (try simp only [false_or] at h1 h2); omega))
  have hmr := hm.two hr
  have Hx14 := Lib.hid (Hx10.out.mod hmr (by intro k h1 h2; (try dsimp only at h1 h2); (try simp only [false_or] at h1 h2); rcases h2 with (h2 | h2) | h2 <;> (first | omega | (have hb := HBT.out k h1; omega) | (have hb := HBT.out k h2; omega))))
  have Hx15 := Lib.hid (Hx11.out.mod hmr (by intro h2; (try dsimp only at h2); (try simp only [false_or] at h2); omega))
  have Hx16 := Lib.hid (Hx12.out.trans hmr (by intro k h1 h2; (try dsimp only at h2 ⊢); (try simp only [false_or] at h2 ⊢); omega))
  clear Hx10 Hx11 Hx12
  clear hmr
  clear hm hr hYZ hZ hout hsz hd hpre qwr Hx9 ea7 ea9 h3 h5
  refine QChain.cons rfl fun Z act hYZ hZ hout hsz hd hpre => ?_
  have h6 := hd ⟨6, .data⟩ (by simp) rfl _ rfl
  have h8 := hd ⟨8, .data⟩ (by simp) rfl _ rfl
  have ea10 : act.eval (.tmp 10) = .pointer (some ⟨g, 0, none⟩) := (Option.some.inj (show some (.pointer (some ⟨g, 0, none⟩) : Value) = some (act.eval (.tmp 10)) from h6)).symm
  have ea12 : act.eval (.tmp 12) = .int .u64 (x.fl : Nat) := h8
  refine qc_call (args := #[.pointer (some ⟨g, 0, none⟩), .int .u64 (x.fl : Nat)]) rfl (wanted_none rfl) (by rw [ex_callF rfl Try.func67 (by kernel_rfl) (by kernel_rfl)]; exact congrArg (fun z => Result.ok (Next.enter _ z) _) (by simp only [List.map_toArray, List.map_cons, List.map_nil, ea10, ea12]; try rfl)) (WNum_Q Hx13.out HOK.out.2.2.1 (by have := HL.out; simp only [List.length_append] at this ⊢; omega)) ?_
  rintro e u1_4a ⟨rfl, qwr, hm⟩
  have zu1_4a := hm.size
  refine ⟨_, rfl, hm.mono (by intro k hk h; (try dsimp only at h ⊢); (try simp only [false_or, or_false, true_and] at h ⊢); omega), (fun _ => rfl), ?_⟩
  intro u1_4 hr
  have zu1_4 := hr.size
  have Hx17 := Lib.hid ((qwr.widen (R' := (fun k => (u1_0.heap.size ≤ k ∧ k < u1_1a.heap.size) ∨ (u1_1.heap.size ≤ k ∧ k < u1_2a.heap.size) ∨ (u1_2.heap.size ≤ k ∧ k < u1_3a.heap.size) ∨ (u1_3.heap.size ≤ k ∧ k < u1_4a.heap.size))) (by intro k h1; (try unfold New at h1); (try dsimp only at h1 ⊢); (try simp only [false_or] at h1 ⊢); omega) (Nat.le_refl _)).mod hr (by intro k h1 h2; (try dsimp only at h1 h2); (try simp only [false_or] at h1 h2); omega))
  have hmr := hm.two hr
  have Hx18 := Lib.hid (Hx14.out.mod hmr (by intro k h1 h2; (try dsimp only at h1 h2); (try simp only [false_or] at h1 h2); rcases h2 with (h2 | h2 | h2) | h2 <;> (first | omega | (have hb := HBT.out k h1; omega) | (have hb := HBT.out k h2; omega))))
  have Hx19 := Lib.hid (Hx15.out.mod hmr (by intro h2; (try dsimp only at h2); (try simp only [false_or] at h2); omega))
  have Hx20 := Lib.hid (Hx16.out.trans hmr (by intro k h1 h2; (try dsimp only at h2 ⊢); (try simp only [false_or] at h2 ⊢); omega))
  clear Hx14 Hx15 Hx16
  clear hmr
  clear hm hr hYZ hZ hout hsz hd hpre qwr Hx13 ea10 ea12 h6 h8
  refine QChain.nil fun vs hl hzz hrows hne => ?_
  obtain ⟨Z, hYZ, hZb, hV⟩ := hzz
  obtain ⟨v0, vs0, rfl, hl0⟩ := list_cons hl
  obtain ⟨v1, vs1, rfl, hl1⟩ := list_cons hl0
  obtain ⟨v2, vs2, rfl, hl2⟩ := list_cons hl1
  obtain ⟨v3, vs3, rfl, hl3⟩ := list_cons hl2
  obtain ⟨v4, vs4, rfl, hl4⟩ := list_cons hl3
  obtain ⟨v5, vs5, rfl, hl5⟩ := list_cons hl4
  obtain ⟨v6, vs6, rfl, hl6⟩ := list_cons hl5
  obtain ⟨v7, vs7, rfl, hl7⟩ := list_cons hl6
  obtain ⟨v8, vs8, rfl, hl8⟩ := list_cons hl7
  obtain ⟨v9, vs9, rfl, hl9⟩ := list_cons hl8
  obtain ⟨v10, vs10, rfl, hl10⟩ := list_cons hl9
  obtain rfl := list_nil hl10
  clear hl hl0 hl1 hl2 hl3 hl4 hl5 hl6 hl7 hl8 hl9 hl10
  have e0 := Option.some.inj (show some (.pointer (some ⟨g, 0, none⟩)) = some v0 from hV 0 _ rfl)
  subst e0
  have e3 := Option.some.inj (show some (.pointer (some ⟨g, 0, none⟩)) = some v3 from hV 3 _ rfl)
  subst e3
  have e6 := Option.some.inj (show some (.pointer (some ⟨g, 0, none⟩)) = some v6 from hV 6 _ rfl)
  subst e6
  have e9 := Option.some.inj (show some (.pointer (some ⟨g, 0, none⟩)) = some v9 from hV 9 _ rfl)
  subst e9
  have e10 := Option.some.inj (show some (.pointer (some ⟨g, 0, none⟩)) = some v10 from hV 10 _ rfl)
  subst e10
  have ha0 := HA0.out
  subst ha0
  clear HA0 hV hYZ hZb hsz0 hrows hne oe1
  simp only [putAll, Act.put, List.setIfInBounds_toArray, List.set_cons_zero, List.set_cons_succ]
  go_upto_region 2 with (fail)
  generalize ha0 : Act.mk _ _ = a0
  have oe1 : a0.eval (.tmp 1) = .pointer (some ⟨w.heap.size, 0, none⟩) := by rw [← ha0]; rfl
  have oe3 : a0.eval (.tmp 3) = .pointer (some ⟨g, 0, none⟩) := by rw [← ha0]; rfl
  have hsz0 : a0.tmps.size = 20 := by rw [← ha0]; rfl
  have HA0 := Lib.hid ha0
  clear ha0
  refine wp_region_Q 20 hsz0 (by kernel_rfl) (by kernel_rfl) [14, 15, 16, 17] (by kernel_rfl) (by decide) (fun k => (u1_0.heap.size ≤ k ∧ k < u1_1a.heap.size) ∨ (u1_1.heap.size ≤ k ∧ k < u1_2a.heap.size) ∨ (u1_2.heap.size ≤ k ∧ k < u1_3a.heap.size) ∨ (u1_3.heap.size ≤ k ∧ k < u1_4a.heap.size)) (fun k j => (k = 0 ∧ ((u1_0.heap.size ≤ j ∧ j < u1_1a.heap.size) ∨ (u1_1.heap.size ≤ j ∧ j < u1_2a.heap.size) ∨ (u1_2.heap.size ≤ j ∧ j < u1_3a.heap.size) ∨ (u1_3.heap.size ≤ j ∧ j < u1_4a.heap.size)))) (by intro k j h; (try dsimp only at h ⊢); omega) [qi (.pointer (some ⟨g, 0, none⟩)), qi (.pointer (some ⟨w.heap.size, 3, none⟩)), qi (v_l), qi (.tuple #[])] ⟨qi_stable, qi_stable, qi_stable, qi_stable, trivial⟩ [3] (by kernel_rfl) (by decide) (by kernel_rfl) [] (by kernel_rfl) (by intro r hr; cases hr) (by intro r hr; cases hr) (by intro r hr; cases hr) ⟨?_, ?_, ?_, ?_, trivial⟩ ?_
  · refine stepq_env rfl rfl rfl fun Z tr act w' hZ hm hm0 hout hsz hd hub hpre => ?_
    refine qe_run rfl (wanted_none rfl) (ex_move rfl ((hout 3 (by decide)).trans oe3)) QE.refl ?_
    rfl
  · refine stepq_env rfl rfl rfl fun Z tr act w' hZ hm hm0 hout hsz hd hub hpre => ?_
    refine qe_run rfl (wanted_none rfl) (ex_field rfl Try.underlying55 rfl (by kernel_rfl) ((hout 1 (by decide)).trans oe1)) QE.refl ?_
    rfl
  · refine stepq_env rfl rfl rfl fun Z tr act w' hZ hm hm0 hout hsz hd hub hpre => ?_
    have h1 := hd ⟨1, .data⟩ (by simp) rfl _ rfl
    refine qe_run rfl (wanted_none rfl) (ex_load1 rfl Try.underlying53 rfl h1 (Cs.lit1 (Hx19.out.mod hm (by intro h2; (try dsimp only at h2); (try simp only [false_or] at h2); omega)) rfl)) QE.refl ?_
    rfl
  · exact stepq_chain rfl
  intro u2_0 hr
  have zu2_0 := hr.size
  have Hx21 := Lib.hid (Hx18.out.mod hr (by intro k h1 h2; (try dsimp only at h1 h2); (try simp only [false_or] at h1 h2); (first | omega | (have hb := HBT.out k h1; omega) | (have hb := HBT.out k h2; omega))))
  have Hx22 := Lib.hid (Hx19.out.mod hr (by intro h2; (try dsimp only at h2); (try simp only [false_or] at h2); omega))
  have Hx23 := Lib.hid (Hx20.out.trans hr (by intro k h1 h2; (try dsimp only at h2 ⊢); (try simp only [false_or] at h2 ⊢); omega))
  have Hx24 := Lib.hid (Hx17.out.mod hr (by intro k h1 h2; (try dsimp only at h1 h2); (try simp only [false_or] at h1 h2); omega))
  clear Hx18 Hx19 Hx20 Hx17
  clear hr
  refine QChain.cons rfl fun Z act hYZ hZ hout hsz hd hpre => ?_
  have h0 := hd ⟨0, .data⟩ (by simp) rfl _ rfl
  have h2 := hd ⟨2, .data⟩ (by simp) rfl _ rfl
  have ea14 : act.eval (.tmp 14) = .pointer (some ⟨g, 0, none⟩) := h0
  have ea16 : act.eval (.tmp 16) = v_l := h2
  refine qc_call (args := #[.pointer (some ⟨g, 0, none⟩), v_l, .func (.func 98) #[] #[]]) rfl (wanted_none rfl) (by rw [ex_callF rfl Try.func105 (by kernel_rfl) (by kernel_rfl)]; exact congrArg (fun z => Result.ok (Next.enter _ z) _) (by simp only [List.map_toArray, List.map_cons, List.map_nil, ea14, ea16]; try rfl)) (PutList_Ce _ _ _ _ _ _ _ Hx24.out (by intro k h1; (try dsimp only at h1); rcases h1 with h1 | h1 | h1 | h1 <;> (first | omega | (have hb := HBT.out k h1; omega))) Hx21.out (by intro k h1; (try dsimp only at h1); (first | omega | (have hb := HBT.out k h1; omega))) (by intro k h1 h2; (try dsimp only at h1 h2); (try simp only [false_or] at h1 h2); rcases h1 with h1 | h1 | h1 | h1 <;> (first | omega | (have hb := HBT.out k h1; omega) | (have hb := HBT.out k h2; omega))) (by have := HL.out; simp only [List.length_append] at this ⊢; omega)) ?_
  rintro e u2_1a ⟨rfl, qwr, hm⟩
  have zu2_1a := hm.size
  refine ⟨_, rfl, hm.mono (by intro k hk h; (try dsimp only at h ⊢); (try simp only [false_or, or_false, true_and] at h ⊢); omega), (fun _ => rfl), ?_⟩
  intro u2_1 hr
  have zu2_1 := hr.size
  have Hx25 := Lib.hid ((qwr.widen (R' := (fun k => (u1_0.heap.size ≤ k ∧ k < u1_1a.heap.size) ∨ (u1_1.heap.size ≤ k ∧ k < u1_2a.heap.size) ∨ (u1_2.heap.size ≤ k ∧ k < u1_3a.heap.size) ∨ (u1_3.heap.size ≤ k ∧ k < u1_4a.heap.size) ∨ (u2_0.heap.size ≤ k ∧ k < u2_1a.heap.size))) (by intro k h1; (try unfold New at h1); (try dsimp only at h1 ⊢); (try simp only [false_or] at h1 ⊢); omega) (Nat.le_refl _)).mod hr (by intro k h1 h2; (try dsimp only at h1 h2); (try simp only [false_or] at h1 h2); omega))
  have hmr := hm.two hr
  have Hx26 := Lib.hid (Hx21.out.mod hmr (by intro k h1 h2; (try dsimp only at h1 h2); (try simp only [false_or] at h1 h2); rcases h2 with (h2 | h2 | h2 | h2) | h2 <;> (first | omega | (have hb := HBT.out k h1; omega) | (have hb := HBT.out k h2; omega))))
  have Hx27 := Lib.hid (Hx22.out.mod hmr (by intro h2; (try dsimp only at h2); (try simp only [false_or] at h2); omega))
  have Hx28 := Lib.hid (Hx23.out.trans hmr (by intro k h1 h2; (try dsimp only at h2 ⊢); (try simp only [false_or] at h2 ⊢); omega))
  clear Hx21 Hx22 Hx23
  clear hmr
  clear hm hr hYZ hZ hout hsz hd hpre qwr Hx24 ea14 ea16 h0 h2
  refine QChain.nil fun vs hl hzz hrows hne => ?_
  obtain ⟨Z, hYZ, hZb, hV⟩ := hzz
  obtain ⟨v0, vs0, rfl, hl0⟩ := list_cons hl
  obtain ⟨v1, vs1, rfl, hl1⟩ := list_cons hl0
  obtain ⟨v2, vs2, rfl, hl2⟩ := list_cons hl1
  obtain ⟨v3, vs3, rfl, hl3⟩ := list_cons hl2
  obtain rfl := list_nil hl3
  clear hl hl0 hl1 hl2 hl3
  obtain rfl : v0 = .pointer (some ⟨g, 0, none⟩) := hV 0 _ rfl
  obtain rfl : v3 = .tuple #[] := hV 3 _ rfl
  have ha0 := HA0.out
  subst ha0
  clear HA0 hV hYZ hZb hsz0 hrows hne oe1 oe3
  simp only [putAll, Act.put, List.setIfInBounds_toArray, List.set_cons_zero, List.set_cons_succ]
  go_upto_region 3 with (fail)
  generalize ha0 : Act.mk _ _ = a0
  have oe3 : a0.eval (.tmp 3) = .pointer (some ⟨g, 0, none⟩) := by rw [← ha0]; rfl
  have hsz0 : a0.tmps.size = 20 := by rw [← ha0]; rfl
  have HA0 := Lib.hid ha0
  clear ha0
  refine wp_region_Q 20 hsz0 (by kernel_rfl) (by kernel_rfl) [18, 19, 2] (by kernel_rfl) (by decide) (fun _ => False) (fun _ _ => False) (fun _ _ h => h) [qi (.pointer (some ⟨g, 0, none⟩)), qv 0, qv 0] ⟨qi_stable, qv_stable, qv_stable, trivial⟩ [1] (by kernel_rfl) (by decide) (by kernel_rfl) [] (by kernel_rfl) (by intro r hr; cases hr) (by intro r hr; cases hr) (by intro r hr; cases hr) ⟨?_, ?_, ?_, trivial⟩ ?_
  · refine stepq_env rfl rfl rfl fun Z tr act w' hZ hm hm0 hout hsz hd hub hpre => ?_
    refine qe_run rfl (wanted_none rfl) (ex_move rfl ((hout 3 (by decide)).trans oe3)) QE.refl ?_
    rfl
  · exact stepq_chain rfl
  · refine stepq_env rfl rfl rfl fun Z tr act w' hZ hm hm0 hout hsz hd hub hpre => ?_
    have h1 := hd ⟨1, .data⟩ (by simp) rfl _ rfl
    exact qe_run rfl (wanted_none rfl) (ex_assign rfl rfl) QE.refl h1
  intro u3_0 hr
  have zu3_0 := hr.size
  have Hx29 := Lib.hid (Hx26.out.mod hr (by intro k h1 h2; (try dsimp only at h1 h2); (try simp only [false_or] at h1 h2); (first | omega | (have hb := HBT.out k h1; omega) | (have hb := HBT.out k h2; omega))))
  have Hx30 := Lib.hid (Hx27.out.mod hr (by intro h2; (try dsimp only at h2); (try simp only [false_or] at h2); omega))
  have Hx31 := Lib.hid (Hx28.out.trans hr (by intro k h1 h2; (try dsimp only at h2 ⊢); (try simp only [false_or] at h2 ⊢); omega))
  have Hx32 := Lib.hid (Hx25.out.mod hr (by intro k h1 h2; (try dsimp only at h1 h2); (try simp only [false_or] at h1 h2); omega))
  clear Hx26 Hx27 Hx28 Hx25
  clear hr
  refine QChain.cons rfl fun Z act hYZ hZ hout hsz hd hpre => ?_
  have h0 := hd ⟨0, .data⟩ (by simp) rfl _ rfl
  have ea18 : act.eval (.tmp 18) = .pointer (some ⟨g, 0, none⟩) := h0
  refine qc_call (args := #[.pointer (some ⟨g, 0, none⟩)]) rfl (wanted_none rfl) (by rw [ex_callF rfl Try.func50 (by kernel_rfl) (by kernel_rfl)]; exact congrArg (fun z => Result.ok (Next.enter _ z) _) (by simp only [List.map_toArray, List.map_cons, List.map_nil, ea18]; try rfl)) (WBytes_Q Hx32.out) ?_
  rintro e u3_1a ⟨vb, rfl, qout, hm⟩
  have zu3_1a := hm.size
  refine ⟨_, rfl, hm.mono (fun _ _ h => h.elim), (fun _ => rfl), ?_⟩
  intro u3_1 hr
  have zu3_1 := hr.size
  have Hx33 := Lib.hid ((qout.widen (R' := (fun k => (u3_0.heap.size ≤ k ∧ k < u3_1a.heap.size))) (by intro k h1; (try unfold New at h1); (try dsimp only at h1 ⊢); (try simp only [false_or] at h1 ⊢); omega) (Nat.le_refl _)).mod hr (by intro k h1 h2; (try dsimp only at h1 h2); (try simp only [false_or] at h1 h2); omega))
  have hmr := Mod.after hm hr
  have Hx34 := Lib.hid (Hx29.out.mod hmr (by intro k h1 h2; (try dsimp only at h1 h2); (try simp only [false_or] at h1 h2); (first | omega | (have hb := HBT.out k h1; omega) | (have hb := HBT.out k h2; omega))))
  have Hx35 := Lib.hid (Hx30.out.mod hmr (by intro h2; (try dsimp only at h2); (try simp only [false_or] at h2); omega))
  have Hx36 := Lib.hid (Hx31.out.trans hmr (by intro k h1 h2; (try dsimp only at h2 ⊢); (try simp only [false_or] at h2 ⊢); omega))
  have Hx37 := Lib.hid (Hx32.out.mod hmr (by intro k h1 h2; (try dsimp only at h1 h2); (try simp only [false_or] at h1 h2); omega))
  clear Hx29 Hx30 Hx31 Hx32
  clear hmr
  clear hm hr hYZ hZ hout hsz hd hpre qout ea18 h0
  refine QChain.nil fun vs hl hzz hrows hne => ?_
  obtain ⟨Z, hYZ, hZb, hV⟩ := hzz
  obtain ⟨v0, vs0, rfl, hl0⟩ := list_cons hl
  obtain ⟨v1, vs1, rfl, hl1⟩ := list_cons hl0
  obtain ⟨v2, vs2, rfl, hl2⟩ := list_cons hl1
  obtain rfl := list_nil hl2
  clear hl hl0 hl1 hl2
  obtain rfl : v0 = .pointer (some ⟨g, 0, none⟩) := hV 0 _ rfl
  have e1 := Option.some.inj (show some (vb) = some v1 from hV 1 _ rfl)
  subst e1
  have e2 := Option.some.inj (show some (vb) = some v2 from hV 2 _ rfl)
  subst e2
  have ha0 := HA0.out
  subst ha0
  clear HA0 hV hYZ hZb hsz0 hrows hne oe3
  simp only [putAll, Act.put, List.setIfInBounds_toArray, List.set_cons_zero, List.set_cons_succ]
  go_wp2
  go_ret
  have hq := (Hx33.out.widen (R' := (fun k => New w u3_1 k)) (by intro k h1; (try dsimp only at h1 ⊢); (try simp only [false_or] at h1 ⊢); unfold New; omega) (Nat.le_refl _))
  simp only [List.append_assoc, List.nil_append] at hq
  exact ⟨vb, rfl, by simpa only [promT, wProm, List.append_assoc] using hq, Hx36.out⟩
set_option maxHeartbeats 4000000 in
theorem BatchHash_Q : Hashes BaR 42 baB := by
  intro R2 cs x w hx hB2 hl
  obtain ⟨v_ps, v_os, v_ts, rfl, hok, hs0, hs1, hs2⟩ := hx
  have HS0 := Lib.hid hs0
  clear hs0
  have HS1 := Lib.hid hs1
  clear hs1
  have HS2 := Lib.hid hs2
  clear hs2
  have HBT := Lib.hid hB2
  have HOK := Lib.hid hok
  have HL := Lib.hid hl
  clear hB2 hl hok
  have HLN := Lib.hid (show ([] ++ baB x).length ≤ 900000 by rw [List.nil_append]; exact HL.out)
  go_enter Try.func42, Try.ntmps42
  go_upto_region 1 with (fail)
  obtain ⟨w1, hw1⟩ : ∃ zz, zz = ((w.alloc (.cells (x.cells v_ps v_os v_ts : List Value).toArray 60)).alloc (.cells #[.int .u8 0, .int .u8 0, .int .u8 0, .int .u8 0, .int .u8 0, .int .u8 0, .int .u8 0, .int .u8 0, .int .u8 0, .int .u8 0, .int .u8 0, .int .u8 0, .int .u8 0, .int .u8 0, .int .u8 0, .int .u8 0, .int .u8 0, .int .u8 0, .int .u8 0, .int .u8 0, .int .u8 0, .int .u8 0, .int .u8 0, .int .u8 0, .int .u8 0, .int .u8 0, .int .u8 0, .int .u8 0, .int .u8 0, .int .u8 0, .int .u8 0, .int .u8 0] 25)) := ⟨_, rfl⟩
  change Code.wp _ _ _ _ ((w.alloc (.cells (x.cells v_ps v_os v_ts : List Value).toArray 60)).alloc (.cells #[.int .u8 0, .int .u8 0, .int .u8 0, .int .u8 0, .int .u8 0, .int .u8 0, .int .u8 0, .int .u8 0, .int .u8 0, .int .u8 0, .int .u8 0, .int .u8 0, .int .u8 0, .int .u8 0, .int .u8 0, .int .u8 0, .int .u8 0, .int .u8 0, .int .u8 0, .int .u8 0, .int .u8 0, .int .u8 0, .int .u8 0, .int .u8 0, .int .u8 0, .int .u8 0, .int .u8 0, .int .u8 0, .int .u8 0, .int .u8 0, .int .u8 0, .int .u8 0] 25))
  rw [← hw1]
  have HB1 := Lib.hid (show Cs w1 (w.heap.size) (x.cells v_ps v_os v_ts : List Value).toArray 60 by rw [hw1]; exact (Cs.new _ _ _).alloc _)
  have HB2 := Lib.hid (show Cs w1 (w.heap.size + 1) #[.int .u8 0, .int .u8 0, .int .u8 0, .int .u8 0, .int .u8 0, .int .u8 0, .int .u8 0, .int .u8 0, .int .u8 0, .int .u8 0, .int .u8 0, .int .u8 0, .int .u8 0, .int .u8 0, .int .u8 0, .int .u8 0, .int .u8 0, .int .u8 0, .int .u8 0, .int .u8 0, .int .u8 0, .int .u8 0, .int .u8 0, .int .u8 0, .int .u8 0, .int .u8 0, .int .u8 0, .int .u8 0, .int .u8 0, .int .u8 0, .int .u8 0, .int .u8 0] 25 by rw [hw1]; exact Cs_newN _ _ _ (by simp))
  have hm : Mod (fun _ => False) w w1 := by rw [hw1]; exact ((Mod.refl _ _).alloc _).alloc _
  have HM0 := Lib.hid (show Mod (fun _ => False) w w1 from hm.mono (fun _ _ h => h.elim))
  have hs1 : w1.heap.size = w.heap.size + 2 := by rw [hw1]; simp
  have Hx1 := Lib.hid (HS0.out.mod hm (fun _ _ h => h))
  clear HS0
  have Hx2 := Lib.hid (HS1.out.mod hm (fun _ _ h => h))
  clear HS1
  have Hx3 := Lib.hid (HS2.out.mod hm (fun _ _ h => h))
  clear HS2
  clear hw1 hm
  go_upto_region 1 with (fail)
  generalize ha0 : Act.mk _ _ = a0
  have hsz0 : a0.tmps.size = 11 := by rw [← ha0]; rfl
  have HA0 := Lib.hid ha0
  clear ha0
  refine wp_region_Q 11 hsz0 (by kernel_rfl) (by kernel_rfl) [4, 3] (by kernel_rfl) (by decide) (fun _ => False) (fun _ _ => False) (fun _ _ h => h) [qv 0, qv 0] ⟨qv_stable, qv_stable, trivial⟩ [0] (by kernel_rfl) (by decide) (by kernel_rfl) [] (by kernel_rfl) (by intro r hr; cases hr) (by intro r hr; cases hr) (by intro r hr; cases hr) ⟨?_, ?_, trivial⟩ ?_
  · exact stepq_chain rfl
  · refine stepq_env rfl rfl rfl fun Z tr act w' hZ hm hm0 hout hsz hd hub hpre => ?_
    have h0 := hd ⟨0, .data⟩ (by simp) rfl _ rfl
    exact qe_run rfl (wanted_none rfl) (ex_assign rfl rfl) QE.refl h0
  intro u1_0 hr
  have zu1_0 := hr.size
  have Hx4 := Lib.hid (Hx1.out.mod hr (by intro k h1 h2; (try dsimp only at h1 h2); (try simp only [false_or] at h1 h2); (first | omega | (have hb := HBT.out k h1; omega) | (have hb := HBT.out k h2; omega))))
  have Hx5 := Lib.hid (Hx2.out.mod hr (by intro k h1 h2; (try dsimp only at h1 h2); (try simp only [false_or] at h1 h2); (first | omega | (have hb := HBT.out k h1; omega) | (have hb := HBT.out k h2; omega))))
  have Hx6 := Lib.hid (Hx3.out.mod hr (by intro k h1 h2; (try dsimp only at h1 h2); (try simp only [false_or] at h1 h2); (first | omega | (have hb := HBT.out k h1; omega) | (have hb := HBT.out k h2; omega))))
  have Hx7 := Lib.hid (HB1.out.mod hr (by intro h2; (try dsimp only at h2); (try simp only [false_or] at h2); omega))
  have Hx8 := Lib.hid (HB2.out.mod hr (by intro h2; (try dsimp only at h2); (try simp only [false_or] at h2); omega))
  have Hx9 := Lib.hid (HM0.out.trans hr (by intro k h1 h2; (try dsimp only at h2 ⊢); (try simp only [false_or] at h2 ⊢); omega))
  clear Hx1 Hx2 Hx3 HB1 HB2 HM0
  clear hr
  refine QChain.cons rfl fun Z act hYZ hZ hout hsz hd hpre => ?_
  refine qc_call (args := #[]) rfl (wanted_none rfl) (by rw [ex_callF rfl Try.func44 (by kernel_rfl) (by kernel_rfl)]; simp) (NewWriter_Q _) ?_
  rintro e u1_1a ⟨g, rfl, qwr, hm⟩
  have zu1_1a := hm.size
  refine ⟨_, rfl, hm.mono (fun _ _ h => h.elim), (fun _ => rfl), ?_⟩
  intro u1_1 hr
  have zu1_1 := hr.size
  have Hx10 := Lib.hid ((qwr.widen (R' := (fun k => (u1_0.heap.size ≤ k ∧ k < u1_1a.heap.size))) (by intro k h1; (try unfold New at h1); (try dsimp only at h1 ⊢); (try simp only [false_or] at h1 ⊢); omega) (Nat.le_refl _)).mod hr (by intro k h1 h2; (try dsimp only at h1 h2); (try simp only [false_or] at h1 h2); omega))
  have hmr := Mod.after hm hr
  have Hx11 := Lib.hid (Hx4.out.mod hmr (by intro k h1 h2; (try dsimp only at h1 h2); (try simp only [false_or] at h1 h2); (first | omega | (have hb := HBT.out k h1; omega) | (have hb := HBT.out k h2; omega))))
  have Hx12 := Lib.hid (Hx5.out.mod hmr (by intro k h1 h2; (try dsimp only at h1 h2); (try simp only [false_or] at h1 h2); (first | omega | (have hb := HBT.out k h1; omega) | (have hb := HBT.out k h2; omega))))
  have Hx13 := Lib.hid (Hx6.out.mod hmr (by intro k h1 h2; (try dsimp only at h1 h2); (try simp only [false_or] at h1 h2); (first | omega | (have hb := HBT.out k h1; omega) | (have hb := HBT.out k h2; omega))))
  have Hx14 := Lib.hid (Hx7.out.mod hmr (by intro h2; (try dsimp only at h2); (try simp only [false_or] at h2); omega))
  have Hx15 := Lib.hid (Hx8.out.mod hmr (by intro h2; (try dsimp only at h2); (try simp only [false_or] at h2); omega))
  have Hx16 := Lib.hid (Hx9.out.trans hmr (by intro k h1 h2; (try dsimp only at h2 ⊢); (try simp only [false_or] at h2 ⊢); omega))
  clear Hx4 Hx5 Hx6 Hx7 Hx8 Hx9
  clear hmr
  clear hm hr hYZ hZ hout hsz hd hpre qwr
  refine QChain.nil fun vs hl hzz hrows hne => ?_
  obtain ⟨Z, hYZ, hZb, hV⟩ := hzz
  obtain ⟨v0, vs0, rfl, hl0⟩ := list_cons hl
  obtain ⟨v1, vs1, rfl, hl1⟩ := list_cons hl0
  obtain rfl := list_nil hl1
  clear hl hl0 hl1
  have e0 := Option.some.inj (show some (.pointer (some ⟨g, 0, none⟩)) = some v0 from hV 0 _ rfl)
  subst e0
  have e1 := Option.some.inj (show some (.pointer (some ⟨g, 0, none⟩)) = some v1 from hV 1 _ rfl)
  subst e1
  have ha0 := HA0.out
  subst ha0
  clear HA0 hV hYZ hZb hsz0 hrows hne
  simp only [putAll, Act.put, List.setIfInBounds_toArray, List.set_cons_zero, List.set_cons_succ]
  go_upto_region 2 with (fail)
  generalize ha0 : Act.mk _ _ = a0
  have oe1 : a0.eval (.tmp 1) = .pointer (some ⟨w.heap.size, 0, none⟩) := by rw [← ha0]; rfl
  have oe3 : a0.eval (.tmp 3) = .pointer (some ⟨g, 0, none⟩) := by rw [← ha0]; rfl
  have hsz0 : a0.tmps.size = 11 := by rw [← ha0]; rfl
  have HA0 := Lib.hid ha0
  clear ha0
  refine wp_region_Q 11 hsz0 (by kernel_rfl) (by kernel_rfl) [5, 6, 7] (by kernel_rfl) (by decide) (fun k => (u1_0.heap.size ≤ k ∧ k < u1_1a.heap.size)) (fun k j => (k = 0 ∧ ((u1_0.heap.size ≤ j ∧ j < u1_1a.heap.size)))) (by intro k j h; (try dsimp only at h ⊢); omega) [qi (.pointer (some ⟨g, 0, none⟩)), qi (.agg (x.cells v_ps v_os v_ts).toArray), qi (.tuple #[])] ⟨qi_stable, qi_stable, qi_stable, trivial⟩ [2] (by kernel_rfl) (by decide) (by kernel_rfl) [] (by kernel_rfl) (by intro r hr; cases hr) (by intro r hr; cases hr) (by intro r hr; cases hr) ⟨?_, ?_, ?_, trivial⟩ ?_
  · refine stepq_env rfl rfl rfl fun Z tr act w' hZ hm hm0 hout hsz hd hub hpre => ?_
    refine qe_run rfl (wanted_none rfl) (ex_move rfl ((hout 3 (by decide)).trans oe3)) QE.refl ?_
    rfl
  · refine stepq_env rfl rfl rfl fun Z tr act w' hZ hm hm0 hout hsz hd hub hpre => ?_
    refine qe_run rfl (wanted_none rfl) (ex_loadA rfl Try.underlying60 rfl (off := 0) (cs := x.cells v_ps v_os v_ts) (by kernel_rfl) ((hout 1 (by decide)).trans oe1) (Cs.whole (Hx14.out.mod hm (by intro h2; (try dsimp only at h2); (try simp only [false_or] at h2); omega)))) QE.refl ?_
    rfl
  · exact stepq_chain rfl
  intro u2_0 hr
  have zu2_0 := hr.size
  have Hx17 := Lib.hid (Hx11.out.mod hr (by intro k h1 h2; (try dsimp only at h1 h2); (try simp only [false_or] at h1 h2); (first | omega | (have hb := HBT.out k h1; omega) | (have hb := HBT.out k h2; omega))))
  have Hx18 := Lib.hid (Hx12.out.mod hr (by intro k h1 h2; (try dsimp only at h1 h2); (try simp only [false_or] at h1 h2); (first | omega | (have hb := HBT.out k h1; omega) | (have hb := HBT.out k h2; omega))))
  have Hx19 := Lib.hid (Hx13.out.mod hr (by intro k h1 h2; (try dsimp only at h1 h2); (try simp only [false_or] at h1 h2); (first | omega | (have hb := HBT.out k h1; omega) | (have hb := HBT.out k h2; omega))))
  have Hx20 := Lib.hid (Hx14.out.mod hr (by intro h2; (try dsimp only at h2); (try simp only [false_or] at h2); omega))
  have Hx21 := Lib.hid (Hx15.out.mod hr (by intro h2; (try dsimp only at h2); (try simp only [false_or] at h2); omega))
  have Hx22 := Lib.hid (Hx16.out.trans hr (by intro k h1 h2; (try dsimp only at h2 ⊢); (try simp only [false_or] at h2 ⊢); omega))
  have Hx23 := Lib.hid (Hx10.out.mod hr (by intro k h1 h2; (try dsimp only at h1 h2); (try simp only [false_or] at h1 h2); omega))
  clear Hx11 Hx12 Hx13 Hx14 Hx15 Hx16 Hx10
  clear hr
  refine QChain.cons rfl fun Z act hYZ hZ hout hsz hd hpre => ?_
  have h0 := hd ⟨0, .data⟩ (by simp) rfl _ rfl
  have h1 := hd ⟨1, .data⟩ (by simp) rfl _ rfl
  have ea5 : act.eval (.tmp 5) = .pointer (some ⟨g, 0, none⟩) := h0
  have ea6 : act.eval (.tmp 6) = .agg (x.cells v_ps v_os v_ts).toArray := h1
  refine qc_call (args := #[.pointer (some ⟨g, 0, none⟩), .agg (x.cells v_ps v_os v_ts).toArray]) rfl (wanted_none rfl) (by rw [ex_callF rfl Try.func95 (by kernel_rfl) (by kernel_rfl)]; exact congrArg (fun z => Result.ok (Next.enter _ z) _) (by simp only [List.map_toArray, List.map_cons, List.map_nil, ea5, ea6]; try rfl)) (PutBa_Q _ _ _ _ _ _ _ Hx23.out (by intro k h1; (try dsimp only at h1); (first | omega | (have hb := HBT.out k h1; omega))) ⟨_, _, _, rfl, HOK.out, Hx17.out, Hx18.out, Hx19.out⟩ (by intro k h1; (try dsimp only at h1); (first | omega | (have hb := HBT.out k h1; omega))) (by intro k h1 h2; (try dsimp only at h1 h2); (try simp only [false_or] at h1 h2); (first | omega | (have hb := HBT.out k h1; omega) | (have hb := HBT.out k h2; omega))) HLN.out) ?_
  rintro e u2_1a ⟨rfl, qwr, hm⟩
  have zu2_1a := hm.size
  refine ⟨_, rfl, hm.mono (by intro k hk h; (try dsimp only at h ⊢); (try simp only [false_or, or_false, true_and] at h ⊢); omega), (fun _ => rfl), ?_⟩
  intro u2_1 hr
  have zu2_1 := hr.size
  have Hx24 := Lib.hid ((qwr.widen (R' := (fun k => (u1_0.heap.size ≤ k ∧ k < u1_1a.heap.size) ∨ (u2_0.heap.size ≤ k ∧ k < u2_1a.heap.size))) (by intro k h1; (try unfold New at h1); (try dsimp only at h1 ⊢); (try simp only [false_or] at h1 ⊢); omega) (Nat.le_refl _)).mod hr (by intro k h1 h2; (try dsimp only at h1 h2); (try simp only [false_or] at h1 h2); omega))
  have hmr := hm.two hr
  have Hx25 := Lib.hid (Hx17.out.mod hmr (by intro k h1 h2; (try dsimp only at h1 h2); (try simp only [false_or] at h1 h2); rcases h2 with h2 | h2 <;> (first | omega | (have hb := HBT.out k h1; omega) | (have hb := HBT.out k h2; omega))))
  have Hx26 := Lib.hid (Hx18.out.mod hmr (by intro k h1 h2; (try dsimp only at h1 h2); (try simp only [false_or] at h1 h2); rcases h2 with h2 | h2 <;> (first | omega | (have hb := HBT.out k h1; omega) | (have hb := HBT.out k h2; omega))))
  have Hx27 := Lib.hid (Hx19.out.mod hmr (by intro k h1 h2; (try dsimp only at h1 h2); (try simp only [false_or] at h1 h2); rcases h2 with h2 | h2 <;> (first | omega | (have hb := HBT.out k h1; omega) | (have hb := HBT.out k h2; omega))))
  have Hx28 := Lib.hid (Hx20.out.mod hmr (by intro h2; (try dsimp only at h2); (try simp only [false_or] at h2); omega))
  have Hx29 := Lib.hid (Hx21.out.mod hmr (by intro h2; (try dsimp only at h2); (try simp only [false_or] at h2); omega))
  have Hx30 := Lib.hid (Hx22.out.trans hmr (by intro k h1 h2; (try dsimp only at h2 ⊢); (try simp only [false_or] at h2 ⊢); omega))
  clear Hx17 Hx18 Hx19 Hx20 Hx21 Hx22
  clear hmr
  clear hm hr hYZ hZ hout hsz hd hpre qwr Hx23 ea5 ea6 h0 h1
  refine QChain.nil fun vs hl hzz hrows hne => ?_
  obtain ⟨Z, hYZ, hZb, hV⟩ := hzz
  obtain ⟨v0, vs0, rfl, hl0⟩ := list_cons hl
  obtain ⟨v1, vs1, rfl, hl1⟩ := list_cons hl0
  obtain ⟨v2, vs2, rfl, hl2⟩ := list_cons hl1
  obtain rfl := list_nil hl2
  clear hl hl0 hl1 hl2
  obtain rfl : v0 = .pointer (some ⟨g, 0, none⟩) := hV 0 _ rfl
  obtain rfl : v2 = .tuple #[] := hV 2 _ rfl
  have ha0 := HA0.out
  subst ha0
  clear HA0 hV hYZ hZb hsz0 hrows hne oe1 oe3
  simp only [putAll, Act.put, List.setIfInBounds_toArray, List.set_cons_zero, List.set_cons_succ]
  go_upto_region 3 with (fail)
  generalize ha0 : Act.mk _ _ = a0
  have oe2 : a0.eval (.tmp 2) = .pointer (some ⟨w.heap.size + 1, 0, none⟩) := by rw [← ha0]; rfl
  have oe3 : a0.eval (.tmp 3) = .pointer (some ⟨g, 0, none⟩) := by rw [← ha0]; rfl
  have hsz0 : a0.tmps.size = 11 := by rw [← ha0]; rfl
  have HA0 := Lib.hid ha0
  clear ha0
  refine wp_region_Q 11 hsz0 (by kernel_rfl) (by kernel_rfl) [8, 9, 10, 14] (by kernel_rfl) (by decide) (fun k => (k = w.heap.size + 1)) (fun k j => (k = 2 ∧ ((j = w.heap.size + 1)))) (by intro k j h; (try dsimp only at h ⊢); omega) [qi (.pointer (some ⟨g, 0, none⟩)), qv 0, qi (hv (shaF ([] ++ baB x))), qv 2] ⟨qi_stable, qv_stable, qi_stable, qv_stable, trivial⟩ [1, 2, 3] (by kernel_rfl) (by decide) (by kernel_rfl) [] (by kernel_rfl) (by intro r hr; cases hr) (by intro r hr; cases hr) (by intro r hr; cases hr) ⟨?_, ?_, ?_, ?_, trivial⟩ ?_
  · refine stepq_env rfl rfl rfl fun Z tr act w' hZ hm hm0 hout hsz hd hub hpre => ?_
    refine qe_run rfl (wanted_none rfl) (ex_move rfl ((hout 3 (by decide)).trans oe3)) QE.refl ?_
    rfl
  · exact stepq_chain rfl
  · exact stepq_chain rfl
  · exact stepq_chain rfl
  intro u3_0 hr
  have zu3_0 := hr.size
  have Hx31 := Lib.hid (Hx25.out.mod hr (by intro k h1 h2; (try dsimp only at h1 h2); (try simp only [false_or] at h1 h2); (first | omega | (have hb := HBT.out k h1; omega) | (have hb := HBT.out k h2; omega))))
  have Hx32 := Lib.hid (Hx26.out.mod hr (by intro k h1 h2; (try dsimp only at h1 h2); (try simp only [false_or] at h1 h2); (first | omega | (have hb := HBT.out k h1; omega) | (have hb := HBT.out k h2; omega))))
  have Hx33 := Lib.hid (Hx27.out.mod hr (by intro k h1 h2; (try dsimp only at h1 h2); (try simp only [false_or] at h1 h2); (first | omega | (have hb := HBT.out k h1; omega) | (have hb := HBT.out k h2; omega))))
  have Hx34 := Lib.hid (Hx28.out.mod hr (by intro h2; (try dsimp only at h2); (try simp only [false_or] at h2); omega))
  have Hx35 := Lib.hid (Hx29.out.mod hr (by intro h2; (try dsimp only at h2); (try simp only [false_or] at h2); omega))
  have Hx36 := Lib.hid (Hx30.out.trans hr (by intro k h1 h2; (try dsimp only at h2 ⊢); (try simp only [false_or] at h2 ⊢); omega))
  have Hx37 := Lib.hid (Hx24.out.mod hr (by intro k h1 h2; (try dsimp only at h1 h2); (try simp only [false_or] at h1 h2); omega))
  clear Hx25 Hx26 Hx27 Hx28 Hx29 Hx30 Hx24
  clear hr
  refine QChain.cons rfl fun Z act hYZ hZ hout hsz hd hpre => ?_
  have h0 := hd ⟨0, .data⟩ (by simp) rfl _ rfl
  have ea8 : act.eval (.tmp 8) = .pointer (some ⟨g, 0, none⟩) := h0
  refine qc_call (args := #[.pointer (some ⟨g, 0, none⟩)]) rfl (wanted_none rfl) (by rw [ex_callF rfl Try.func50 (by kernel_rfl) (by kernel_rfl)]; exact congrArg (fun z => Result.ok (Next.enter _ z) _) (by simp only [List.map_toArray, List.map_cons, List.map_nil, ea8]; try rfl)) (WBytes_Q Hx37.out) ?_
  rintro e u3_1a ⟨vb, rfl, qout, hm⟩
  have zu3_1a := hm.size
  refine ⟨_, rfl, hm.mono (fun _ _ h => h.elim), (fun _ => rfl), ?_⟩
  intro u3_1 hr
  have zu3_1 := hr.size
  have Hx38 := Lib.hid ((qout.widen (R' := (fun k => (u3_0.heap.size ≤ k ∧ k < u3_1a.heap.size))) (by intro k h1; (try unfold New at h1); (try dsimp only at h1 ⊢); (try simp only [false_or] at h1 ⊢); omega) (Nat.le_refl _)).mod hr (by intro k h1 h2; (try dsimp only at h1 h2); (try simp only [false_or] at h1 h2); omega))
  have hmr := Mod.after hm hr
  have Hx39 := Lib.hid (Hx31.out.mod hmr (by intro k h1 h2; (try dsimp only at h1 h2); (try simp only [false_or] at h1 h2); (first | omega | (have hb := HBT.out k h1; omega) | (have hb := HBT.out k h2; omega))))
  have Hx40 := Lib.hid (Hx32.out.mod hmr (by intro k h1 h2; (try dsimp only at h1 h2); (try simp only [false_or] at h1 h2); (first | omega | (have hb := HBT.out k h1; omega) | (have hb := HBT.out k h2; omega))))
  have Hx41 := Lib.hid (Hx33.out.mod hmr (by intro k h1 h2; (try dsimp only at h1 h2); (try simp only [false_or] at h1 h2); (first | omega | (have hb := HBT.out k h1; omega) | (have hb := HBT.out k h2; omega))))
  have Hx42 := Lib.hid (Hx34.out.mod hmr (by intro h2; (try dsimp only at h2); (try simp only [false_or] at h2); omega))
  have Hx43 := Lib.hid (Hx35.out.mod hmr (by intro h2; (try dsimp only at h2); (try simp only [false_or] at h2); omega))
  have Hx44 := Lib.hid (Hx36.out.trans hmr (by intro k h1 h2; (try dsimp only at h2 ⊢); (try simp only [false_or] at h2 ⊢); omega))
  have Hx45 := Lib.hid (Hx37.out.mod hmr (by intro k h1 h2; (try dsimp only at h1 h2); (try simp only [false_or] at h1 h2); omega))
  clear Hx31 Hx32 Hx33 Hx34 Hx35 Hx36 Hx37
  clear hmr
  clear hm hr hYZ hZ hout hsz hd hpre qout ea8 h0
  refine QChain.cons rfl fun Z act hYZ hZ hout hsz hd hpre => ?_
  have h1 := hd ⟨1, .data⟩ (by simp) rfl _ rfl
  have ea9 : act.eval (.tmp 9) = vb := (Option.some.inj (show some (vb : Value) = some (act.eval (.tmp 9)) from h1)).symm
  refine qc_call (args := #[vb]) rfl (wanted_none rfl) (by rw [ex_callF rfl Try.func96 (by kernel_rfl) (by kernel_rfl)]; exact congrArg (fun z => Result.ok (Next.enter _ z) _) (by simp only [List.map_toArray, List.map_cons, List.map_nil, ea9]; try rfl)) (Sum_any vb ([] ++ baB x) _ Hx38.out.rd.1 HLN.out) ?_
  rintro e u3_2a ⟨rfl, hm⟩
  have zu3_2a := hm.size
  refine ⟨_, rfl, hm.mono (fun _ _ h => h.elim), (fun _ => rfl), ?_⟩
  intro u3_2 hr
  have zu3_2 := hr.size
  have hmr := Mod.after hm hr
  have Hx46 := Lib.hid (Hx39.out.mod hmr (by intro k h1 h2; (try dsimp only at h1 h2); (try simp only [false_or] at h1 h2); (first | omega | (have hb := HBT.out k h1; omega) | (have hb := HBT.out k h2; omega))))
  have Hx47 := Lib.hid (Hx40.out.mod hmr (by intro k h1 h2; (try dsimp only at h1 h2); (try simp only [false_or] at h1 h2); (first | omega | (have hb := HBT.out k h1; omega) | (have hb := HBT.out k h2; omega))))
  have Hx48 := Lib.hid (Hx41.out.mod hmr (by intro k h1 h2; (try dsimp only at h1 h2); (try simp only [false_or] at h1 h2); (first | omega | (have hb := HBT.out k h1; omega) | (have hb := HBT.out k h2; omega))))
  have Hx49 := Lib.hid (Hx42.out.mod hmr (by intro h2; (try dsimp only at h2); (try simp only [false_or] at h2); omega))
  have Hx50 := Lib.hid (Hx43.out.mod hmr (by intro h2; (try dsimp only at h2); (try simp only [false_or] at h2); omega))
  have Hx51 := Lib.hid (Hx44.out.trans hmr (by intro k h1 h2; (try dsimp only at h2 ⊢); (try simp only [false_or] at h2 ⊢); omega))
  have Hx52 := Lib.hid (Hx45.out.mod hmr (by intro k h1 h2; (try dsimp only at h1 h2); (try simp only [false_or] at h1 h2); omega))
  have Hx53 := Lib.hid (Hx38.out.mod hmr (by intro k h1 h2; (try dsimp only at h1 h2); (try simp only [false_or] at h1 h2); omega))
  clear Hx39 Hx40 Hx41 Hx42 Hx43 Hx44 Hx45 Hx38
  clear hmr
  clear hm hr hYZ hZ hout hsz hd hpre ea9 h1
  refine QChain.cons rfl fun Z act hYZ hZ hout hsz hd hpre => ?_
  have h2 := hd ⟨2, .data⟩ (by simp) rfl _ rfl
  refine qc_store rfl (wanted_none rfl) rfl Hx50.out (off := 0) (vs := (shaF ([] ++ baB x)).map bv) (by rw [List.length_map, shaF_len]; exact size_hash) (ints_oneCell .u8 _) (by rw [List.length_map, shaF_len]; decide) ((hout 2 (by decide)).trans oe2) (by rw [show act.eval ((.tmp 10)) = _ from h2]; rfl) ?_
  intro u3_3a qc0 hm
  have qB2 : Cs u3_3a (w.heap.size + 1) ((shaF ([] ++ baB x)).map bv : List Value).toArray 25 := by rw [show lay _ 0 _ = ((shaF ([] ++ baB x)).map bv : List Value).toArray from lay_whole _ _ (by rw [List.length_map, shaF_len]; rfl)] at qc0; exact qc0
  clear qc0
  have zu3_3a := hm.size
  refine ⟨hm.mono (by intro k hk h; (try dsimp only at h ⊢); (try simp only [false_or, or_false, true_and] at h ⊢); omega), (fun _ => rfl), ?_⟩
  intro u3_3 hr
  have zu3_3 := hr.size
  have Hx54 := Lib.hid (qB2.mod hr (by intro h2; (try dsimp only at h2); (try simp only [false_or] at h2); omega))
  have hmr := hm.two hr
  have Hx55 := Lib.hid (Hx46.out.mod hmr (by intro k h1 h2; (try dsimp only at h1 h2); (try simp only [false_or] at h1 h2); rcases h2 with h2 | h2 <;> (first | omega | (have hb := HBT.out k h1; omega) | (have hb := HBT.out k h2; omega))))
  have Hx56 := Lib.hid (Hx47.out.mod hmr (by intro k h1 h2; (try dsimp only at h1 h2); (try simp only [false_or] at h1 h2); rcases h2 with h2 | h2 <;> (first | omega | (have hb := HBT.out k h1; omega) | (have hb := HBT.out k h2; omega))))
  have Hx57 := Lib.hid (Hx48.out.mod hmr (by intro k h1 h2; (try dsimp only at h1 h2); (try simp only [false_or] at h1 h2); rcases h2 with h2 | h2 <;> (first | omega | (have hb := HBT.out k h1; omega) | (have hb := HBT.out k h2; omega))))
  have Hx58 := Lib.hid (Hx49.out.mod hmr (by intro h2; (try dsimp only at h2); (try simp only [false_or] at h2); omega))
  have Hx59 := Lib.hid (Hx51.out.trans hmr (by intro k h1 h2; (try dsimp only at h2 ⊢); (try simp only [false_or] at h2 ⊢); omega))
  have Hx60 := Lib.hid (Hx52.out.mod hmr (by intro k h1 h2; (try dsimp only at h1 h2); (try simp only [false_or] at h1 h2); omega))
  have Hx61 := Lib.hid (Hx53.out.mod hmr (by intro k h1 h2; (try dsimp only at h1 h2); (try simp only [false_or] at h1 h2); omega))
  clear Hx46 Hx47 Hx48 Hx49 Hx51 Hx52 Hx53
  clear hmr
  clear hm hr hYZ hZ hout hsz hd hpre qB2 Hx50 h2
  refine QChain.nil fun vs hl hzz hrows hne => ?_
  obtain ⟨Z, hYZ, hZb, hV⟩ := hzz
  obtain ⟨v0, vs0, rfl, hl0⟩ := list_cons hl
  obtain ⟨v1, vs1, rfl, hl1⟩ := list_cons hl0
  obtain ⟨v2, vs2, rfl, hl2⟩ := list_cons hl1
  obtain ⟨v3, vs3, rfl, hl3⟩ := list_cons hl2
  obtain rfl := list_nil hl3
  clear hl hl0 hl1 hl2 hl3
  obtain rfl : v0 = .pointer (some ⟨g, 0, none⟩) := hV 0 _ rfl
  have e1 := Option.some.inj (show some (vb) = some v1 from hV 1 _ rfl)
  subst e1
  obtain rfl : v2 = hv (shaF ([] ++ baB x)) := hV 2 _ rfl
  have ha0 := HA0.out
  subst ha0
  clear HA0 hV hYZ hZb hsz0 hrows hne oe2 oe3
  simp only [putAll, Act.put, List.setIfInBounds_toArray, List.set_cons_zero, List.set_cons_succ, List.set_nil]
  go_wp2
  have hs := Hx54.out
  rw [List.nil_append] at hs
  have hsz : (Try.prog.info? 25).map (·.size) = some ((shaF (baB x)).map bv).length := by rw [List.length_map, shaF_len]; exact size_hash
  exact bodyPost_ret (results_cellA rfl _ _ (w.heap.size + 1) ((shaF (baB x)).map bv) rfl (fun k u hu => by rw [Cs.cell hs]; simpa using hu) Try.underlying25 rfl hsz) rfl ⟨rfl, Hx59.out⟩
set_option maxHeartbeats 4000000 in
theorem ProposalText_Q : ∀ (R2 : Nat → Prop) (cs : List Value) (x : Pr) (w : World), PrR.rd R2 w cs x → (∀ k, R2 k → k < w.heap.size) → ((propT x).length ≤ 900000 ∧ x.vl < 9223372036854775807) ∧ (baB x.ba).length ≤ 900000 → Calls Try.prog 60 #[.agg cs.toArray] w fun e w' => ∃ v', e = .returned v' ∧ OwR (New w w') 900000 w' v' (propT x) ∧ Mod (fun _ => False) w w' := by
  intro R2 cs x w hx hB2 hl
  obtain ⟨v_ps, v_os, v_ts, rfl, hok, hs0, hs1, hs2⟩ := hx
  have HS0 := Lib.hid hs0
  clear hs0
  have HS1 := Lib.hid hs1
  clear hs1
  have HS2 := Lib.hid hs2
  clear hs2
  have HBT := Lib.hid hB2
  have HOK := Lib.hid hok
  have HL := Lib.hid hl
  clear hB2 hl hok
  have HLB := Lib.hid (show (baB x.ba).length ≤ 900000 from HL.out.2)
  have HV := Lib.hid (show x.vl < 9223372036854775807 from HL.out.1.2)
  replace HL := Lib.hid HL.out.1.1
  unfold propT wProp at HL
  go_enter Try.func60, Try.ntmps60
  go_upto_region 1 with (fail)
  obtain ⟨w1, hw1⟩ : ∃ zz, zz = (w.alloc (.cells (x.cells v_ps v_os v_ts : List Value).toArray 107)) := ⟨_, rfl⟩
  change Code.wp _ _ _ _ (w.alloc (.cells (x.cells v_ps v_os v_ts : List Value).toArray 107))
  rw [← hw1]
  have HB1 := Lib.hid (show Cs w1 (w.heap.size) (x.cells v_ps v_os v_ts : List Value).toArray 107 by rw [hw1]; exact Cs.new _ _ _)
  have hm : Mod (fun _ => False) w w1 := by rw [hw1]; exact (Mod.refl _ _).alloc _
  have HM0 := Lib.hid (show Mod (fun _ => False) w w1 from hm.mono (fun _ _ h => h.elim))
  have hs1 : w1.heap.size = w.heap.size + 1 := by rw [hw1]; simp
  have Hx1 := Lib.hid (HS0.out.mod hm (fun _ _ h => h))
  clear HS0
  have Hx2 := Lib.hid (HS1.out.mod hm (fun _ _ h => h))
  clear HS1
  have Hx3 := Lib.hid (HS2.out.mod hm (fun _ _ h => h))
  clear HS2
  clear hw1 hm
  go_upto_region 1 with (fail)
  generalize ha0 : Act.mk _ _ = a0
  have oe1 : a0.eval (.tmp 1) = .pointer (some ⟨w.heap.size, 0, none⟩) := by rw [← ha0]; rfl
  have hsz0 : a0.tmps.size = 24 := by rw [← ha0]; rfl
  have HA0 := Lib.hid ha0
  clear ha0
  refine wp_region_Q 24 hsz0 (by kernel_rfl) (by kernel_rfl) [4, 5, 6, 7, 8, 9, 10, 11, 12, 13, 14, 15, 16, 17, 3] (by kernel_rfl) (by decide) (fun _ => False) (fun _ _ => False) (fun _ _ h => h) [qv 0, qi (.pointer (some ⟨w.heap.size, 0, none⟩)), qi (.int .i64 x.ep), qv 1, qi (.pointer (some ⟨w.heap.size, 1, none⟩)), qi (.int .i64 x.rn), qv 2, qi (.pointer (some ⟨w.heap.size, 2, none⟩)), qi (.int .i64 x.vl), qi (.int .i64 (x.vl + 1)), qv 3, qi (.pointer (some ⟨w.heap.size, 3, none⟩)), qi (.int .i64 x.rp), qv 4, qv 4] ⟨qv_stable, qi_stable, qi_stable, qv_stable, qi_stable, qi_stable, qv_stable, qi_stable, qi_stable, qi_stable, qv_stable, qi_stable, qi_stable, qv_stable, qv_stable, trivial⟩ [0, 3, 6, 10, 13] (by kernel_rfl) (by decide) (by kernel_rfl) [] (by kernel_rfl) (by intro r hr; cases hr) (by intro r hr; cases hr) (by intro r hr; cases hr) ⟨?_, ?_, ?_, ?_, ?_, ?_, ?_, ?_, ?_, ?_, ?_, ?_, ?_, ?_, ?_, trivial⟩ ?_
  · exact stepq_chain rfl
  · refine stepq_env rfl rfl rfl fun Z tr act w' hZ hm hm0 hout hsz hd hub hpre => ?_
    refine qe_run rfl (wanted_none rfl) (ex_field rfl Try.underlying107 rfl (by kernel_rfl) ((hout 1 (by decide)).trans oe1)) QE.refl ?_
    rfl
  · refine stepq_env rfl rfl rfl fun Z tr act w' hZ hm hm0 hout hsz hd hub hpre => ?_
    have h1 := hd ⟨1, .data⟩ (by simp) rfl _ rfl
    refine qe_run rfl (wanted_none rfl) (ex_load1 rfl Try.underlying3 rfl h1 (Cs.lit1 (HB1.out.mod (Mod.mono (S' := fun k => w1.heap.size ≤ k) hm (fun _ _ h => h.elim (fun h => h.2.elim) (fun h => h))) (by intro h2; (try dsimp only at h2); (try simp only [false_or] at h2); omega)) rfl)) QE.refl ?_
    rfl
  · exact stepq_chain rfl
  · refine stepq_env rfl rfl rfl fun Z tr act w' hZ hm hm0 hout hsz hd hub hpre => ?_
    refine qe_run rfl (wanted_none rfl) (ex_field rfl Try.underlying107 rfl (by kernel_rfl) ((hout 1 (by decide)).trans oe1)) QE.refl ?_
    rfl
  · refine stepq_env rfl rfl rfl fun Z tr act w' hZ hm hm0 hout hsz hd hub hpre => ?_
    have h4 := hd ⟨4, .data⟩ (by simp) rfl _ rfl
    refine qe_run rfl (wanted_none rfl) (ex_load1 rfl Try.underlying3 rfl h4 (Cs.lit1 (HB1.out.mod (Mod.mono (S' := fun k => w1.heap.size ≤ k) hm (fun _ _ h => h.elim (fun h => h.2.elim) (fun h => h))) (by intro h2; (try dsimp only at h2); (try simp only [false_or] at h2); omega)) rfl)) QE.refl ?_
    rfl
  · exact stepq_chain rfl
  · refine stepq_env rfl rfl rfl fun Z tr act w' hZ hm hm0 hout hsz hd hub hpre => ?_
    refine qe_run rfl (wanted_none rfl) (ex_field rfl Try.underlying107 rfl (by kernel_rfl) ((hout 1 (by decide)).trans oe1)) QE.refl ?_
    rfl
  · refine stepq_env rfl rfl rfl fun Z tr act w' hZ hm hm0 hout hsz hd hub hpre => ?_
    have h7 := hd ⟨7, .data⟩ (by simp) rfl _ rfl
    refine qe_run rfl (wanted_none rfl) (ex_load1 rfl Try.underlying3 rfl h7 (Cs.lit1 (HB1.out.mod (Mod.mono (S' := fun k => w1.heap.size ≤ k) hm (fun _ _ h => h.elim (fun h => h.2.elim) (fun h => h))) (by intro h2; (try dsimp only at h2); (try simp only [false_or] at h2); omega)) rfl)) QE.refl ?_
    rfl
  · refine stepq_env rfl rfl rfl fun Z tr act w' hZ hm hm0 hout hsz hd hub hpre => ?_
    have h8 := hd ⟨8, .data⟩ (by simp) rfl _ rfl
    refine qe_run rfl (wanted_none rfl) (ex_binE rfl h8 rfl (guard_ints _ _ _ _ _ _) (run_add_i _ _ Try.underlying3) (congrArg (Value.int .i64) (IntWalk.i64_in _ (by have h := HOK.out.2.2.1; have h2 := HV.out; unfold I64 at h; omega)))) QE.refl ?_
    rfl
  · exact stepq_chain rfl
  · refine stepq_env rfl rfl rfl fun Z tr act w' hZ hm hm0 hout hsz hd hub hpre => ?_
    refine qe_run rfl (wanted_none rfl) (ex_field rfl Try.underlying107 rfl (by kernel_rfl) ((hout 1 (by decide)).trans oe1)) QE.refl ?_
    rfl
  · refine stepq_env rfl rfl rfl fun Z tr act w' hZ hm hm0 hout hsz hd hub hpre => ?_
    have h11 := hd ⟨11, .data⟩ (by simp) rfl _ rfl
    refine qe_run rfl (wanted_none rfl) (ex_load1 rfl Try.underlying3 rfl h11 (Cs.lit1 (HB1.out.mod (Mod.mono (S' := fun k => w1.heap.size ≤ k) hm (fun _ _ h => h.elim (fun h => h.2.elim) (fun h => h))) (by intro h2; (try dsimp only at h2); (try simp only [false_or] at h2); omega)) rfl)) QE.refl ?_
    rfl
  · exact stepq_chain rfl
  · refine stepq_env rfl rfl rfl fun Z tr act w' hZ hm hm0 hout hsz hd hub hpre => ?_
    have h13 := hd ⟨13, .data⟩ (by simp) rfl _ rfl
    exact qe_run rfl (wanted_none rfl) (ex_assign rfl rfl) QE.refl h13
  intro u1_0 hr
  have zu1_0 := hr.size
  have Hx4 := Lib.hid (Hx1.out.mod hr (by intro k h1 h2; (try dsimp only at h1 h2); (try simp only [false_or] at h1 h2); (first | omega | (have hb := HBT.out k h1; omega) | (have hb := HBT.out k h2; omega))))
  have Hx5 := Lib.hid (Hx2.out.mod hr (by intro k h1 h2; (try dsimp only at h1 h2); (try simp only [false_or] at h1 h2); (first | omega | (have hb := HBT.out k h1; omega) | (have hb := HBT.out k h2; omega))))
  have Hx6 := Lib.hid (Hx3.out.mod hr (by intro k h1 h2; (try dsimp only at h1 h2); (try simp only [false_or] at h1 h2); (first | omega | (have hb := HBT.out k h1; omega) | (have hb := HBT.out k h2; omega))))
  have Hx7 := Lib.hid (HB1.out.mod hr (by intro h2; (try dsimp only at h2); (try simp only [false_or] at h2); omega))
  have Hx8 := Lib.hid (HM0.out.trans hr (by intro k h1 h2; (try dsimp only at h2 ⊢); (try simp only [false_or] at h2 ⊢); omega))
  clear Hx1 Hx2 Hx3 HB1 HM0
  clear hr
  refine QChain.cons rfl fun Z act hYZ hZ hout hsz hd hpre => ?_
  refine qc_call (args := #[.string { data := #[112, 114, 111, 112, 111, 115, 97, 108] }]) rfl (wanted_none rfl) (by rw [ex_callF rfl Try.func63 (by kernel_rfl) (by kernel_rfl)]; exact congrArg (fun z => Result.ok (Next.enter _ z) _) (by simp only [List.map_toArray, List.map_cons, List.map_nil]; try rfl)) (text_Q { data := #[112, 114, 111, 112, 111, 115, 97, 108] } _ (by decide)) ?_
  rintro e u1_1a ⟨g, rfl, qwr, hm⟩
  have zu1_1a := hm.size
  refine ⟨_, rfl, hm.mono (fun _ _ h => h.elim), (fun _ => rfl), ?_⟩
  intro u1_1 hr
  have zu1_1 := hr.size
  have Hx9 := Lib.hid ((qwr.widen (R' := (fun k => (u1_0.heap.size ≤ k ∧ k < u1_1a.heap.size))) (by intro k h1; (try unfold New at h1); (try dsimp only at h1 ⊢); (try simp only [false_or] at h1 ⊢); omega) (Nat.le_refl _)).mod hr (by intro k h1 h2; (try dsimp only at h1 h2); (try simp only [false_or] at h1 h2); omega))
  have hmr := Mod.after hm hr
  have Hx10 := Lib.hid (Hx4.out.mod hmr (by intro k h1 h2; (try dsimp only at h1 h2); (try simp only [false_or] at h1 h2); (first | omega | (have hb := HBT.out k h1; omega) | (have hb := HBT.out k h2; omega))))
  have Hx11 := Lib.hid (Hx5.out.mod hmr (by intro k h1 h2; (try dsimp only at h1 h2); (try simp only [false_or] at h1 h2); (first | omega | (have hb := HBT.out k h1; omega) | (have hb := HBT.out k h2; omega))))
  have Hx12 := Lib.hid (Hx6.out.mod hmr (by intro k h1 h2; (try dsimp only at h1 h2); (try simp only [false_or] at h1 h2); (first | omega | (have hb := HBT.out k h1; omega) | (have hb := HBT.out k h2; omega))))
  have Hx13 := Lib.hid (Hx7.out.mod hmr (by intro h2; (try dsimp only at h2); (try simp only [false_or] at h2); omega))
  have Hx14 := Lib.hid (Hx8.out.trans hmr (by intro k h1 h2; (try dsimp only at h2 ⊢); (try simp only [false_or] at h2 ⊢); omega))
  clear Hx4 Hx5 Hx6 Hx7 Hx8
  clear hmr
  clear hm hr hYZ hZ hout hsz hd hpre qwr
  refine QChain.cons rfl fun Z act hYZ hZ hout hsz hd hpre => ?_
  have h0 := hd ⟨0, .data⟩ (by simp) rfl _ rfl
  have h2 := hd ⟨2, .data⟩ (by simp) rfl _ rfl
  have ea4 : act.eval (.tmp 4) = .pointer (some ⟨g, 0, none⟩) := (Option.some.inj (show some (.pointer (some ⟨g, 0, none⟩) : Value) = some (act.eval (.tmp 4)) from h0)).symm
  have ea6 : act.eval (.tmp 6) = .int .i64 x.ep := h2
  refine qc_call (args := #[.pointer (some ⟨g, 0, none⟩), .int .i64 x.ep]) rfl (wanted_none rfl) (by rw [ex_callF rfl Try.func64 (by kernel_rfl) (by kernel_rfl)]; exact congrArg (fun z => Result.ok (Next.enter _ z) _) (by simp only [List.map_toArray, List.map_cons, List.map_nil, ea4, ea6]; try rfl)) (WInt_Q Hx9.out HOK.out.1 (by have := HL.out; simp only [List.length_append] at this ⊢; omega)) ?_
  rintro e u1_2a ⟨rfl, qwr, hm⟩
  have zu1_2a := hm.size
  refine ⟨_, rfl, hm.mono (by intro k hk h; (try dsimp only at h ⊢); (try simp only [false_or, or_false, true_and] at h ⊢); omega), (fun _ => rfl), ?_⟩
  intro u1_2 hr
  have zu1_2 := hr.size
  have Hx15 := Lib.hid ((qwr.widen (R' := (fun k => (u1_0.heap.size ≤ k ∧ k < u1_1a.heap.size) ∨ (u1_1.heap.size ≤ k ∧ k < u1_2a.heap.size))) (by intro k h1; (try unfold New at h1); (try dsimp only at h1 ⊢); (try simp only [false_or] at h1 ⊢); omega) (Nat.le_refl _)).mod hr (by intro k h1 h2; (try dsimp only at h1 h2); (try simp only [false_or] at h1 h2); omega))
  have hmr := hm.two hr
  have Hx16 := Lib.hid (Hx10.out.mod hmr (by intro k h1 h2; (try dsimp only at h1 h2); (try simp only [false_or] at h1 h2); rcases h2 with h2 | h2 <;> (first | omega | (have hb := HBT.out k h1; omega) | (have hb := HBT.out k h2; omega))))
  have Hx17 := Lib.hid (Hx11.out.mod hmr (by intro k h1 h2; (try dsimp only at h1 h2); (try simp only [false_or] at h1 h2); rcases h2 with h2 | h2 <;> (first | omega | (have hb := HBT.out k h1; omega) | (have hb := HBT.out k h2; omega))))
  have Hx18 := Lib.hid (Hx12.out.mod hmr (by intro k h1 h2; (try dsimp only at h1 h2); (try simp only [false_or] at h1 h2); rcases h2 with h2 | h2 <;> (first | omega | (have hb := HBT.out k h1; omega) | (have hb := HBT.out k h2; omega))))
  have Hx19 := Lib.hid (Hx13.out.mod hmr (by intro h2; (try dsimp only at h2); (try simp only [false_or] at h2); omega))
  have Hx20 := Lib.hid (Hx14.out.trans hmr (by intro k h1 h2; (try dsimp only at h2 ⊢); (try simp only [false_or] at h2 ⊢); omega))
  clear Hx10 Hx11 Hx12 Hx13 Hx14
  clear hmr
  clear hm hr hYZ hZ hout hsz hd hpre qwr Hx9 ea4 ea6 h0 h2
  refine QChain.cons rfl fun Z act hYZ hZ hout hsz hd hpre => ?_
  have h3 := hd ⟨3, .data⟩ (by simp) rfl _ rfl
  have h5 := hd ⟨5, .data⟩ (by simp) rfl _ rfl
  have ea7 : act.eval (.tmp 7) = .pointer (some ⟨g, 0, none⟩) := (Option.some.inj (show some (.pointer (some ⟨g, 0, none⟩) : Value) = some (act.eval (.tmp 7)) from h3)).symm
  have ea9 : act.eval (.tmp 9) = .int .i64 x.rn := h5
  refine qc_call (args := #[.pointer (some ⟨g, 0, none⟩), .int .i64 x.rn]) rfl (wanted_none rfl) (by rw [ex_callF rfl Try.func64 (by kernel_rfl) (by kernel_rfl)]; exact congrArg (fun z => Result.ok (Next.enter _ z) _) (by simp only [List.map_toArray, List.map_cons, List.map_nil, ea7, ea9]; try rfl)) (WInt_Q Hx15.out HOK.out.2.1 (by have := HL.out; simp only [List.length_append] at this ⊢; omega)) ?_
  rintro e u1_3a ⟨rfl, qwr, hm⟩
  have zu1_3a := hm.size
  refine ⟨_, rfl, hm.mono (by intro k hk h; (try dsimp only at h ⊢); (try simp only [false_or, or_false, true_and] at h ⊢); omega), (fun _ => rfl), ?_⟩
  intro u1_3 hr
  have zu1_3 := hr.size
  have Hx21 := Lib.hid ((qwr.widen (R' := (fun k => (u1_0.heap.size ≤ k ∧ k < u1_1a.heap.size) ∨ (u1_1.heap.size ≤ k ∧ k < u1_2a.heap.size) ∨ (u1_2.heap.size ≤ k ∧ k < u1_3a.heap.size))) (by intro k h1; (try unfold New at h1); (try dsimp only at h1 ⊢); (try simp only [false_or] at h1 ⊢); omega) (Nat.le_refl _)).mod hr (by intro k h1 h2; (try dsimp only at h1 h2); (try simp only [false_or] at h1 h2); omega))
  have hmr := hm.two hr
  have Hx22 := Lib.hid (Hx16.out.mod hmr (by intro k h1 h2; (try dsimp only at h1 h2); (try simp only [false_or] at h1 h2); rcases h2 with (h2 | h2) | h2 <;> (first | omega | (have hb := HBT.out k h1; omega) | (have hb := HBT.out k h2; omega))))
  have Hx23 := Lib.hid (Hx17.out.mod hmr (by intro k h1 h2; (try dsimp only at h1 h2); (try simp only [false_or] at h1 h2); rcases h2 with (h2 | h2) | h2 <;> (first | omega | (have hb := HBT.out k h1; omega) | (have hb := HBT.out k h2; omega))))
  have Hx24 := Lib.hid (Hx18.out.mod hmr (by intro k h1 h2; (try dsimp only at h1 h2); (try simp only [false_or] at h1 h2); rcases h2 with (h2 | h2) | h2 <;> (first | omega | (have hb := HBT.out k h1; omega) | (have hb := HBT.out k h2; omega))))
  have Hx25 := Lib.hid (Hx19.out.mod hmr (by intro h2; (try dsimp only at h2); (try simp only [false_or] at h2); omega))
  have Hx26 := Lib.hid (Hx20.out.trans hmr (by intro k h1 h2; (try dsimp only at h2 ⊢); (try simp only [false_or] at h2 ⊢); omega))
  clear Hx16 Hx17 Hx18 Hx19 Hx20
  clear hmr
  clear hm hr hYZ hZ hout hsz hd hpre qwr Hx15 ea7 ea9 h3 h5
  refine QChain.cons rfl fun Z act hYZ hZ hout hsz hd hpre => ?_
  have h6 := hd ⟨6, .data⟩ (by simp) rfl _ rfl
  have h9 := hd ⟨9, .data⟩ (by simp) rfl _ rfl
  have ea10 : act.eval (.tmp 10) = .pointer (some ⟨g, 0, none⟩) := (Option.some.inj (show some (.pointer (some ⟨g, 0, none⟩) : Value) = some (act.eval (.tmp 10)) from h6)).symm
  have ea13 : act.eval (.tmp 13) = .int .i64 (x.vl + 1) := h9
  refine qc_call (args := #[.pointer (some ⟨g, 0, none⟩), .int .i64 (x.vl + 1)]) rfl (wanted_none rfl) (by rw [ex_callF rfl Try.func64 (by kernel_rfl) (by kernel_rfl)]; exact congrArg (fun z => Result.ok (Next.enter _ z) _) (by simp only [List.map_toArray, List.map_cons, List.map_nil, ea10, ea13]; try rfl)) (WInt_Q Hx21.out (by have h := HOK.out.2.2.1; have h2 := HV.out; unfold I64 at h ⊢; omega) (by have := HL.out; simp only [List.length_append] at this ⊢; omega)) ?_
  rintro e u1_4a ⟨rfl, qwr, hm⟩
  have zu1_4a := hm.size
  refine ⟨_, rfl, hm.mono (by intro k hk h; (try dsimp only at h ⊢); (try simp only [false_or, or_false, true_and] at h ⊢); omega), (fun _ => rfl), ?_⟩
  intro u1_4 hr
  have zu1_4 := hr.size
  have Hx27 := Lib.hid ((qwr.widen (R' := (fun k => (u1_0.heap.size ≤ k ∧ k < u1_1a.heap.size) ∨ (u1_1.heap.size ≤ k ∧ k < u1_2a.heap.size) ∨ (u1_2.heap.size ≤ k ∧ k < u1_3a.heap.size) ∨ (u1_3.heap.size ≤ k ∧ k < u1_4a.heap.size))) (by intro k h1; (try unfold New at h1); (try dsimp only at h1 ⊢); (try simp only [false_or] at h1 ⊢); omega) (Nat.le_refl _)).mod hr (by intro k h1 h2; (try dsimp only at h1 h2); (try simp only [false_or] at h1 h2); omega))
  have hmr := hm.two hr
  have Hx28 := Lib.hid (Hx22.out.mod hmr (by intro k h1 h2; (try dsimp only at h1 h2); (try simp only [false_or] at h1 h2); rcases h2 with (h2 | h2 | h2) | h2 <;> (first | omega | (have hb := HBT.out k h1; omega) | (have hb := HBT.out k h2; omega))))
  have Hx29 := Lib.hid (Hx23.out.mod hmr (by intro k h1 h2; (try dsimp only at h1 h2); (try simp only [false_or] at h1 h2); rcases h2 with (h2 | h2 | h2) | h2 <;> (first | omega | (have hb := HBT.out k h1; omega) | (have hb := HBT.out k h2; omega))))
  have Hx30 := Lib.hid (Hx24.out.mod hmr (by intro k h1 h2; (try dsimp only at h1 h2); (try simp only [false_or] at h1 h2); rcases h2 with (h2 | h2 | h2) | h2 <;> (first | omega | (have hb := HBT.out k h1; omega) | (have hb := HBT.out k h2; omega))))
  have Hx31 := Lib.hid (Hx25.out.mod hmr (by intro h2; (try dsimp only at h2); (try simp only [false_or] at h2); omega))
  have Hx32 := Lib.hid (Hx26.out.trans hmr (by intro k h1 h2; (try dsimp only at h2 ⊢); (try simp only [false_or] at h2 ⊢); omega))
  clear Hx22 Hx23 Hx24 Hx25 Hx26
  clear hmr
  clear hm hr hYZ hZ hout hsz hd hpre qwr Hx21 ea10 ea13 h6 h9
  refine QChain.cons rfl fun Z act hYZ hZ hout hsz hd hpre => ?_
  have h10 := hd ⟨10, .data⟩ (by simp) rfl _ rfl
  have h12 := hd ⟨12, .data⟩ (by simp) rfl _ rfl
  have ea14 : act.eval (.tmp 14) = .pointer (some ⟨g, 0, none⟩) := (Option.some.inj (show some (.pointer (some ⟨g, 0, none⟩) : Value) = some (act.eval (.tmp 14)) from h10)).symm
  have ea16 : act.eval (.tmp 16) = .int .i64 x.rp := h12
  refine qc_call (args := #[.pointer (some ⟨g, 0, none⟩), .int .i64 x.rp]) rfl (wanted_none rfl) (by rw [ex_callF rfl Try.func64 (by kernel_rfl) (by kernel_rfl)]; exact congrArg (fun z => Result.ok (Next.enter _ z) _) (by simp only [List.map_toArray, List.map_cons, List.map_nil, ea14, ea16]; try rfl)) (WInt_Q Hx27.out HOK.out.2.2.2.1 (by have := HL.out; simp only [List.length_append] at this ⊢; omega)) ?_
  rintro e u1_5a ⟨rfl, qwr, hm⟩
  have zu1_5a := hm.size
  refine ⟨_, rfl, hm.mono (by intro k hk h; (try dsimp only at h ⊢); (try simp only [false_or, or_false, true_and] at h ⊢); omega), (fun _ => rfl), ?_⟩
  intro u1_5 hr
  have zu1_5 := hr.size
  have Hx33 := Lib.hid ((qwr.widen (R' := (fun k => (u1_0.heap.size ≤ k ∧ k < u1_1a.heap.size) ∨ (u1_1.heap.size ≤ k ∧ k < u1_2a.heap.size) ∨ (u1_2.heap.size ≤ k ∧ k < u1_3a.heap.size) ∨ (u1_3.heap.size ≤ k ∧ k < u1_4a.heap.size) ∨ (u1_4.heap.size ≤ k ∧ k < u1_5a.heap.size))) (by intro k h1; (try unfold New at h1); (try dsimp only at h1 ⊢); (try simp only [false_or] at h1 ⊢); omega) (Nat.le_refl _)).mod hr (by intro k h1 h2; (try dsimp only at h1 h2); (try simp only [false_or] at h1 h2); omega))
  have hmr := hm.two hr
  have Hx34 := Lib.hid (Hx28.out.mod hmr (by intro k h1 h2; (try dsimp only at h1 h2); (try simp only [false_or] at h1 h2); rcases h2 with (h2 | h2 | h2 | h2) | h2 <;> (first | omega | (have hb := HBT.out k h1; omega) | (have hb := HBT.out k h2; omega))))
  have Hx35 := Lib.hid (Hx29.out.mod hmr (by intro k h1 h2; (try dsimp only at h1 h2); (try simp only [false_or] at h1 h2); rcases h2 with (h2 | h2 | h2 | h2) | h2 <;> (first | omega | (have hb := HBT.out k h1; omega) | (have hb := HBT.out k h2; omega))))
  have Hx36 := Lib.hid (Hx30.out.mod hmr (by intro k h1 h2; (try dsimp only at h1 h2); (try simp only [false_or] at h1 h2); rcases h2 with (h2 | h2 | h2 | h2) | h2 <;> (first | omega | (have hb := HBT.out k h1; omega) | (have hb := HBT.out k h2; omega))))
  have Hx37 := Lib.hid (Hx31.out.mod hmr (by intro h2; (try dsimp only at h2); (try simp only [false_or] at h2); omega))
  have Hx38 := Lib.hid (Hx32.out.trans hmr (by intro k h1 h2; (try dsimp only at h2 ⊢); (try simp only [false_or] at h2 ⊢); omega))
  clear Hx28 Hx29 Hx30 Hx31 Hx32
  clear hmr
  clear hm hr hYZ hZ hout hsz hd hpre qwr Hx27 ea14 ea16 h10 h12
  refine QChain.nil fun vs hl hzz hrows hne => ?_
  obtain ⟨Z, hYZ, hZb, hV⟩ := hzz
  obtain ⟨v0, vs0, rfl, hl0⟩ := list_cons hl
  obtain ⟨v1, vs1, rfl, hl1⟩ := list_cons hl0
  obtain ⟨v2, vs2, rfl, hl2⟩ := list_cons hl1
  obtain ⟨v3, vs3, rfl, hl3⟩ := list_cons hl2
  obtain ⟨v4, vs4, rfl, hl4⟩ := list_cons hl3
  obtain ⟨v5, vs5, rfl, hl5⟩ := list_cons hl4
  obtain ⟨v6, vs6, rfl, hl6⟩ := list_cons hl5
  obtain ⟨v7, vs7, rfl, hl7⟩ := list_cons hl6
  obtain ⟨v8, vs8, rfl, hl8⟩ := list_cons hl7
  obtain ⟨v9, vs9, rfl, hl9⟩ := list_cons hl8
  obtain ⟨v10, vs10, rfl, hl10⟩ := list_cons hl9
  obtain ⟨v11, vs11, rfl, hl11⟩ := list_cons hl10
  obtain ⟨v12, vs12, rfl, hl12⟩ := list_cons hl11
  obtain ⟨v13, vs13, rfl, hl13⟩ := list_cons hl12
  obtain ⟨v14, vs14, rfl, hl14⟩ := list_cons hl13
  obtain rfl := list_nil hl14
  clear hl hl0 hl1 hl2 hl3 hl4 hl5 hl6 hl7 hl8 hl9 hl10 hl11 hl12 hl13 hl14
  have e0 := Option.some.inj (show some (.pointer (some ⟨g, 0, none⟩)) = some v0 from hV 0 _ rfl)
  subst e0
  have e3 := Option.some.inj (show some (.pointer (some ⟨g, 0, none⟩)) = some v3 from hV 3 _ rfl)
  subst e3
  have e6 := Option.some.inj (show some (.pointer (some ⟨g, 0, none⟩)) = some v6 from hV 6 _ rfl)
  subst e6
  have e10 := Option.some.inj (show some (.pointer (some ⟨g, 0, none⟩)) = some v10 from hV 10 _ rfl)
  subst e10
  have e13 := Option.some.inj (show some (.pointer (some ⟨g, 0, none⟩)) = some v13 from hV 13 _ rfl)
  subst e13
  have e14 := Option.some.inj (show some (.pointer (some ⟨g, 0, none⟩)) = some v14 from hV 14 _ rfl)
  subst e14
  have ha0 := HA0.out
  subst ha0
  clear HA0 hV hYZ hZb hsz0 hrows hne oe1
  simp only [putAll, Act.put, List.setIfInBounds_toArray, List.set_cons_zero, List.set_cons_succ]
  go_upto_region 2 with (fail)
  generalize ha0 : Act.mk _ _ = a0
  have oe1 : a0.eval (.tmp 1) = .pointer (some ⟨w.heap.size, 0, none⟩) := by rw [← ha0]; rfl
  have oe3 : a0.eval (.tmp 3) = .pointer (some ⟨g, 0, none⟩) := by rw [← ha0]; rfl
  have hsz0 : a0.tmps.size = 24 := by rw [← ha0]; rfl
  have HA0 := Lib.hid ha0
  clear ha0
  refine wp_region_Q 24 hsz0 (by kernel_rfl) (by kernel_rfl) [18, 19, 20, 21, 22, 23, 2] (by kernel_rfl) (by decide) (fun k => (u1_0.heap.size ≤ k ∧ k < u1_1a.heap.size) ∨ (u1_1.heap.size ≤ k ∧ k < u1_2a.heap.size) ∨ (u1_2.heap.size ≤ k ∧ k < u1_3a.heap.size) ∨ (u1_3.heap.size ≤ k ∧ k < u1_4a.heap.size) ∨ (u1_4.heap.size ≤ k ∧ k < u1_5a.heap.size)) (fun k j => (k = 1 ∧ ((u1_0.heap.size ≤ j ∧ j < u1_1a.heap.size) ∨ (u1_1.heap.size ≤ j ∧ j < u1_2a.heap.size) ∨ (u1_2.heap.size ≤ j ∧ j < u1_3a.heap.size) ∨ (u1_3.heap.size ≤ j ∧ j < u1_4a.heap.size) ∨ (u1_4.heap.size ≤ j ∧ j < u1_5a.heap.size)))) (by intro k j h; (try dsimp only at h ⊢); omega) [qi (.pointer (some ⟨g, 0, none⟩)), qi (.pointer (some ⟨w.heap.size, 4, none⟩)), qi (.agg #[.int .i64 x.ba.ep, .int .u64 (x.ba.tm : Nat), v_ps, v_os, v_ts]), qi (hv (shaF (baB x.ba))), qi (.pointer (some ⟨g, 0, none⟩)), qv 2, qv 2] ⟨qi_stable, qi_stable, qi_stable, qi_stable, qi_stable, qv_stable, qv_stable, trivial⟩ [3, 4, 5] (by kernel_rfl) (by decide) (by kernel_rfl) [] (by kernel_rfl) (by intro r hr; cases hr) (by intro r hr; cases hr) (by intro r hr; cases hr) ⟨?_, ?_, ?_, ?_, ?_, ?_, ?_, trivial⟩ ?_
  · refine stepq_env rfl rfl rfl fun Z tr act w' hZ hm hm0 hout hsz hd hub hpre => ?_
    refine qe_run rfl (wanted_none rfl) (ex_move rfl ((hout 3 (by decide)).trans oe3)) QE.refl ?_
    rfl
  · refine stepq_env rfl rfl rfl fun Z tr act w' hZ hm hm0 hout hsz hd hub hpre => ?_
    refine qe_run rfl (wanted_none rfl) (ex_field rfl Try.underlying107 rfl (by kernel_rfl) ((hout 1 (by decide)).trans oe1)) QE.refl ?_
    rfl
  · refine stepq_env rfl rfl rfl fun Z tr act w' hZ hm hm0 hout hsz hd hub hpre => ?_
    have h1 := hd ⟨1, .data⟩ (by simp) rfl _ rfl
    refine qe_run rfl (wanted_none rfl) (ex_loadA rfl Try.underlying60 rfl (off := 4) (cs := [.int .i64 x.ba.ep, .int .u64 (x.ba.tm : Nat), v_ps, v_os, v_ts]) (by kernel_rfl) h1 (Cs.litA (Hx37.out.mod hm (by intro h2; (try dsimp only at h2); (try simp only [false_or] at h2); omega)) rfl)) QE.refl ?_
    rfl
  · exact stepq_chain rfl
  · exact stepq_chain rfl
  · exact stepq_chain rfl
  · refine stepq_env rfl rfl rfl fun Z tr act w' hZ hm hm0 hout hsz hd hub hpre => ?_
    have h5 := hd ⟨5, .data⟩ (by simp) rfl _ rfl
    exact qe_run rfl (wanted_none rfl) (ex_assign rfl rfl) QE.refl h5
  intro u2_0 hr
  have zu2_0 := hr.size
  have Hx39 := Lib.hid (Hx34.out.mod hr (by intro k h1 h2; (try dsimp only at h1 h2); (try simp only [false_or] at h1 h2); (first | omega | (have hb := HBT.out k h1; omega) | (have hb := HBT.out k h2; omega))))
  have Hx40 := Lib.hid (Hx35.out.mod hr (by intro k h1 h2; (try dsimp only at h1 h2); (try simp only [false_or] at h1 h2); (first | omega | (have hb := HBT.out k h1; omega) | (have hb := HBT.out k h2; omega))))
  have Hx41 := Lib.hid (Hx36.out.mod hr (by intro k h1 h2; (try dsimp only at h1 h2); (try simp only [false_or] at h1 h2); (first | omega | (have hb := HBT.out k h1; omega) | (have hb := HBT.out k h2; omega))))
  have Hx42 := Lib.hid (Hx37.out.mod hr (by intro h2; (try dsimp only at h2); (try simp only [false_or] at h2); omega))
  have Hx43 := Lib.hid (Hx38.out.trans hr (by intro k h1 h2; (try dsimp only at h2 ⊢); (try simp only [false_or] at h2 ⊢); omega))
  have Hx44 := Lib.hid (Hx33.out.mod hr (by intro k h1 h2; (try dsimp only at h1 h2); (try simp only [false_or] at h1 h2); omega))
  clear Hx34 Hx35 Hx36 Hx37 Hx38 Hx33
  clear hr
  refine QChain.cons rfl fun Z act hYZ hZ hout hsz hd hpre => ?_
  have h2 := hd ⟨2, .data⟩ (by simp) rfl _ rfl
  have ea20 : act.eval (.tmp 20) = .agg #[.int .i64 x.ba.ep, .int .u64 (x.ba.tm : Nat), v_ps, v_os, v_ts] := h2
  refine qc_call (args := #[.agg #[.int .i64 x.ba.ep, .int .u64 (x.ba.tm : Nat), v_ps, v_os, v_ts]]) rfl (wanted_none rfl) (by rw [ex_callF rfl Try.func42 (by kernel_rfl) (by kernel_rfl)]; exact congrArg (fun z => Result.ok (Next.enter _ z) _) (by simp only [List.map_toArray, List.map_cons, List.map_nil, ea20]; try rfl)) (BatchHash_Q _ _ x.ba _ ⟨_, _, _, rfl, HOK.out.2.2.2.2.1, Hx39.out, Hx40.out, Hx41.out⟩ (by intro k h1; (try dsimp only at h1); (first | omega | (have hb := HBT.out k h1; omega))) HLB.out) ?_
  rintro e u2_1a ⟨rfl, hm⟩
  have zu2_1a := hm.size
  refine ⟨_, rfl, hm.mono (fun _ _ h => h.elim), (fun _ => rfl), ?_⟩
  intro u2_1 hr
  have zu2_1 := hr.size
  have hmr := Mod.after hm hr
  have Hx45 := Lib.hid (Hx39.out.mod hmr (by intro k h1 h2; (try dsimp only at h1 h2); (try simp only [false_or] at h1 h2); (first | omega | (have hb := HBT.out k h1; omega) | (have hb := HBT.out k h2; omega))))
  have Hx46 := Lib.hid (Hx40.out.mod hmr (by intro k h1 h2; (try dsimp only at h1 h2); (try simp only [false_or] at h1 h2); (first | omega | (have hb := HBT.out k h1; omega) | (have hb := HBT.out k h2; omega))))
  have Hx47 := Lib.hid (Hx41.out.mod hmr (by intro k h1 h2; (try dsimp only at h1 h2); (try simp only [false_or] at h1 h2); (first | omega | (have hb := HBT.out k h1; omega) | (have hb := HBT.out k h2; omega))))
  have Hx48 := Lib.hid (Hx42.out.mod hmr (by intro h2; (try dsimp only at h2); (try simp only [false_or] at h2); omega))
  have Hx49 := Lib.hid (Hx43.out.trans hmr (by intro k h1 h2; (try dsimp only at h2 ⊢); (try simp only [false_or] at h2 ⊢); omega))
  have Hx50 := Lib.hid (Hx44.out.mod hmr (by intro k h1 h2; (try dsimp only at h1 h2); (try simp only [false_or] at h1 h2); omega))
  clear Hx39 Hx40 Hx41 Hx42 Hx43 Hx44
  clear hmr
  clear hm hr hYZ hZ hout hsz hd hpre ea20 h2
  refine QChain.cons rfl fun Z act hYZ hZ hout hsz hd hpre => ?_
  have h0 := hd ⟨0, .data⟩ (by simp) rfl _ rfl
  have h3 := hd ⟨3, .data⟩ (by simp) rfl _ rfl
  have ea18 : act.eval (.tmp 18) = .pointer (some ⟨g, 0, none⟩) := h0
  have ea21 : act.eval (.tmp 21) = hv (shaF (baB x.ba)) := h3
  refine qc_call (args := #[.pointer (some ⟨g, 0, none⟩), hv (shaF (baB x.ba))]) rfl (wanted_none rfl) (by rw [ex_callF rfl Try.func66 (by kernel_rfl) (by kernel_rfl)]; exact congrArg (fun z => Result.ok (Next.enter _ z) _) (by simp only [List.map_toArray, List.map_cons, List.map_nil, ea18, ea21]; try rfl)) (WHash_Q Hx50.out (show HK _ from ⟨shaF_len _, shaF_bytes _⟩) (by have := HL.out; simp only [List.length_append] at this ⊢; omega)) ?_
  rintro e u2_2a ⟨rfl, qwr, hm⟩
  have zu2_2a := hm.size
  refine ⟨_, rfl, hm.mono (by intro k hk h; (try dsimp only at h ⊢); (try simp only [false_or, or_false, true_and] at h ⊢); omega), (fun _ => rfl), ?_⟩
  intro u2_2 hr
  have zu2_2 := hr.size
  have Hx51 := Lib.hid ((qwr.widen (R' := (fun k => (u1_0.heap.size ≤ k ∧ k < u1_1a.heap.size) ∨ (u1_1.heap.size ≤ k ∧ k < u1_2a.heap.size) ∨ (u1_2.heap.size ≤ k ∧ k < u1_3a.heap.size) ∨ (u1_3.heap.size ≤ k ∧ k < u1_4a.heap.size) ∨ (u1_4.heap.size ≤ k ∧ k < u1_5a.heap.size) ∨ (u2_1.heap.size ≤ k ∧ k < u2_2a.heap.size))) (by intro k h1; (try unfold New at h1); (try dsimp only at h1 ⊢); (try simp only [false_or] at h1 ⊢); omega) (Nat.le_refl _)).mod hr (by intro k h1 h2; (try dsimp only at h1 h2); (try simp only [false_or] at h1 h2); omega))
  have hmr := hm.two hr
  have Hx52 := Lib.hid (Hx45.out.mod hmr (by intro k h1 h2; (try dsimp only at h1 h2); (try simp only [false_or] at h1 h2); rcases h2 with (h2 | h2 | h2 | h2 | h2) | h2 <;> (first | omega | (have hb := HBT.out k h1; omega) | (have hb := HBT.out k h2; omega))))
  have Hx53 := Lib.hid (Hx46.out.mod hmr (by intro k h1 h2; (try dsimp only at h1 h2); (try simp only [false_or] at h1 h2); rcases h2 with (h2 | h2 | h2 | h2 | h2) | h2 <;> (first | omega | (have hb := HBT.out k h1; omega) | (have hb := HBT.out k h2; omega))))
  have Hx54 := Lib.hid (Hx47.out.mod hmr (by intro k h1 h2; (try dsimp only at h1 h2); (try simp only [false_or] at h1 h2); rcases h2 with (h2 | h2 | h2 | h2 | h2) | h2 <;> (first | omega | (have hb := HBT.out k h1; omega) | (have hb := HBT.out k h2; omega))))
  have Hx55 := Lib.hid (Hx48.out.mod hmr (by intro h2; (try dsimp only at h2); (try simp only [false_or] at h2); omega))
  have Hx56 := Lib.hid (Hx49.out.trans hmr (by intro k h1 h2; (try dsimp only at h2 ⊢); (try simp only [false_or] at h2 ⊢); omega))
  clear Hx45 Hx46 Hx47 Hx48 Hx49
  clear hmr
  clear hm hr hYZ hZ hout hsz hd hpre qwr Hx50 ea18 ea21 h0 h3
  refine QChain.cons rfl fun Z act hYZ hZ hout hsz hd hpre => ?_
  have h4 := hd ⟨4, .data⟩ (by simp) rfl _ rfl
  have ea22 : act.eval (.tmp 22) = .pointer (some ⟨g, 0, none⟩) := h4
  refine qc_call (args := #[.pointer (some ⟨g, 0, none⟩)]) rfl (wanted_none rfl) (by rw [ex_callF rfl Try.func50 (by kernel_rfl) (by kernel_rfl)]; exact congrArg (fun z => Result.ok (Next.enter _ z) _) (by simp only [List.map_toArray, List.map_cons, List.map_nil, ea22]; try rfl)) (WBytes_Q Hx51.out) ?_
  rintro e u2_3a ⟨vb, rfl, qout, hm⟩
  have zu2_3a := hm.size
  refine ⟨_, rfl, hm.mono (fun _ _ h => h.elim), (fun _ => rfl), ?_⟩
  intro u2_3 hr
  have zu2_3 := hr.size
  have Hx57 := Lib.hid ((qout.widen (R' := (fun k => (u2_2.heap.size ≤ k ∧ k < u2_3a.heap.size))) (by intro k h1; (try unfold New at h1); (try dsimp only at h1 ⊢); (try simp only [false_or] at h1 ⊢); omega) (Nat.le_refl _)).mod hr (by intro k h1 h2; (try dsimp only at h1 h2); (try simp only [false_or] at h1 h2); omega))
  have hmr := Mod.after hm hr
  have Hx58 := Lib.hid (Hx52.out.mod hmr (by intro k h1 h2; (try dsimp only at h1 h2); (try simp only [false_or] at h1 h2); (first | omega | (have hb := HBT.out k h1; omega) | (have hb := HBT.out k h2; omega))))
  have Hx59 := Lib.hid (Hx53.out.mod hmr (by intro k h1 h2; (try dsimp only at h1 h2); (try simp only [false_or] at h1 h2); (first | omega | (have hb := HBT.out k h1; omega) | (have hb := HBT.out k h2; omega))))
  have Hx60 := Lib.hid (Hx54.out.mod hmr (by intro k h1 h2; (try dsimp only at h1 h2); (try simp only [false_or] at h1 h2); (first | omega | (have hb := HBT.out k h1; omega) | (have hb := HBT.out k h2; omega))))
  have Hx61 := Lib.hid (Hx55.out.mod hmr (by intro h2; (try dsimp only at h2); (try simp only [false_or] at h2); omega))
  have Hx62 := Lib.hid (Hx56.out.trans hmr (by intro k h1 h2; (try dsimp only at h2 ⊢); (try simp only [false_or] at h2 ⊢); omega))
  have Hx63 := Lib.hid (Hx51.out.mod hmr (by intro k h1 h2; (try dsimp only at h1 h2); (try simp only [false_or] at h1 h2); omega))
  clear Hx52 Hx53 Hx54 Hx55 Hx56 Hx51
  clear hmr
  clear hm hr hYZ hZ hout hsz hd hpre qout ea22 h4
  refine QChain.nil fun vs hl hzz hrows hne => ?_
  obtain ⟨Z, hYZ, hZb, hV⟩ := hzz
  obtain ⟨v0, vs0, rfl, hl0⟩ := list_cons hl
  obtain ⟨v1, vs1, rfl, hl1⟩ := list_cons hl0
  obtain ⟨v2, vs2, rfl, hl2⟩ := list_cons hl1
  obtain ⟨v3, vs3, rfl, hl3⟩ := list_cons hl2
  obtain ⟨v4, vs4, rfl, hl4⟩ := list_cons hl3
  obtain ⟨v5, vs5, rfl, hl5⟩ := list_cons hl4
  obtain ⟨v6, vs6, rfl, hl6⟩ := list_cons hl5
  obtain rfl := list_nil hl6
  clear hl hl0 hl1 hl2 hl3 hl4 hl5 hl6
  obtain rfl : v0 = .pointer (some ⟨g, 0, none⟩) := hV 0 _ rfl
  obtain rfl : v3 = hv (shaF (baB x.ba)) := hV 3 _ rfl
  obtain rfl : v4 = .pointer (some ⟨g, 0, none⟩) := hV 4 _ rfl
  have e5 := Option.some.inj (show some (vb) = some v5 from hV 5 _ rfl)
  subst e5
  have e6 := Option.some.inj (show some (vb) = some v6 from hV 6 _ rfl)
  subst e6
  have ha0 := HA0.out
  subst ha0
  clear HA0 hV hYZ hZb hsz0 hrows hne oe1 oe3
  simp only [putAll, Act.put, List.setIfInBounds_toArray, List.set_cons_zero, List.set_cons_succ]
  go_wp2
  go_ret
  have hq := (Hx57.out.widen (R' := (fun k => New w u2_3 k)) (by intro k h1; (try dsimp only at h1 ⊢); (try simp only [false_or] at h1 ⊢); unfold New; omega) (Nat.le_refl _))
  simp only [List.append_assoc, List.nil_append] at hq
  exact ⟨vb, rfl, by simpa only [propT, wProp, List.append_assoc] using hq, Hx62.out⟩
end Go.Proofs.Ytknpapcfhnhheaa

/- wire.ValidConf, N, Quorum, and the statement WireConfs. -/
set_option maxRecDepth 100000
namespace Go.Proofs.Ytknpapcfhnhheaa
open Go Go.RowKit Go.Gv

def okConf (F C : Int) : Bool := decide (1 ≤ F ∧ F ≤ 21 ∧ 1 ≤ C ∧ C ≤ 100)

theorem ValidConf_any (F C : Int) (w : World) : Calls Try.prog 51 #[.agg #[.int .i64 F, .int .i64 C]] w fun e w' => e = .returned (.bool (okConf F C)) ∧ Mod (fun _ => False) w w' := by
  unfold okConf
  rcases Int.lt_or_le F 1 with h1 | h1
  · have hd : (decide ((1 : Int) ≤ F)) = false := by simp; omega
    go_enter Try.func51, Try.ntmps51
    go_wp2
    go_ret
    exact ⟨ret_bool (by simp; omega), (Mod.refl _ _).alloc _⟩
  rcases Int.lt_or_le 21 F with h2 | h2
  · have hd : (decide (F ≤ (21 : Int))) = false := by simp; omega
    go_enter Try.func51, Try.ntmps51
    go_wp2
    go_ret
    exact ⟨ret_bool (by simp; omega), (Mod.refl _ _).alloc _⟩
  rcases Int.lt_or_le C 1 with h3 | h3
  · have hd : (decide ((1 : Int) ≤ C)) = false := by simp; omega
    go_enter Try.func51, Try.ntmps51
    go_wp2
    go_ret
    exact ⟨ret_bool (by simp; omega), (Mod.refl _ _).alloc _⟩
  rcases Int.lt_or_le 100 C with h4 | h4
  · have hd : (decide (C ≤ (100 : Int))) = false := by simp; omega
    go_enter Try.func51, Try.ntmps51
    go_wp2
    go_ret
    exact ⟨ret_bool (by simp; omega), (Mod.refl _ _).alloc _⟩
  · go_enter Try.func51, Try.ntmps51
    go_wp2
    go_ret
    exact ⟨ret_bool (by simp; omega), (Mod.refl _ _).alloc _⟩

theorem N_any (F C : Int) (h : -1000 ≤ F ∧ F ≤ 1000) (w : World) : Calls Try.prog 48 #[.agg #[.int .i64 F, .int .i64 C]] w fun e w' => e = .returned (.int .i64 (3 * F + 1)) ∧ Mod (fun _ => False) w w' := by
  obtain ⟨h1, h2⟩ := h
  go_enter Try.func48, Try.ntmps48
  go_wp2
  go_ret
  exact ⟨rfl, (Mod.refl _ _).alloc _⟩
theorem Quorum_any (F C : Int) (h : -1000 ≤ F ∧ F ≤ 1000) (w : World) : Calls Try.prog 49 #[.agg #[.int .i64 F, .int .i64 C]] w fun e w' => e = .returned (.int .i64 (2 * F + 1)) ∧ Mod (fun _ => False) w w' := by
  obtain ⟨h1, h2⟩ := h
  go_enter Try.func49, Try.ntmps49
  go_wp2
  go_ret
  exact ⟨rfl, (Mod.refl _ _).alloc _⟩

theorem wakes05 (w : World) : Calls Try.prog 19 #[] w fun e w' => e = .returned (.bool true) ∧ Mod (fun _ => False) w w' := by
  go_enter Try.func19, Try.ntmps19
  go_wp2_with fail
  refine (N_any 1 0 (by omega) _).mono ?_
  rintro e w1 ⟨rfl, hm1⟩
  have HM1 := Lib.hid hm1
  clear hm1
  go_wp2_with fail
  refine (Quorum_any 1 0 (by omega) _).mono ?_
  rintro e w2 ⟨rfl, hm2⟩
  have HM2 := Lib.hid hm2
  clear hm2
  go_wp2
  go_ret
  exact ⟨rfl, HM1.out.trans HM2.out (fun _ _ h => h)⟩

end Go.Proofs.Ytknpapcfhnhheaa
