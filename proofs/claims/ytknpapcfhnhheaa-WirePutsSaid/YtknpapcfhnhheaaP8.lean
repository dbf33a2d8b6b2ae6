/- WirePuts: for every four readings the law returns true. No condition. -/
import Derived.Test.YtknpapcfhnhheaaP7
import Derived.Deep.RegionWith
import Derived.ProofKit
import Derived.OpenShut
import Derived.ChangeOld
/- The reference's hash of a batch, text of a proposal. -/
set_option maxRecDepth 100000
set_option linter.unusedVariables false
namespace Go.Proofs.Ytknpapcfhnhheaa
open Go Go.RowKit Go.Gv

set_option maxHeartbeats 4000000 in
theorem RefBatchHash_Q : Hashes BaR 43 baB := by
  intro R2 cs x w hx hB2 hl
  obtain ⟨v_ps, v_os, v_ts, rfl, hok, hs0, hs1, hs2⟩ := hx
  obtain ⟨ao_sl_ps, cap_sl_ps, rfl⟩ := hs0.shape
  have hb0 : x.ps.length ≤ maxLen := hs0.bd
  rw [maxLen_val] at hb0
  have HI0 := hid (show I64 (x.ps.length : Int) by unfold I64; omega)
  have HS0 := Lib.hid hs0
  clear hs0
  obtain ⟨ao_sl_os, cap_sl_os, rfl⟩ := hs1.shape
  have hb1 : x.os.length ≤ maxLen := hs1.bd
  rw [maxLen_val] at hb1
  have HI1 := hid (show I64 (x.os.length : Int) by unfold I64; omega)
  have HS1 := Lib.hid hs1
  clear hs1
  obtain ⟨ao_sl_ts, cap_sl_ts, rfl⟩ := hs2.shape
  have hb2 : x.ts.length ≤ maxLen := hs2.bd
  rw [maxLen_val] at hb2
  have HI2 := hid (show I64 (x.ts.length : Int) by unfold I64; omega)
  have HS2 := Lib.hid hs2
  clear hs2
  have HBT := Lib.hid hB2
  have HOK := Lib.hid hok
  have HL := Lib.hid hl
  clear hB2 hl hok
  skip
  go_enter Try.func43, Try.ntmps43
  go_upto_region 1 with (fail)
  obtain ⟨w1, hw1⟩ : ∃ zz, zz = ((w.alloc (.cells (x.cells (.slice ao_sl_ps x.ps.length cap_sl_ps) (.slice ao_sl_os x.os.length cap_sl_os) (.slice ao_sl_ts x.ts.length cap_sl_ts) : List Value).toArray 60)).alloc (.cells #[.int .u8 0, .int .u8 0, .int .u8 0, .int .u8 0, .int .u8 0, .int .u8 0, .int .u8 0, .int .u8 0, .int .u8 0, .int .u8 0, .int .u8 0, .int .u8 0, .int .u8 0, .int .u8 0, .int .u8 0, .int .u8 0, .int .u8 0, .int .u8 0, .int .u8 0, .int .u8 0, .int .u8 0, .int .u8 0, .int .u8 0, .int .u8 0, .int .u8 0, .int .u8 0, .int .u8 0, .int .u8 0, .int .u8 0, .int .u8 0, .int .u8 0, .int .u8 0] 25)) := ⟨_, rfl⟩
  change Code.wp _ _ _ _ ((w.alloc (.cells (x.cells (.slice ao_sl_ps x.ps.length cap_sl_ps) (.slice ao_sl_os x.os.length cap_sl_os) (.slice ao_sl_ts x.ts.length cap_sl_ts) : List Value).toArray 60)).alloc (.cells #[.int .u8 0, .int .u8 0, .int .u8 0, .int .u8 0, .int .u8 0, .int .u8 0, .int .u8 0, .int .u8 0, .int .u8 0, .int .u8 0, .int .u8 0, .int .u8 0, .int .u8 0, .int .u8 0, .int .u8 0, .int .u8 0, .int .u8 0, .int .u8 0, .int .u8 0, .int .u8 0, .int .u8 0, .int .u8 0, .int .u8 0, .int .u8 0, .int .u8 0, .int .u8 0, .int .u8 0, .int .u8 0, .int .u8 0, .int .u8 0, .int .u8 0, .int .u8 0] 25))
  rw [← hw1]
  have HB1 := hid (show Cs w1 (w.heap.size) (x.cells (.slice ao_sl_ps x.ps.length cap_sl_ps) (.slice ao_sl_os x.os.length cap_sl_os) (.slice ao_sl_ts x.ts.length cap_sl_ts) : List Value).toArray 60 by rw [hw1]; exact (Cs.new _ _ _).alloc _)
  have HB2 := hid (show Cs w1 (w.heap.size + 1) #[.int .u8 0, .int .u8 0, .int .u8 0, .int .u8 0, .int .u8 0, .int .u8 0, .int .u8 0, .int .u8 0, .int .u8 0, .int .u8 0, .int .u8 0, .int .u8 0, .int .u8 0, .int .u8 0, .int .u8 0, .int .u8 0, .int .u8 0, .int .u8 0, .int .u8 0, .int .u8 0, .int .u8 0, .int .u8 0, .int .u8 0, .int .u8 0, .int .u8 0, .int .u8 0, .int .u8 0, .int .u8 0, .int .u8 0, .int .u8 0, .int .u8 0, .int .u8 0] 25 by rw [hw1]; exact Cs_newN _ _ _ (by simp))
  have hm : Mod (fun _ => False) w w1 := by rw [hw1]; exact ((Mod.refl _ _).alloc _).alloc _
  have HM0 := hid (show Mod (fun _ => False) w w1 from hm.mono (fun _ _ h => h.elim))
  have hs1 : w1.heap.size = w.heap.size + 2 := by rw [hw1]; simp
  have Hx1 := hid (HS0.out.mod hm (fun _ _ h => h))
  clear HS0
  have Hx2 := hid (HS1.out.mod hm (fun _ _ h => h))
  clear HS1
  have Hx3 := hid (HS2.out.mod hm (fun _ _ h => h))
  clear HS2
  clear hw1 hm
  go_upto_region 1 with (fail)
  generalize ha0 : Act.mk _ _ = a0
  have oe1 : a0.eval (.tmp 1) = .pointer (some ⟨w.heap.size, 0, none⟩) := by rw [← ha0]; rfl
  have oe2 : a0.eval (.tmp 2) = .pointer (some ⟨w.heap.size + 1, 0, none⟩) := by rw [← ha0]; rfl
  have hsz0 : a0.tmps.size = 6 := by rw [← ha0]; rfl
  have HA0 := hid ha0
  clear ha0
  refine wp_region_Q1 6 hsz0 [3, 4, 5, 9] (fun k => (k = w.heap.size + 1)) (fun k j => (k = 2 ∧ ((j = w.heap.size + 1)))) (fun _ _ h => h.2) [qi (.agg (x.cells (.slice ao_sl_ps x.ps.length cap_sl_ps) (.slice ao_sl_os x.os.length cap_sl_os) (.slice ao_sl_ts x.ts.length cap_sl_ts)).toArray), qv 0, qi (hv (shaF (baB x))), qv 2] ⟨qi_stable, qv_stable, qi_stable, qv_stable, trivial⟩ [1, 2, 3] ⟨?_, ?_, ?_, ?_, trivial⟩ ?_
  · exact stq (fun E => ex_loadA rfl Try.underlying60 rfl (off := 0) (cs := x.cells (.slice ao_sl_ps x.ps.length cap_sl_ps) (.slice ao_sl_os x.os.length cap_sl_os) (.slice ao_sl_ts x.ts.length cap_sl_ts)) (by kernel_rfl) (E.v oe1) (Cs.whole (HB1.out.mod E.m (by intro h2; omega))))
  · exact stepq_chain rfl
  · exact stepq_chain rfl
  · exact stepq_chain rfl
  intro u1_0 hr
  have zu1_0 := hr.size
  have Cx4 := hid (hr.new (S := (fun k => (k = w.heap.size + 1))))
  have Hx5 := hid (HB2.out.mod hr (by intro h2; omega))
  clear HB2
  clear hr
  refine QChain.go fun Z act E => ?_
  refine qc_callF (args := #[.agg (x.cells (.slice ao_sl_ps x.ps.length cap_sl_ps) (.slice ao_sl_os x.os.length cap_sl_os) (.slice ao_sl_ts x.ts.length cap_sl_ts)).toArray]) rfl (wanted_none rfl) rfl Try.func24 (args1 (E.d 0)) (RefBa_Q _ _ x _ ⟨_, _, _, rfl, HOK.out, (Hx1.out.mod Cx4.out (by intro k h1 h2; have hb := HBT.out k h1; omega)), (Hx2.out.mod Cx4.out (by intro k h1 h2; have hb := HBT.out k h1; omega)), (Hx3.out.mod Cx4.out (by intro k h1 h2; have hb := HBT.out k h1; omega))⟩ (by intro k h1; have hb := HBT.out k h1; omega) HL.out) ?_
  rintro e u1_1a ⟨v_a1, rfl, qa1, hm⟩
  obtain ⟨ao_a1, cap_a1, rfl⟩ := qa1.shape
  have zu1_1a := hm.size
  refine ⟨_, rfl, hm.mono (fun _ _ h => h.elim), (fun _ => rfl), ?_⟩
  intro u1_1 hr
  have zu1_1 := hr.size
  have Hx6 := hid ((qa1.widen (R' := (fun k => (New u1_0 u1_1a k))) (fun _ h => h) (Nat.le_refl _)).mod hr (by intro k h1 h2; omega))
  have hmr := Mod.after hm hr
  have Hx7 := hid (Hx5.out.mod hmr (by intro h2; omega))
  clear Hx5
  clear hmr
  have Cx8 := hid (Cx4.out.go hm hr)
  clear Cx4 hm hr Z act E qa1
  refine QChain.go fun Z act E => ?_
  refine qc_callF (args := #[.slice ao_a1 ((baB x).length) cap_a1]) rfl (wanted_none rfl) rfl Try.func97 (args1 (chv (v := .slice ao_a1 ((baB x).length) cap_a1) (E.d 1))) (RefSum_any _ (baB x) _ Hx6.out.rd.1 HL.out) ?_
  rintro e u1_2a ⟨rfl, hm⟩
  have zu1_2a := hm.size
  refine ⟨_, rfl, hm.mono (fun _ _ h => h.elim), (fun _ => rfl), ?_⟩
  intro u1_2 hr
  have zu1_2 := hr.size
  have hmr := Mod.after hm hr
  have Hx9 := hid (Hx7.out.mod hmr (by intro h2; omega))
  have Hx10 := hid (Hx6.out.mod hmr (by intro k h1 h2; omega))
  clear Hx7 Hx6
  clear hmr
  have Cx11 := hid (Cx8.out.go hm hr)
  clear Cx8 hm hr Z act E
  refine QChain.go fun Z act E => ?_
  refine qc_store rfl (wanted_none rfl) rfl Hx9.out (off := 0) (vs := (shaF (baB x)).map bv) (by rw [List.length_map, shaF_len]; exact size_hash) (ints_oneCell .u8 _) (by rw [List.length_map, shaF_len]; decide) (E.v oe2) (by rw [show act.eval ((.tmp 5)) = _ from (E.d 2)]; rfl) ?_
  intro u1_3a qc0 hm
  have qB2 : Cs u1_3a (w.heap.size + 1) ((shaF (baB x)).map bv : List Value).toArray 25 := by rw [show lay _ 0 _ = ((shaF (baB x)).map bv : List Value).toArray from lay_whole _ _ (by rw [List.length_map, shaF_len]; rfl)] at qc0; exact qc0
  clear qc0
  have zu1_3a := hm.size
  refine ⟨hm.mono (by intro k hk h; omega), (fun _ => rfl), ?_⟩
  intro u1_3 hr
  have zu1_3 := hr.size
  have Hx12 := hid (qB2.mod hr (by intro h2; omega))
  have hmr := hm.two hr
  have Hx13 := hid (Hx10.out.mod hmr (by intro k h1 h2; omega))
  clear Hx10
  clear hmr
  have Cx14 := hid (Cx11.out.goM hm hr (fun _ _ h => h))
  clear Cx11 hm hr Z act E qB2 Hx9
  refine QChain.nil fun vs hl hzz hrows hne => ?_
  obtain ⟨Z, hYZ, hZb, hV⟩ := hzz
  have f1 := fvc hV hl 1
  have f2 := fvi hV hl 2
  rw [show vs = [gw vs 0, gw vs 1, gw vs 2, gw vs 3] from (gw_eta hl).trans rfl]
  have ha0 := HA0.out
  subst ha0
  clear HA0 hV hYZ hZb hsz0 hrows hne oe1 oe2
  simp only [putAll, Act.put, List.setIfInBounds_toArray, List.set_cons_zero, List.set_cons_succ, List.set_nil, f1, f2]
  clear hl f1 f2
  go_wp2
  have hs := Hx12.out
  have hsz : (Try.prog.info? 25).map (·.size) = some ((shaF (baB x)).map bv).length := by rw [List.length_map, shaF_len]; exact size_hash
  exact bodyPost_ret (results_cellA rfl _ _ (w.heap.size + 1) ((shaF (baB x)).map bv) rfl (fun k u hu => by rw [Cs.cell hs]; simpa using hu) Try.underlying25 rfl hsz) rfl ⟨rfl, (HM0.out.trans Cx14.out (by intro k h1 h2; omega))⟩
end Go.Proofs.Ytknpapcfhnhheaa

/- How long bytes are; lists of values. -/
set_option maxRecDepth 100000
set_option linter.unusedVariables false
namespace Go.Proofs.Ytknpapcfhnhheaa
open Go Go.RowKit Go.Gv


theorem RdS_mem {α : Type} {A : Rep α} {R : Nat → Prop} {w : World} {v : Value} {l : List α} (h : RdS A R w v l) : ∀ a ∈ l, ∃ cs, A.rd R w cs a := by
  obtain ⟨css, h1, h2, -⟩ := h
  intro a ha
  obtain ⟨i, hi, rfl⟩ := List.getElem_of_mem ha
  exact ⟨css[i], h2 i _ _ (List.getElem?_eq_getElem (by omega)) (List.getElem?_eq_getElem hi)⟩
theorem flatB_le {α : Type} (f : α → List Int) (N : Nat) : ∀ l : List α, (∀ a ∈ l, (f a).length ≤ N) → ((l.map f).flatten).length ≤ l.length * N
  | [], _ => by simp
  | a :: r, h => by
    have h1 := h a (by simp)
    have h2 := flatB_le f N r (fun b hb => h b (by simp [hb]))
    simp only [List.map_cons, List.flatten_cons, List.length_append, List.length_cons, Nat.add_mul]
    omega
theorem listB_len {α : Type} (f : α → List Int) {N M : Nat} {l : List α} (hl : l.length ≤ M) (hM : M ≤ 1000000) (h : ∀ a ∈ l, (f a).length ≤ N) : (listB f l).length ≤ 10 + M * N := by
  have h1 := flatB_le f N l h
  have h2 := encI_len0 (l.length : Int) (by unfold I64; omega)
  have h3 := Nat.mul_le_mul_right N hl
  simp only [listB, List.length_append]
  omega
theorem stB_len {x : St} (h : x.OK) : (stB x).length ≤ 92 := by
  have h1 := encI_len0 _ h.rp; have h2 := encI_len0 _ h.cl; have h3 := encI_len0 _ h.sq; have h4 := (encN_len10 h.tm).2; have h5 := encI_len0 _ h.sb; have h6 := encI_len0 _ h.mr; have h7 := h.h.1
  simp only [stB, nameB, sigB, List.length_append]; omega
theorem cmB_len {x : Cm} (h : x.OK) : (cmB x).length ≤ 82 := by
  obtain ⟨⟨a, b, c, d, e⟩, f⟩ := h
  have h1 := encI_len0 _ a; have h2 := encI_len0 _ b; have h3 := encI_len0 _ c; have h4 := encI_len0 _ d; have h5 := encI_len0 _ e; have h7 := f.1
  simp only [cmB, nameB, sigB, List.length_append]; omega
theorem ceB_len {R : Nat → Prop} {w : World} {cs : List Value} {x : Ce} (h : CeR.rd R w cs x) (hl : x.l.length ≤ 5) : (ceB x).length ≤ 552 := by
  obtain ⟨_, rfl, hok, hs⟩ := h
  have h1 := listB_len stB hl (by decide) (fun a ha => by obtain ⟨cs, e, hk⟩ := RdS_mem hs a ha; exact stB_len hk)
  have h2 := cmB_len hok
  simp only [ceB, List.length_append]; omega
theorem Same_true {R R' : Nat → Prop} {N N' : Nat} {va vb : Value} {a b : List Int} {w : World} (ha : RdR R N w va a) (hb : RdR R' N' w vb b) (h : a = b) :
    Calls Try.prog 18 #[va, vb] w fun e w' => e = .returned (.bool true) ∧ Mod (fun _ => False) w w' :=
  (Same_R ha hb).mono fun _ _ ⟨he, hm⟩ => ⟨he.trans (by rw [decide_eq_true h]), hm⟩
theorem pmB_len {R : Nat → Prop} {w : World} {cs : List Value} {x : Pm} (h : PmR.rd R w cs x) (hl : ∃ y, x = cutPm y) : (pmB x).length ≤ 1800 := by
  obtain ⟨y, rfl⟩ := hl
  obtain ⟨_, rfl, ⟨a, b, c, d, e⟩, hs⟩ := h
  have h1 := encI_len0 _ a; have h2 := encI_len0 _ b; have h3 := (encN_len10 c).2; have h4 := encI_len0 _ d; have h5 := encI_len0 _ e
  have h6 := listB_len ceB (M := 3) (show (cutPm y).l.length ≤ 3 by simp [cutPm]; omega) (by decide) (fun z hz => by
    obtain ⟨cs, hc⟩ := RdS_mem hs z hz
    refine ceB_len hc ?_
    obtain ⟨u, -, rfl⟩ := List.mem_map.1 hz
    simp [cutCe]; omega)
  simp only [pmB, sigB, List.length_append]; omega
theorem opB_len {R : Nat → Prop} {w : World} {cs : List Value} {x : Op} (h : OpR.rd R w cs x) (hl : x.pl.length ≤ 260) : (opB x).length ≤ 312 := by
  obtain ⟨_, rfl, ⟨a, b⟩, hs⟩ := h
  have h1 := encI_len0 _ a; have h2 := (encN_len10 (n := x.pl.length) (by unfold U64; omega)).2; have h3 := b.1
  simp only [opB, List.length_append]; omega
theorem dnB_len {x : Dn} (h : x.OK) : (dnB x).length ≤ 40 := by
  have h1 := encI_len0 _ h.rp; have h2 := encI_len0 _ h.ix; have h5 := encI_len0 _ h.sb; have h6 := encI_len0 _ h.mr
  simp only [dnB, sigB, List.length_append]; omega
theorem tbB_len {R : Nat → Prop} {w : World} {cs : List Value} {x : Tb} (h : TbR.rd R w cs x) (hl : x.l.length ≤ 5) : (tbB x).length ≤ 220 := by
  obtain ⟨_, rfl, a, hs⟩ := h
  have h1 := encI_len0 _ a
  have h2 := listB_len dnB hl (by decide) (fun z hz => by obtain ⟨cs, e, hk⟩ := RdS_mem hs z hz; exact dnB_len hk)
  simp only [tbB, List.length_append]; omega
theorem baB_len {R : Nat → Prop} {w : World} {x : Ba} {vp vo vt : Value} (hok : x.OK) (hp : RdS PmR R w vp (cutBa x).ps) (ho : RdS OpR R w vo (cutBa x).os) (ht : RdS TbR R w vt (cutBa x).ts) : (baB (cutBa x)).length ≤ 100000 := by
  have h1 := encI_len0 _ hok.1; have h2 := (encN_len10 hok.2).2
  have h3 := listB_len pmB (M := 4) (l := (cutBa x).ps) (by simp [cutBa]; omega) (by decide) (fun z hz => by
    obtain ⟨cs, hc⟩ := RdS_mem hp z hz
    obtain ⟨u, -, rfl⟩ := List.mem_map.1 hz
    exact pmB_len hc ⟨u, rfl⟩)
  have h4 := listB_len opB (M := 4) (l := (cutBa x).os) (by simp [cutBa]; omega) (by decide) (fun z hz => by
    obtain ⟨cs, hc⟩ := RdS_mem ho z hz
    obtain ⟨u, -, rfl⟩ := List.mem_map.1 hz
    exact opB_len hc (by simp [cutOp]; omega))
  have h5 := listB_len tbB (M := 4) (l := (cutBa x).ts) (by simp [cutBa]; omega) (by decide) (fun z hz => by
    obtain ⟨cs, hc⟩ := RdS_mem ht z hz
    obtain ⟨u, -, rfl⟩ := List.mem_map.1 hz
    exact tbB_len hc (by simp [cutTb]; omega))
  have e1 : (encI (cutBa x).ep).length ≤ 10 := h1
  have e2 : (encN (cutBa x).tm).length ≤ 10 := h2
  simp only [baB, List.length_append]; omega
end Go.Proofs.Ytknpapcfhnhheaa

/- wire.ValidConf, N, Quorum, and the statement WireConfs. -/
set_option maxRecDepth 100000
namespace Go.Proofs.Ytknpapcfhnhheaa
open Go Go.RowKit Go.Gv

def okConf (F C : Int) : Bool := decide (1 ≤ F ∧ F ≤ 21 ∧ 1 ≤ C ∧ C ≤ 100)

theorem ValidConf_any (F C : Int) (w : World) : Calls Try.prog 51 #[.agg #[.int .i64 F, .int .i64 C]] w fun e w' => e = .returned (.bool (okConf F C)) ∧ Mod (fun _ => False) w w' := by
  unfold okConf
  rcases Int.lt_or_le F 1 with h1 | h1
  · have hd : (decide ((1 : Int) ≤ F)) = false := by simp; omega
    go_enter Try.func51, Try.ntmps51
    go_wp2
    go_ret
    exact ⟨ret_bool (by simp; omega), (Mod.refl _ _).alloc _⟩
  rcases Int.lt_or_le 21 F with h2 | h2
  · have hd : (decide (F ≤ (21 : Int))) = false := by simp; omega
    go_enter Try.func51, Try.ntmps51
    go_wp2
    go_ret
    exact ⟨ret_bool (by simp; omega), (Mod.refl _ _).alloc _⟩
  rcases Int.lt_or_le C 1 with h3 | h3
  · have hd : (decide ((1 : Int) ≤ C)) = false := by simp; omega
    go_enter Try.func51, Try.ntmps51
    go_wp2
    go_ret
    exact ⟨ret_bool (by simp; omega), (Mod.refl _ _).alloc _⟩
  rcases Int.lt_or_le 100 C with h4 | h4
  · have hd : (decide (C ≤ (100 : Int))) = false := by simp; omega
    go_enter Try.func51, Try.ntmps51
    go_wp2
    go_ret
    exact ⟨ret_bool (by simp; omega), (Mod.refl _ _).alloc _⟩
  · go_enter Try.func51, Try.ntmps51
    go_wp2
    go_ret
    exact ⟨ret_bool (by simp; omega), (Mod.refl _ _).alloc _⟩

theorem N_any (F C : Int) (h : -1000 ≤ F ∧ F ≤ 1000) (w : World) : Calls Try.prog 48 #[.agg #[.int .i64 F, .int .i64 C]] w fun e w' => e = .returned (.int .i64 (3 * F + 1)) ∧ Mod (fun _ => False) w w' := by
  obtain ⟨h1, h2⟩ := h
  go_enter Try.func48, Try.ntmps48
  go_wp2
  go_ret
  exact ⟨rfl, (Mod.refl _ _).alloc _⟩
theorem Quorum_any (F C : Int) (h : -1000 ≤ F ∧ F ≤ 1000) (w : World) : Calls Try.prog 49 #[.agg #[.int .i64 F, .int .i64 C]] w fun e w' => e = .returned (.int .i64 (2 * F + 1)) ∧ Mod (fun _ => False) w w' := by
  obtain ⟨h1, h2⟩ := h
  go_enter Try.func49, Try.ntmps49
  go_wp2
  go_ret
  exact ⟨rfl, (Mod.refl _ _).alloc _⟩

theorem wakes05 (w : World) : Calls Try.prog 19 #[] w fun e w' => e = .returned (.bool true) ∧ Mod (fun _ => False) w w' := by
  go_enter Try.func19, Try.ntmps19
  go_wp2_with fail
  refine (N_any 1 0 (by omega) _).mono ?_
  rintro e w1 ⟨rfl, hm1⟩
  have HM1 := Lib.hid hm1
  clear hm1
  go_wp2_with fail
  refine (Quorum_any 1 0 (by omega) _).mono ?_
  rintro e w2 ⟨rfl, hm2⟩
  have HM2 := Lib.hid hm2
  clear hm2
  go_wp2
  go_ret
  exact ⟨rfl, HM1.out.trans HM2.out (fun _ _ h => h)⟩

end Go.Proofs.Ytknpapcfhnhheaa

/- WirePuts: the walk. -/
set_option maxRecDepth 100000
set_option linter.unusedVariables false
namespace Go.Proofs.Ytknpapcfhnhheaa
open Go Go.RowKit Go.Gv

set_option maxHeartbeats 2000000 in
theorem WPutCe_Q : Puts CeR 45 ceB := by
  intro R R2 g bs cs x w hW hB hx hB2 hD hl
  have HRDX := Lib.hid hx
  obtain ⟨v_l, rfl, hok, hs0⟩ := hx
  have HS0 := Lib.hid hs0
  clear hs0
  have HW := Lib.hid hW
  have HBR := Lib.hid hB
  have HBT := Lib.hid hB2
  have HDJ := Lib.hid hD
  have HOK := Lib.hid hok
  have HL := Lib.hid hl
  clear hW hB hB2 hD hl hok
  go_enter Try.func45, Try.ntmps45
  go_upto_region 1 with (fail)
  obtain ⟨w1, hw1⟩ : ∃ zz, zz = (w.alloc (.cells (x.cells v_l : List Value).toArray 52)) := ⟨_, rfl⟩
  change Code.wp _ _ _ _ (w.alloc (.cells (x.cells v_l : List Value).toArray 52))
  rw [← hw1]
  have HB3 := hid (show Cs w1 (w.heap.size) (x.cells v_l : List Value).toArray 52 by rw [hw1]; exact Cs.new _ _ _)
  have hm : Mod (fun _ => False) w w1 := by rw [hw1]; exact (Mod.refl _ _).alloc _
  have HM0 := hid (show Mod (fun k => (R k)) w w1 from hm.mono (fun _ _ h => h.elim))
  have hs1 : w1.heap.size = w.heap.size + 1 := by rw [hw1]; simp
  have Hx1 := hid (HW.out.mod hm (fun _ _ h => h))
  clear HW
  have Hx2 := hid (HS0.out.mod hm (fun _ _ h => h))
  clear HS0
  clear hw1 hm
  go_upto_region 1 with (fail)
  generalize ha0 : Act.mk _ _ = a0
  have oe0 : a0.eval (.tmp 0) = .pointer (some ⟨g, 0, none⟩) := by rw [← ha0]; rfl
  have oe3 : a0.eval (.tmp 3) = .pointer (some ⟨w.heap.size, 0, none⟩) := by rw [← ha0]; rfl
  have hsz0 : a0.tmps.size = 7 := by rw [← ha0]; rfl
  have HA0 := hid ha0
  clear ha0
  refine wp_region_Q1 7 hsz0 [4, 5, 6] (fun k => (R k)) (fun k j => (k = 0 ∧ ((R j)))) (fun _ _ h => h.2) [qi (.pointer (some ⟨g, 0, none⟩)), qi (.agg (x.cells v_l).toArray), qi (.tuple #[])] ⟨qi_stable, qi_stable, qi_stable, trivial⟩ [2] ⟨?_, ?_, ?_, trivial⟩ ?_
  · exact stq (fun E => ex_move rfl (E.v oe0))
  · exact stq (fun E => ex_loadA rfl Try.underlying52 rfl (off := 0) (cs := x.cells v_l) (by rw [CeR.len HRDX.out]; kernel_rfl) (E.v oe3) (Cs.whole (HB3.out.mod E.m (by intro h2; rcases h2 with ⟨h0, h2⟩ | h2 <;> first | omega | (have hb := HBR.out _ h2; omega)))))
  · exact stepq_chain rfl
  intro u1_0 hr
  have zu1_0 := hr.size
  have Cx3 := hid (hr.new (S := (fun k => (R k))))
  have Hx4 := hid (Hx1.out.mod hr (by intro k h1 h2; have hb := HBR.out k h1; omega))
  clear Hx1
  clear hr
  refine QChain.go fun Z act E => ?_
  refine qc_callF (args := #[.pointer (some ⟨g, 0, none⟩), .agg (x.cells v_l).toArray]) rfl (wanted_none rfl) rfl Try.func98 (args2 (E.d 0) (E.d 1)) (PutCe_Q _ R2 _ _ _ x _ Hx4.out (by intro k h1; have hb := HBR.out k h1; omega) ⟨_, rfl, HOK.out, (Hx2.out.mod Cx3.out (by intro k h1 h2; first | omega | (have hb := HBT.out k h1; omega) | (have hb := HBR.out k h2; omega) | exact HDJ.out k h1 h2 | exact HDJ.out k h2 h1 | (have hb := HBT.out k h1; have hb2 := HBR.out k h2; omega)))⟩ (by intro k h1; have hb := HBT.out k h1; omega) (by intro k h1 h2; first | omega | (have hb := HBR.out k h1; omega) | (have hb := HBT.out k h2; omega) | exact HDJ.out k h1 h2 | exact HDJ.out k h2 h1 | (have hb := HBR.out k h1; have hb2 := HBT.out k h2; omega)) HL.out) ?_
  rintro e u1_1a ⟨rfl, qwr, hm⟩
  have zu1_1a := hm.size
  refine ⟨_, rfl, hm.mono (by intro k hk h; first | omega | exact Or.inl ⟨(by have hb := HBR.out k h; omega), ⟨rfl, h⟩⟩), (fun _ => rfl), ?_⟩
  intro u1_1 hr
  have zu1_1 := hr.size
  have Hx5 := hid ((qwr.widen (R' := (fun k => (R k) ∨ (New u1_0 u1_1a k))) (fun _ h => h) (Nat.le_refl _)).mod hr (by intro k h1 h2; rcases h1 with h1 | h1 <;> first | omega | (have hb := HBR.out k h1; omega)))
  have Cx6 := hid (Cx3.out.goM hm hr (fun _ _ h => h))
  clear Cx3 hm hr Z act E qwr Hx4
  refine QChain.nil fun vs hl hzz hrows hne => ?_
  obtain ⟨Z, hYZ, hZb, hV⟩ := hzz
  have f0 := fvi hV hl 0
  have f2 := fvi hV hl 2
  rw [show vs = [gw vs 0, gw vs 1, gw vs 2] from (gw_eta hl).trans rfl]
  have ha0 := HA0.out
  subst ha0
  clear HA0 hV hYZ hZb hsz0 hrows hne oe0 oe3
  simp only [putAll, Act.put, List.setIfInBounds_toArray, List.set_cons_zero, List.set_cons_succ, f0, f2]
  clear hl f0 f2
  go_wp2
  go_end0
  exact ⟨rfl, (Hx5.out.widen (R' := (fun k => R k ∨ New w u1_1 k)) (by intro k h1; rcases h1 with h1 | h1 <;> first | exact Or.inl h1 | (right; omega)) (Nat.le_refl _)), (HM0.out.trans Cx6.out (fun _ _ h => h))⟩
set_option maxHeartbeats 2000000 in
theorem WPutPm_Q : Puts PmR 46 pmB := by
  intro R R2 g bs cs x w hW hB hx hB2 hD hl
  have HRDX := Lib.hid hx
  obtain ⟨v_l, rfl, hok, hs0⟩ := hx
  have HS0 := Lib.hid hs0
  clear hs0
  have HW := Lib.hid hW
  have HBR := Lib.hid hB
  have HBT := Lib.hid hB2
  have HDJ := Lib.hid hD
  have HOK := Lib.hid hok
  have HL := Lib.hid hl
  clear hW hB hB2 hD hl hok
  go_enter Try.func46, Try.ntmps46
  go_upto_region 1 with (fail)
  obtain ⟨w1, hw1⟩ : ∃ zz, zz = (w.alloc (.cells (x.cells v_l : List Value).toArray 55)) := ⟨_, rfl⟩
  change Code.wp _ _ _ _ (w.alloc (.cells (x.cells v_l : List Value).toArray 55))
  rw [← hw1]
  have HB3 := hid (show Cs w1 (w.heap.size) (x.cells v_l : List Value).toArray 55 by rw [hw1]; exact Cs.new _ _ _)
  have hm : Mod (fun _ => False) w w1 := by rw [hw1]; exact (Mod.refl _ _).alloc _
  have HM0 := hid (show Mod (fun k => (R k)) w w1 from hm.mono (fun _ _ h => h.elim))
  have hs1 : w1.heap.size = w.heap.size + 1 := by rw [hw1]; simp
  have Hx1 := hid (HW.out.mod hm (fun _ _ h => h))
  clear HW
  have Hx2 := hid (HS0.out.mod hm (fun _ _ h => h))
  clear HS0
  clear hw1 hm
  go_upto_region 1 with (fail)
  generalize ha0 : Act.mk _ _ = a0
  have oe0 : a0.eval (.tmp 0) = .pointer (some ⟨g, 0, none⟩) := by rw [← ha0]; rfl
  have oe3 : a0.eval (.tmp 3) = .pointer (some ⟨w.heap.size, 0, none⟩) := by rw [← ha0]; rfl
  have hsz0 : a0.tmps.size = 7 := by rw [← ha0]; rfl
  have HA0 := hid ha0
  clear ha0
  refine wp_region_Q1 7 hsz0 [4, 5, 6] (fun k => (R k)) (fun k j => (k = 0 ∧ ((R j)))) (fun _ _ h => h.2) [qi (.pointer (some ⟨g, 0, none⟩)), qi (.agg (x.cells v_l).toArray), qi (.tuple #[])] ⟨qi_stable, qi_stable, qi_stable, trivial⟩ [2] ⟨?_, ?_, ?_, trivial⟩ ?_
  · exact stq (fun E => ex_move rfl (E.v oe0))
  · exact stq (fun E => ex_loadA rfl Try.underlying55 rfl (off := 0) (cs := x.cells v_l) (by kernel_rfl) (E.v oe3) (Cs.whole (HB3.out.mod E.m (by intro h2; rcases h2 with ⟨h0, h2⟩ | h2 <;> first | omega | (have hb := HBR.out _ h2; omega)))))
  · exact stepq_chain rfl
  intro u1_0 hr
  have zu1_0 := hr.size
  have Cx3 := hid (hr.new (S := (fun k => (R k))))
  have Hx4 := hid (Hx1.out.mod hr (by intro k h1 h2; have hb := HBR.out k h1; omega))
  clear Hx1
  clear hr
  refine QChain.go fun Z act E => ?_
  refine qc_callF (args := #[.pointer (some ⟨g, 0, none⟩), .agg (x.cells v_l).toArray]) rfl (wanted_none rfl) rfl Try.func99 (args2 (E.d 0) (E.d 1)) (PutPm_Q _ R2 _ _ _ x _ Hx4.out (by intro k h1; have hb := HBR.out k h1; omega) ⟨_, rfl, HOK.out, (Hx2.out.mod Cx3.out (by intro k h1 h2; first | omega | (have hb := HBT.out k h1; omega) | (have hb := HBR.out k h2; omega) | exact HDJ.out k h1 h2 | exact HDJ.out k h2 h1 | (have hb := HBT.out k h1; have hb2 := HBR.out k h2; omega)))⟩ (by intro k h1; have hb := HBT.out k h1; omega) (by intro k h1 h2; first | omega | (have hb := HBR.out k h1; omega) | (have hb := HBT.out k h2; omega) | exact HDJ.out k h1 h2 | exact HDJ.out k h2 h1 | (have hb := HBR.out k h1; have hb2 := HBT.out k h2; omega)) HL.out) ?_
  rintro e u1_1a ⟨rfl, qwr, hm⟩
  have zu1_1a := hm.size
  refine ⟨_, rfl, hm.mono (by intro k hk h; first | omega | exact Or.inl ⟨(by have hb := HBR.out k h; omega), ⟨rfl, h⟩⟩), (fun _ => rfl), ?_⟩
  intro u1_1 hr
  have zu1_1 := hr.size
  have Hx5 := hid ((qwr.widen (R' := (fun k => (R k) ∨ (New u1_0 u1_1a k))) (fun _ h => h) (Nat.le_refl _)).mod hr (by intro k h1 h2; rcases h1 with h1 | h1 <;> first | omega | (have hb := HBR.out k h1; omega)))
  have Cx6 := hid (Cx3.out.goM hm hr (fun _ _ h => h))
  clear Cx3 hm hr Z act E qwr Hx4
  refine QChain.nil fun vs hl hzz hrows hne => ?_
  obtain ⟨Z, hYZ, hZb, hV⟩ := hzz
  have f0 := fvi hV hl 0
  have f2 := fvi hV hl 2
  rw [show vs = [gw vs 0, gw vs 1, gw vs 2] from (gw_eta hl).trans rfl]
  have ha0 := HA0.out
  subst ha0
  clear HA0 hV hYZ hZb hsz0 hrows hne oe0 oe3
  simp only [putAll, Act.put, List.setIfInBounds_toArray, List.set_cons_zero, List.set_cons_succ, f0, f2]
  clear hl f0 f2
  go_wp2
  go_end0
  exact ⟨rfl, (Hx5.out.widen (R' := (fun k => R k ∨ New w u1_1 k)) (by intro k h1; rcases h1 with h1 | h1 <;> first | exact Or.inl h1 | (right; omega)) (Nat.le_refl _)), (HM0.out.trans Cx6.out (fun _ _ h => h))⟩
set_option maxHeartbeats 2000000 in
theorem WPutBa_Q : Puts BaR 47 baB := by
  intro R R2 g bs cs x w hW hB hx hB2 hD hl
  have HRDX := Lib.hid hx
  obtain ⟨v_ps, v_os, v_ts, rfl, hok, hs0, hs1, hs2⟩ := hx
  have HS0 := Lib.hid hs0
  clear hs0
  have HS1 := Lib.hid hs1
  clear hs1
  have HS2 := Lib.hid hs2
  clear hs2
  have HW := Lib.hid hW
  have HBR := Lib.hid hB
  have HBT := Lib.hid hB2
  have HDJ := Lib.hid hD
  have HOK := Lib.hid hok
  have HL := Lib.hid hl
  clear hW hB hB2 hD hl hok
  go_enter Try.func47, Try.ntmps47
  go_upto_region 1 with (fail)
  obtain ⟨w1, hw1⟩ : ∃ zz, zz = (w.alloc (.cells (x.cells v_ps v_os v_ts : List Value).toArray 60)) := ⟨_, rfl⟩
  change Code.wp _ _ _ _ (w.alloc (.cells (x.cells v_ps v_os v_ts : List Value).toArray 60))
  rw [← hw1]
  have HB3 := hid (show Cs w1 (w.heap.size) (x.cells v_ps v_os v_ts : List Value).toArray 60 by rw [hw1]; exact Cs.new _ _ _)
  have hm : Mod (fun _ => False) w w1 := by rw [hw1]; exact (Mod.refl _ _).alloc _
  have HM0 := hid (show Mod (fun k => (R k)) w w1 from hm.mono (fun _ _ h => h.elim))
  have hs1 : w1.heap.size = w.heap.size + 1 := by rw [hw1]; simp
  have Hx1 := hid (HW.out.mod hm (fun _ _ h => h))
  clear HW
  have Hx2 := hid (HS0.out.mod hm (fun _ _ h => h))
  clear HS0
  have Hx3 := hid (HS1.out.mod hm (fun _ _ h => h))
  clear HS1
  have Hx4 := hid (HS2.out.mod hm (fun _ _ h => h))
  clear HS2
  clear hw1 hm
  go_upto_region 1 with (fail)
  generalize ha0 : Act.mk _ _ = a0
  have oe0 : a0.eval (.tmp 0) = .pointer (some ⟨g, 0, none⟩) := by rw [← ha0]; rfl
  have oe3 : a0.eval (.tmp 3) = .pointer (some ⟨w.heap.size, 0, none⟩) := by rw [← ha0]; rfl
  have hsz0 : a0.tmps.size = 7 := by rw [← ha0]; rfl
  have HA0 := hid ha0
  clear ha0
  refine wp_region_Q1 7 hsz0 [4, 5, 6] (fun k => (R k)) (fun k j => (k = 0 ∧ ((R j)))) (fun _ _ h => h.2) [qi (.pointer (some ⟨g, 0, none⟩)), qi (.agg (x.cells v_ps v_os v_ts).toArray), qi (.tuple #[])] ⟨qi_stable, qi_stable, qi_stable, trivial⟩ [2] ⟨?_, ?_, ?_, trivial⟩ ?_
  · exact stq (fun E => ex_move rfl (E.v oe0))
  · exact stq (fun E => ex_loadA rfl Try.underlying60 rfl (off := 0) (cs := x.cells v_ps v_os v_ts) (by kernel_rfl) (E.v oe3) (Cs.whole (HB3.out.mod E.m (by intro h2; rcases h2 with ⟨h0, h2⟩ | h2 <;> first | omega | (have hb := HBR.out _ h2; omega)))))
  · exact stepq_chain rfl
  intro u1_0 hr
  have zu1_0 := hr.size
  have Cx5 := hid (hr.new (S := (fun k => (R k))))
  have Hx6 := hid (Hx1.out.mod hr (by intro k h1 h2; have hb := HBR.out k h1; omega))
  clear Hx1
  clear hr
  refine QChain.go fun Z act E => ?_
  refine qc_callF (args := #[.pointer (some ⟨g, 0, none⟩), .agg (x.cells v_ps v_os v_ts).toArray]) rfl (wanted_none rfl) rfl Try.func95 (args2 (E.d 0) (E.d 1)) (PutBa_Q _ R2 _ _ _ x _ Hx6.out (by intro k h1; have hb := HBR.out k h1; omega) ⟨_, _, _, rfl, HOK.out, (Hx2.out.mod Cx5.out (by intro k h1 h2; first | omega | (have hb := HBT.out k h1; omega) | (have hb := HBR.out k h2; omega) | exact HDJ.out k h1 h2 | exact HDJ.out k h2 h1 | (have hb := HBT.out k h1; have hb2 := HBR.out k h2; omega))), (Hx3.out.mod Cx5.out (by intro k h1 h2; first | omega | (have hb := HBT.out k h1; omega) | (have hb := HBR.out k h2; omega) | exact HDJ.out k h1 h2 | exact HDJ.out k h2 h1 | (have hb := HBT.out k h1; have hb2 := HBR.out k h2; omega))), (Hx4.out.mod Cx5.out (by intro k h1 h2; first | omega | (have hb := HBT.out k h1; omega) | (have hb := HBR.out k h2; omega) | exact HDJ.out k h1 h2 | exact HDJ.out k h2 h1 | (have hb := HBT.out k h1; have hb2 := HBR.out k h2; omega)))⟩ (by intro k h1; have hb := HBT.out k h1; omega) (by intro k h1 h2; first | omega | (have hb := HBR.out k h1; omega) | (have hb := HBT.out k h2; omega) | exact HDJ.out k h1 h2 | exact HDJ.out k h2 h1 | (have hb := HBR.out k h1; have hb2 := HBT.out k h2; omega)) HL.out) ?_
  rintro e u1_1a ⟨rfl, qwr, hm⟩
  have zu1_1a := hm.size
  refine ⟨_, rfl, hm.mono (by intro k hk h; first | omega | exact Or.inl ⟨(by have hb := HBR.out k h; omega), ⟨rfl, h⟩⟩), (fun _ => rfl), ?_⟩
  intro u1_1 hr
  have zu1_1 := hr.size
  have Hx7 := hid ((qwr.widen (R' := (fun k => (R k) ∨ (New u1_0 u1_1a k))) (fun _ h => h) (Nat.le_refl _)).mod hr (by intro k h1 h2; rcases h1 with h1 | h1 <;> first | omega | (have hb := HBR.out k h1; omega)))
  have Cx8 := hid (Cx5.out.goM hm hr (fun _ _ h => h))
  clear Cx5 hm hr Z act E qwr Hx6
  refine QChain.nil fun vs hl hzz hrows hne => ?_
  obtain ⟨Z, hYZ, hZb, hV⟩ := hzz
  have f0 := fvi hV hl 0
  have f2 := fvi hV hl 2
  rw [show vs = [gw vs 0, gw vs 1, gw vs 2] from (gw_eta hl).trans rfl]
  have ha0 := HA0.out
  subst ha0
  clear HA0 hV hYZ hZb hsz0 hrows hne oe0 oe3
  simp only [putAll, Act.put, List.setIfInBounds_toArray, List.set_cons_zero, List.set_cons_succ, f0, f2]
  clear hl f0 f2
  go_wp2
  go_end0
  exact ⟨rfl, (Hx7.out.widen (R' := (fun k => R k ∨ New w u1_1 k)) (by intro k h1; rcases h1 with h1 | h1 <;> first | exact Or.inl h1 | (right; omega)) (Nat.le_refl _)), (HM0.out.trans Cx8.out (fun _ _ h => h))⟩
theorem RefValidConf_any (F C : Int) (w : World) : Calls Try.prog 52 #[.agg #[.int .i64 F, .int .i64 C]] w fun e w' => e = .returned (.bool (okConf F C)) ∧ Mod (fun _ => False) w w' := by
  unfold okConf
  rcases Int.lt_or_le F 1 with h1 | h1
  · have hd : (decide ((1 : Int) ≤ F)) = false := by simp; omega
    go_enter Try.func52, Try.ntmps52
    go_wp2
    go_ret
    exact ⟨ret_bool (by simp; omega), (Mod.refl _ _).alloc _⟩
  rcases Int.lt_or_le 21 F with h2 | h2
  · have hd : (decide (F ≤ (21 : Int))) = false := by simp; omega
    go_enter Try.func52, Try.ntmps52
    go_wp2
    go_ret
    exact ⟨ret_bool (by simp; omega), (Mod.refl _ _).alloc _⟩
  rcases Int.lt_or_le C 1 with h3 | h3
  · have hd : (decide ((1 : Int) ≤ C)) = false := by simp; omega
    go_enter Try.func52, Try.ntmps52
    go_wp2
    go_ret
    exact ⟨ret_bool (by simp; omega), (Mod.refl _ _).alloc _⟩
  rcases Int.lt_or_le 100 C with h4 | h4
  · have hd : (decide (C ≤ (100 : Int))) = false := by simp; omega
    go_enter Try.func52, Try.ntmps52
    go_wp2
    go_ret
    exact ⟨ret_bool (by simp; omega), (Mod.refl _ _).alloc _⟩
  · go_enter Try.func52, Try.ntmps52
    go_wp2
    go_ret
    exact ⟨ret_bool (by simp; omega), (Mod.refl _ _).alloc _⟩

theorem N_wide (F C : Int) (h : 0 ≤ F ∧ F < 1099511627776) (w : World) : Calls Try.prog 48 #[.agg #[.int .i64 F, .int .i64 C]] w fun e w' => e = .returned (.int .i64 (3 * F + 1)) ∧ Mod (fun _ => False) w w' := by
  obtain ⟨h1, h2⟩ := h
  go_enter Try.func48, Try.ntmps48
  go_wp2
  go_ret
  exact ⟨rfl, (Mod.refl _ _).alloc _⟩
theorem Quorum_wide (F C : Int) (h : 0 ≤ F ∧ F < 1099511627776) (w : World) : Calls Try.prog 49 #[.agg #[.int .i64 F, .int .i64 C]] w fun e w' => e = .returned (.int .i64 (2 * F + 1)) ∧ Mod (fun _ => False) w w' := by
  obtain ⟨h1, h2⟩ := h
  go_enter Try.func49, Try.ntmps49
  go_wp2
  go_ret
  exact ⟨rfl, (Mod.refl _ _).alloc _⟩
set_option maxHeartbeats 8000000 in
theorem LPuts_any (R2 : Nat → Prop) (x : Ce) (p : Pm) (b : Ba) (cx cp cb : List Value) (F C : Int) (w : World) (hx : CeR.rd R2 w cx x) (hp : PmR.rd R2 w cp p) (hb : BaR.rd R2 w cb b) (hB2 : ∀ k, R2 k → k < w.heap.size) :
    Calls Try.prog 6 #[.agg cx.toArray, .agg cp.toArray, .agg cb.toArray, .agg #[.int .i64 F, .int .i64 C]] w fun e w' => e = .returned (.bool true) ∧ Mod (fun _ => False) w w' := by
  have HRX := Lib.hid hx
  have HRP := Lib.hid hp
  have HRB := Lib.hid hb
  obtain ⟨v_x, rfl, okx, hs0⟩ := hx
  obtain ⟨v_p, rfl, okp, hs1⟩ := hp
  obtain ⟨v1, v2, v3, rfl, okb, hs2, hs3, hs4⟩ := hb
  have HS0 := Lib.hid hs0
  have HS1 := Lib.hid hs1
  have HS2 := Lib.hid hs2
  have HS3 := Lib.hid hs3
  have HS4 := Lib.hid hs4
  have HBT := Lib.hid hB2
  have HOX := Lib.hid okx
  have HOP := Lib.hid okp
  have HOB := Lib.hid okb
  clear hs0 hs1 hs2 hs3 hs4 hB2 okx okp okb
  go_enter Try.func6, Try.ntmps6
  go_upto_region 1 with (fail)
  obtain ⟨w1, hw1⟩ : ∃ zz, zz = ((((w.alloc (.cells (x.cells v_x : List Value).toArray 52)).alloc (.cells (p.cells v_p : List Value).toArray 55)).alloc (.cells (b.cells v1 v2 v3 : List Value).toArray 60)).alloc (.cells #[.int .i64 F, .int .i64 C] 94)) := ⟨_, rfl⟩
  change Code.wp _ _ _ _ ((((w.alloc (.cells (x.cells v_x : List Value).toArray 52)).alloc (.cells (p.cells v_p : List Value).toArray 55)).alloc (.cells (b.cells v1 v2 v3 : List Value).toArray 60)).alloc (.cells #[.int .i64 F, .int .i64 C] 94))
  rw [← hw1]
  have HB4 := hid (show Cs w1 (w.heap.size) (x.cells v_x : List Value).toArray 52 by rw [hw1]; exact (((Cs.new _ _ _).alloc _).alloc _).alloc _)
  have HB5 := hid (show Cs w1 (w.heap.size + 1) (p.cells v_p : List Value).toArray 55 by rw [hw1]; exact ((Cs_newN _ _ _ (by simp)).alloc _).alloc _)
  have HB6 := hid (show Cs w1 (w.heap.size + 2) (b.cells v1 v2 v3 : List Value).toArray 60 by rw [hw1]; exact (Cs_newN _ _ _ (by simp)).alloc _)
  have HB7 := hid (show Cs w1 (w.heap.size + 3) #[.int .i64 F, .int .i64 C] 94 by rw [hw1]; exact Cs_newN _ _ _ (by simp))
  have hm : Mod (fun _ => False) w w1 := by rw [hw1]; exact ((((Mod.refl _ _).alloc _).alloc _).alloc _).alloc _
  have HM0 := hid (show Mod (fun _ => False) w w1 from hm.mono (fun _ _ h => h.elim))
  have hs1 : w1.heap.size = w.heap.size + 4 := by rw [hw1]; simp
  have Hx1 := hid (HS0.out.mod hm (fun _ _ h => h))
  clear HS0
  have Hx2 := hid (HS1.out.mod hm (fun _ _ h => h))
  clear HS1
  have Hx3 := hid (HS2.out.mod hm (fun _ _ h => h))
  clear HS2
  have Hx4 := hid (HS3.out.mod hm (fun _ _ h => h))
  clear HS3
  have Hx5 := hid (HS4.out.mod hm (fun _ _ h => h))
  clear HS4
  clear hw1 hm
  go_upto_region 1 with (fail)
  generalize ha0 : Act.mk _ _ = a0
  have oe4 : a0.eval (.tmp 4) = .pointer (some ⟨w.heap.size, 0, none⟩) := by rw [← ha0]; rfl
  have oe5 : a0.eval (.tmp 5) = .pointer (some ⟨w.heap.size + 1, 0, none⟩) := by rw [← ha0]; rfl
  have oe6 : a0.eval (.tmp 6) = .pointer (some ⟨w.heap.size + 2, 0, none⟩) := by rw [← ha0]; rfl
  have hsz0 : a0.tmps.size = 102 := by rw [← ha0]; rfl
  have HA0 := hid ha0
  clear ha0
  refine wp_region_Q1 102 hsz0 [12, 13, 14, 15, 16, 17, 108, 109, 110] (fun k => (k = w.heap.size) ∨ (k = w.heap.size + 1) ∨ (k = w.heap.size + 2)) (fun k j => (k = 3 ∧ ((j = w.heap.size))) ∨ (k = 4 ∧ ((j = w.heap.size + 1))) ∨ (k = 5 ∧ ((j = w.heap.size + 2)))) (by intro k j h; (try dsimp only at h ⊢); omega) [qi (.agg (x.cells v_x).toArray), qv 0, qi (.agg (p.cells v_p).toArray), qv 1, qi (.agg (b.cells v1 v2 v3).toArray), qv 2, qv 3, qv 4, qv 5] ⟨qi_stable, qv_stable, qi_stable, qv_stable, qi_stable, qv_stable, qv_stable, qv_stable, qv_stable, trivial⟩ [1, 3, 5, 6, 7, 8] ⟨?_, ?_, ?_, ?_, ?_, ?_, ?_, ?_, ?_, trivial⟩ ?_
  · refine stepq_env rfl rfl rfl fun _ _ _ _ _ _ hm0 hout _ _ hub _ => ?_
    refine qe_run rfl (wanted_none rfl) (ex_loadA rfl Try.underlying52 rfl (off := 0) (cs := (x.cells v_x)) (by rw [CeR.len HRX.out]; kernel_rfl) ((hout 4 (by decide)).trans oe4) (Cs.whole (HB4.out.mod hm0 (by intro h2; have hu := hub 3 6 rfl (by kernel_rfl); rcases h2 with ⟨h0, kk, hk, h2⟩ | h2 <;> omega)))) QE.refl ?_
    rfl
  · exact stepq_chain rfl
  · refine stepq_env rfl rfl rfl fun _ _ _ _ _ _ hm0 hout _ _ hub _ => ?_
    refine qe_run rfl (wanted_none rfl) (ex_loadA rfl Try.underlying55 rfl (off := 0) (cs := (p.cells v_p)) (by kernel_rfl) ((hout 5 (by decide)).trans oe5) (Cs.whole (HB5.out.mod hm0 (by intro h2; have hu := hub 4 7 rfl (by kernel_rfl); rcases h2 with ⟨h0, kk, hk, h2⟩ | h2 <;> omega)))) QE.refl ?_
    rfl
  · exact stepq_chain rfl
  · refine stepq_env rfl rfl rfl fun _ _ _ _ _ _ hm0 hout _ _ hub _ => ?_
    refine qe_run rfl (wanted_none rfl) (ex_loadA rfl Try.underlying60 rfl (off := 0) (cs := (b.cells v1 v2 v3)) (by kernel_rfl) ((hout 6 (by decide)).trans oe6) (Cs.whole (HB6.out.mod hm0 (by intro h2; have hu := hub 5 8 rfl (by kernel_rfl); rcases h2 with ⟨h0, kk, hk, h2⟩ | h2 <;> omega)))) QE.refl ?_
    rfl
  · exact stepq_chain rfl
  · exact stepq_chain rfl
  · exact stepq_chain rfl
  · exact stepq_chain rfl
  intro u1_0 hr
  have zu1_0 := hr.size
  have Cx6 := hid (hr.new (S := (fun k => (k = w.heap.size) ∨ (k = w.heap.size + 1) ∨ (k = w.heap.size + 2))))
  have Hx7 := hid (HB4.out.mod hr (by intro h2; omega))
  clear HB4
  have Hx8 := hid (HB5.out.mod hr (by intro h2; omega))
  clear HB5
  have Hx9 := hid (HB6.out.mod hr (by intro h2; omega))
  clear HB6
  clear hr
  refine QChain.go fun Z act E => ?_
  refine qc_callF (args := #[.agg (x.cells v_x).toArray]) rfl (wanted_none rfl) rfl Try.func21 (args1 (E.d 0)) (LCert_c _ x _ _ ⟨_, rfl, HOX.out, (Hx1.out.mod Cx6.out (by intro k h1 h2; have hb := HBT.out k h1; omega))⟩ (by intro k h1; have hb := HBT.out k h1; omega)) ?_
  rintro e u1_1a ⟨cs', rfl, qsx, hm⟩
  obtain ⟨v_l', rfl, hok', qsx⟩ := qsx
  obtain ⟨aox, capx, rfl⟩ := qsx.shape
  have HOK2x := Lib.hid hok'
  clear hok'
  have zu1_1a := hm.size
  refine ⟨_, rfl, hm.mono (fun _ _ h => h.elim), (fun _ => rfl), ?_⟩
  intro u1_1 hr
  have zu1_1 := hr.size
  have Hx10 := hid ((qsx.widen (R' := (fun k => (R2 k) ∨ (New u1_0 u1_1a k))) (fun _ h => h)).mod hr (by intro k h1 h2; rcases h1 with h1 | h1 <;> first | omega | (have hb := HBT.out k h1; omega)))
  have hmr := Mod.after hm hr
  have Hx11 := hid (Hx7.out.mod hmr (by intro h2; omega))
  have Hx12 := hid (Hx8.out.mod hmr (by intro h2; omega))
  have Hx13 := hid (Hx9.out.mod hmr (by intro h2; omega))
  clear Hx7 Hx8 Hx9
  clear hmr
  have Cx14 := hid (Cx6.out.go hm hr)
  clear Cx6 hm hr Z act E qsx Hx1
  refine QChain.go fun Z act E => ?_
  refine qc_callF (args := #[.agg (p.cells v_p).toArray]) rfl (wanted_none rfl) rfl Try.func23 (args1 (E.d 2)) (LPromise_c _ p _ _ ⟨_, rfl, HOP.out, (Hx2.out.mod Cx14.out (by intro k h1 h2; have hb := HBT.out k h1; omega))⟩ (by intro k h1; have hb := HBT.out k h1; omega)) ?_
  rintro e u1_2a ⟨cs', rfl, qsp, hm⟩
  obtain ⟨v_l', rfl, hok', qsp⟩ := qsp
  obtain ⟨aop, capp, rfl⟩ := qsp.shape
  have HOKp := Lib.hid hok'
  clear hok'
  have zu1_2a := hm.size
  refine ⟨_, rfl, hm.mono (fun _ _ h => h.elim), (fun _ => rfl), ?_⟩
  intro u1_2 hr
  have zu1_2 := hr.size
  have Hx15 := hid ((qsp.widen (R' := (fun k => (R2 k) ∨ (New u1_1 u1_2a k))) (fun _ h => h)).mod hr (by intro k h1 h2; rcases h1 with h1 | h1 <;> first | omega | (have hb := HBT.out k h1; omega)))
  have hmr := Mod.after hm hr
  have Hx16 := hid (Hx10.out.mod hmr (by intro k h1 h2; rcases h1 with h1 | h1 <;> first | omega | (have hb := HBT.out k h1; omega)))
  have Hx17 := hid (Hx11.out.mod hmr (by intro h2; omega))
  have Hx18 := hid (Hx12.out.mod hmr (by intro h2; omega))
  have Hx19 := hid (Hx13.out.mod hmr (by intro h2; omega))
  clear Hx10 Hx11 Hx12 Hx13
  clear hmr
  have Cx20 := hid (Cx14.out.go hm hr)
  clear Cx14 hm hr Z act E qsp Hx2
  refine QChain.go fun Z act E => ?_
  refine qc_callF (args := #[.agg (b.cells v1 v2 v3).toArray]) rfl (wanted_none rfl) rfl Try.func25 (args1 (E.d 4)) (LBatch_c _ b _ _ ⟨_, _, _, rfl, HOB.out, (Hx3.out.mod Cx20.out (by intro k h1 h2; have hb := HBT.out k h1; omega)), (Hx4.out.mod Cx20.out (by intro k h1 h2; have hb := HBT.out k h1; omega)), (Hx5.out.mod Cx20.out (by intro k h1 h2; have hb := HBT.out k h1; omega))⟩ (by intro k h1; have hb := HBT.out k h1; omega)) ?_
  rintro e u1_3a ⟨cs', rfl, qb1, hm⟩
  obtain ⟨vb1, vb2, vb3, rfl, hokb, qq1, qq2, qq3⟩ := qb1
  obtain ⟨aob0, capb0, rfl⟩ := qq1.shape
  obtain ⟨aob1, capb1, rfl⟩ := qq2.shape
  obtain ⟨aob2, capb2, rfl⟩ := qq3.shape
  have qb1 := qq1
  have qb2 := qq2
  have qb3 := qq3
  have HOKb := Lib.hid hokb
  clear hokb qq1 qq2 qq3
  have zu1_3a := hm.size
  refine ⟨_, rfl, hm.mono (fun _ _ h => h.elim), (fun _ => rfl), ?_⟩
  intro u1_3 hr
  have zu1_3 := hr.size
  have Hx21 := hid ((qb1.widen (R' := (fun k => (R2 k) ∨ (New u1_2 u1_3a k))) (fun _ h => h)).mod hr (by intro k h1 h2; rcases h1 with h1 | h1 <;> first | omega | (have hb := HBT.out k h1; omega)))
  have Hx22 := hid ((qb2.widen (R' := (fun k => (R2 k) ∨ (New u1_2 u1_3a k))) (fun _ h => h)).mod hr (by intro k h1 h2; rcases h1 with h1 | h1 <;> first | omega | (have hb := HBT.out k h1; omega)))
  have Hx23 := hid ((qb3.widen (R' := (fun k => (R2 k) ∨ (New u1_2 u1_3a k))) (fun _ h => h)).mod hr (by intro k h1 h2; rcases h1 with h1 | h1 <;> first | omega | (have hb := HBT.out k h1; omega)))
  have hmr := Mod.after hm hr
  have Hx24 := hid (Hx16.out.mod hmr (by intro k h1 h2; rcases h1 with h1 | h1 <;> first | omega | (have hb := HBT.out k h1; omega)))
  have Hx25 := hid (Hx15.out.mod hmr (by intro k h1 h2; rcases h1 with h1 | h1 <;> first | omega | (have hb := HBT.out k h1; omega)))
  have Hx26 := hid (Hx17.out.mod hmr (by intro h2; omega))
  have Hx27 := hid (Hx18.out.mod hmr (by intro h2; omega))
  have Hx28 := hid (Hx19.out.mod hmr (by intro h2; omega))
  clear Hx16 Hx15 Hx17 Hx18 Hx19
  clear hmr
  have Cx29 := hid (Cx20.out.go hm hr)
  clear Cx20 hm hr Z act E qb1 qb2 qb3 Hx3 Hx4 Hx5
  refine QChain.go fun Z act E => ?_
  refine qc_store rfl (wanted_none rfl) rfl Hx26.out (off := 0) (vs := ((cutCe x).c.cells ++ [Value.slice aox (cutCe x).l.length capx])) (by rw [List.length_append, Cm.len HOK2x.out.2.1]; exact size_ce) (one_ce _ _ rfl) (by have h1 := CeR.len HRX.out; rw [List.size_toArray, h1, List.length_append, Cm.len HOK2x.out.2.1]; show 0 + (37 + 1) ≤ 38; decide) (E.v oe4) (by rw [show act.eval ((.tmp 13)) = _ from (chv (v := .agg ((cutCe x).c.cells ++ [Value.slice aox (cutCe x).l.length capx]).toArray) (E.d 1))]; rfl) ?_
  intro u1_4a qc0 hm
  have qB4 : Cs u1_4a (w.heap.size) (((cutCe x).c.cells ++ [Value.slice aox (cutCe x).l.length capx]) : List Value).toArray 52 := by rw [show lay _ 0 _ = (((cutCe x).c.cells ++ [Value.slice aox (cutCe x).l.length capx]) : List Value).toArray from lay_whole _ _ (by have h1 := CeR.len HRX.out; rw [List.size_toArray, h1, List.length_append, Cm.len HOK2x.out.2.1]; rfl)] at qc0; exact qc0
  clear qc0
  have zu1_4a := hm.size
  refine ⟨hm.mono (by intro k hk h; omega), (fun _ => rfl), ?_⟩
  intro u1_4 hr
  have zu1_4 := hr.size
  have Hx30 := hid (qB4.mod hr (by intro h2; omega))
  have hmr := hm.two hr
  have Hx31 := hid (Hx24.out.mod hmr (by intro k h1 h2; rcases h1 with h1 | h1 <;> first | omega | (have hb := HBT.out k h1; omega)))
  have Hx32 := hid (Hx25.out.mod hmr (by intro k h1 h2; rcases h1 with h1 | h1 <;> first | omega | (have hb := HBT.out k h1; omega)))
  have Hx33 := hid (Hx21.out.mod hmr (by intro k h1 h2; rcases h1 with h1 | h1 <;> first | omega | (have hb := HBT.out k h1; omega)))
  have Hx34 := hid (Hx22.out.mod hmr (by intro k h1 h2; rcases h1 with h1 | h1 <;> first | omega | (have hb := HBT.out k h1; omega)))
  have Hx35 := hid (Hx23.out.mod hmr (by intro k h1 h2; rcases h1 with h1 | h1 <;> first | omega | (have hb := HBT.out k h1; omega)))
  have Hx36 := hid (Hx27.out.mod hmr (by intro h2; omega))
  have Hx37 := hid (Hx28.out.mod hmr (by intro h2; omega))
  clear Hx24 Hx25 Hx21 Hx22 Hx23 Hx27 Hx28
  clear hmr
  have Cx38 := hid (Cx29.out.goM hm hr (by intro k h0 h2; omega))
  clear Cx29 hm hr Z act E qB4 Hx26
  refine QChain.go fun Z act E => ?_
  refine qc_store rfl (wanted_none rfl) rfl Hx36.out (off := 0) (vs := ((cutPm p).cells (Value.slice aop (cutPm p).l.length capp))) (by kernel_rfl) (by intro u hu; simp only [Pm.cells, List.mem_cons, List.not_mem_nil, or_false] at hu; rcases hu with rfl | rfl | rfl | rfl | rfl | rfl <;> rfl) (by simp) (E.v oe5) (by rw [show act.eval ((.tmp 15)) = _ from (chv (v := .agg ((cutPm p).cells (Value.slice aop (cutPm p).l.length capp)).toArray) (E.d 3))]; rfl) ?_
  intro u1_5a qc0 hm
  have qB5 : Cs u1_5a (w.heap.size + 1) (((cutPm p).cells (Value.slice aop (cutPm p).l.length capp)) : List Value).toArray 55 := by rw [show lay _ 0 _ = (((cutPm p).cells (Value.slice aop (cutPm p).l.length capp)) : List Value).toArray from lay_whole (p.cells v_p).toArray _ rfl] at qc0; exact qc0
  clear qc0
  have zu1_5a := hm.size
  refine ⟨hm.mono (by intro k hk h; omega), (fun _ => rfl), ?_⟩
  intro u1_5 hr
  have zu1_5 := hr.size
  have Hx39 := hid (qB5.mod hr (by intro h2; omega))
  have hmr := hm.two hr
  have Hx40 := hid (Hx31.out.mod hmr (by intro k h1 h2; rcases h1 with h1 | h1 <;> first | omega | (have hb := HBT.out k h1; omega)))
  have Hx41 := hid (Hx32.out.mod hmr (by intro k h1 h2; rcases h1 with h1 | h1 <;> first | omega | (have hb := HBT.out k h1; omega)))
  have Hx42 := hid (Hx33.out.mod hmr (by intro k h1 h2; rcases h1 with h1 | h1 <;> first | omega | (have hb := HBT.out k h1; omega)))
  have Hx43 := hid (Hx34.out.mod hmr (by intro k h1 h2; rcases h1 with h1 | h1 <;> first | omega | (have hb := HBT.out k h1; omega)))
  have Hx44 := hid (Hx35.out.mod hmr (by intro k h1 h2; rcases h1 with h1 | h1 <;> first | omega | (have hb := HBT.out k h1; omega)))
  have Hx45 := hid (Hx30.out.mod hmr (by intro h2; omega))
  have Hx46 := hid (Hx37.out.mod hmr (by intro h2; omega))
  clear Hx31 Hx32 Hx33 Hx34 Hx35 Hx30 Hx37
  clear hmr
  have Cx47 := hid (Cx38.out.goM hm hr (by intro k h0 h2; omega))
  clear Cx38 hm hr Z act E qB5 Hx36
  refine QChain.go fun Z act E => ?_
  refine qc_store rfl (wanted_none rfl) rfl Hx46.out (off := 0) (vs := [.int .i64 (cutBa b).ep, .int .u64 ((cutBa b).tm : Nat), Value.slice aob0 (cutBa b).ps.length capb0, Value.slice aob1 (cutBa b).os.length capb1, Value.slice aob2 (cutBa b).ts.length capb2]) (by kernel_rfl) (by intro u hu; simp only [List.mem_cons, List.not_mem_nil, or_false] at hu; rcases hu with rfl | rfl | rfl | rfl | rfl <;> rfl) (by show 0 + 5 ≤ 5; decide) (E.v oe6) (by rw [show act.eval ((.tmp 17)) = _ from (chv (v := .agg #[.int .i64 (cutBa b).ep, .int .u64 ((cutBa b).tm : Nat), Value.slice aob0 (cutBa b).ps.length capb0, Value.slice aob1 (cutBa b).os.length capb1, Value.slice aob2 (cutBa b).ts.length capb2]) (E.d 5))]; rfl) ?_
  intro u1_6a qc0 hm
  have qB6 : Cs u1_6a (w.heap.size + 2) #[.int .i64 (cutBa b).ep, .int .u64 ((cutBa b).tm : Nat), Value.slice aob0 (cutBa b).ps.length capb0, Value.slice aob1 (cutBa b).os.length capb1, Value.slice aob2 (cutBa b).ts.length capb2] 60 := by rw [show lay _ 0 _ = #[.int .i64 (cutBa b).ep, .int .u64 ((cutBa b).tm : Nat), Value.slice aob0 (cutBa b).ps.length capb0, Value.slice aob1 (cutBa b).os.length capb1, Value.slice aob2 (cutBa b).ts.length capb2] from lay_whole (b.cells v1 v2 v3).toArray _ rfl] at qc0; exact qc0
  clear qc0
  have zu1_6a := hm.size
  refine ⟨hm.mono (by intro k hk h; omega), (fun _ => rfl), ?_⟩
  intro u1_6 hr
  have zu1_6 := hr.size
  have Hx48 := hid (qB6.mod hr (by intro h2; omega))
  have hmr := hm.two hr
  have Hx49 := hid (Hx40.out.mod hmr (by intro k h1 h2; rcases h1 with h1 | h1 <;> first | omega | (have hb := HBT.out k h1; omega)))
  have Hx50 := hid (Hx41.out.mod hmr (by intro k h1 h2; rcases h1 with h1 | h1 <;> first | omega | (have hb := HBT.out k h1; omega)))
  have Hx51 := hid (Hx42.out.mod hmr (by intro k h1 h2; rcases h1 with h1 | h1 <;> first | omega | (have hb := HBT.out k h1; omega)))
  have Hx52 := hid (Hx43.out.mod hmr (by intro k h1 h2; rcases h1 with h1 | h1 <;> first | omega | (have hb := HBT.out k h1; omega)))
  have Hx53 := hid (Hx44.out.mod hmr (by intro k h1 h2; rcases h1 with h1 | h1 <;> first | omega | (have hb := HBT.out k h1; omega)))
  have Hx54 := hid (Hx45.out.mod hmr (by intro h2; omega))
  have Hx55 := hid (Hx39.out.mod hmr (by intro h2; omega))
  clear Hx40 Hx41 Hx42 Hx43 Hx44 Hx45 Hx39
  clear hmr
  have Cx56 := hid (Cx47.out.goM hm hr (by intro k h0 h2; omega))
  clear Cx47 hm hr Z act E qB6 Hx46
  refine QChain.nil fun vs hl hzz hrows hne => ?_
  obtain ⟨Z, hYZ, hZb, hV⟩ := hzz
  have f1 := fvc hV hl 1
  have f3 := fvc hV hl 3
  have f5 := fvc hV hl 5
  rw [show vs = [gw vs 0, gw vs 1, gw vs 2, gw vs 3, gw vs 4, gw vs 5, gw vs 6, gw vs 7, gw vs 8] from (gw_eta hl).trans rfl]
  have ha0 := HA0.out
  subst ha0
  clear HA0 hV hYZ hZb hsz0 hrows hne oe4 oe5 oe6
  simp only [putAll, Act.put, List.setIfInBounds_toArray, List.set_cons_zero, List.set_cons_succ, List.set_nil, f1, f3, f5]
  clear hl f1 f3 f5
  go_upto_region 2 with (fail)
  generalize ha0 : Act.mk _ _ = a0
  have hsz0 : a0.tmps.size = 102 := by rw [← ha0]; rfl
  have HA0 := hid ha0
  clear ha0
  refine wp_region_Q0 102 hsz0 [18, 19, 20, 9, 10, 11] [qv 0, qv 1, qv 2, qv 0, qv 1, qv 2] ⟨qv_stable, qv_stable, qv_stable, qv_stable, qv_stable, qv_stable, trivial⟩ [0, 1, 2] ⟨?_, ?_, ?_, ?_, ?_, ?_, trivial⟩ ?_
  · exact stepq_chain rfl
  · exact stepq_chain rfl
  · exact stepq_chain rfl
  · refine stepq_env rfl rfl rfl fun _ _ _ _ _ _ _ _ _ hd _ _ => ?_
    have h0 := hd ⟨0, .data⟩ (by simp) rfl _ rfl
    exact qe_run rfl (wanted_none rfl) (ex_assign rfl rfl) QE.refl h0
  · refine stepq_env rfl rfl rfl fun _ _ _ _ _ _ _ _ _ hd _ _ => ?_
    have h1 := hd ⟨1, .data⟩ (by simp) rfl _ rfl
    exact qe_run rfl (wanted_none rfl) (ex_assign rfl rfl) QE.refl h1
  · refine stepq_env rfl rfl rfl fun _ _ _ _ _ _ _ _ _ hd _ _ => ?_
    have h2 := hd ⟨2, .data⟩ (by simp) rfl _ rfl
    exact qe_run rfl (wanted_none rfl) (ex_assign rfl rfl) QE.refl h2
  intro u2_0 hr
  have zu2_0 := hr.size
  have Cx57 := hid (hr.new (S := (fun _ => False)))
  clear hr
  refine QChain.go fun Z act E => ?_
  refine qc_callF (args := #[]) rfl (wanted_none rfl) rfl Try.func44 args0 (NewWriter_Q _) ?_
  rintro e u2_1a ⟨g1, rfl, qwr1, hm⟩
  have zu2_1a := hm.size
  refine ⟨_, rfl, hm.mono (fun _ _ h => h.elim), (fun _ => rfl), ?_⟩
  intro u2_1 hr
  have zu2_1 := hr.size
  have Hx58 := hid ((qwr1.widen (R' := (fun k => (New u2_0 u2_1a k))) (fun _ h => h) (Nat.le_refl _)).mod hr (by intro k h1 h2; omega))
  have Cx59 := hid (Cx57.out.go hm hr)
  clear Cx57 hm hr Z act E qwr1
  refine QChain.go fun Z act E => ?_
  refine qc_callF (args := #[]) rfl (wanted_none rfl) rfl Try.func44 args0 (NewWriter_Q _) ?_
  rintro e u2_2a ⟨g2, rfl, qwr2, hm⟩
  have zu2_2a := hm.size
  refine ⟨_, rfl, hm.mono (fun _ _ h => h.elim), (fun _ => rfl), ?_⟩
  intro u2_2 hr
  have zu2_2 := hr.size
  have Hx60 := hid ((qwr2.widen (R' := (fun k => (New u2_1 u2_2a k))) (fun _ h => h) (Nat.le_refl _)).mod hr (by intro k h1 h2; omega))
  have hmr := Mod.after hm hr
  have Hx61 := hid (Hx58.out.mod hmr (by intro k h1 h2; omega))
  clear Hx58
  clear hmr
  have Cx62 := hid (Cx59.out.go hm hr)
  clear Cx59 hm hr Z act E qwr2
  refine QChain.go fun Z act E => ?_
  refine qc_callF (args := #[]) rfl (wanted_none rfl) rfl Try.func44 args0 (NewWriter_Q _) ?_
  rintro e u2_3a ⟨g3, rfl, qwr3, hm⟩
  have zu2_3a := hm.size
  refine ⟨_, rfl, hm.mono (fun _ _ h => h.elim), (fun _ => rfl), ?_⟩
  intro u2_3 hr
  have zu2_3 := hr.size
  have Hx63 := hid ((qwr3.widen (R' := (fun k => (New u2_2 u2_3a k))) (fun _ h => h) (Nat.le_refl _)).mod hr (by intro k h1 h2; omega))
  have hmr := Mod.after hm hr
  have Hx64 := hid (Hx61.out.mod hmr (by intro k h1 h2; omega))
  have Hx65 := hid (Hx60.out.mod hmr (by intro k h1 h2; omega))
  clear Hx61 Hx60
  clear hmr
  have Cx66 := hid (Cx62.out.go hm hr)
  clear Cx62 hm hr Z act E qwr3
  refine QChain.nil fun vs hl hzz hrows hne => ?_
  obtain ⟨Z, hYZ, hZb, hV⟩ := hzz
  have f0 := fvc hV hl 0
  have f1 := fvc hV hl 1
  have f2 := fvc hV hl 2
  have f3 := fvc hV hl 3
  have f4 := fvc hV hl 4
  have f5 := fvc hV hl 5
  rw [show vs = [gw vs 0, gw vs 1, gw vs 2, gw vs 3, gw vs 4, gw vs 5] from (gw_eta hl).trans rfl]
  have ha0 := HA0.out
  subst ha0
  clear HA0 hV hYZ hZb hsz0 hrows hne
  simp only [putAll, Act.put, List.setIfInBounds_toArray, List.set_cons_zero, List.set_cons_succ, f0, f1, f2, f3, f4, f5]
  clear hl f0 f1 f2 f3 f4 f5
  have HLX := Lib.hid (show ([] ++ ceB (cutCe x)).length ≤ 900000 from Nat.le_trans (ceB_len (x := cutCe x) ⟨_, rfl, HOK2x.out, (Hx49.out.mod Cx66.out (fun _ _ h => h))⟩ (by simp [cutCe]; omega)) (by decide))
  have HLP := Lib.hid (show ([] ++ pmB (cutPm p)).length ≤ 900000 from Nat.le_trans (pmB_len (x := cutPm p) ⟨_, rfl, HOKp.out, (Hx50.out.mod Cx66.out (fun _ _ h => h))⟩ ⟨p, rfl⟩) (by decide))
  have HLB := Lib.hid (show ([] ++ baB (cutBa b)).length ≤ 900000 from Nat.le_trans (baB_len HOB.out (Hx51.out.mod Cx66.out (fun _ _ h => h)) (Hx52.out.mod Cx66.out (fun _ _ h => h)) (Hx53.out.mod Cx66.out (fun _ _ h => h))) (by decide))
  go_upto_region 5 with (fail)
  generalize ha0 : Act.mk _ _ = a0
  have oe4 : a0.eval (.tmp 4) = .pointer (some ⟨w.heap.size, 0, none⟩) := by rw [← ha0]; rfl
  have oe9 : a0.eval (.tmp 9) = .pointer (some ⟨g1, 0, none⟩) := by rw [← ha0]; rfl
  have hsz0 : a0.tmps.size = 102 := by rw [← ha0]; rfl
  have HA0 := hid ha0
  clear ha0
  refine wp_region_Q1 102 hsz0 [31, 32, 33] (fun k => (New u2_0 u2_1a k)) (fun k j => (k = 0 ∧ ((New u2_0 u2_1a j)))) (fun _ _ h => h.2) [qi (.pointer (some ⟨g1, 0, none⟩)), qi (.agg ((cutCe x).c.cells ++ [Value.slice aox (cutCe x).l.length capx]).toArray), qi (.tuple #[])] ⟨qi_stable, qi_stable, qi_stable, trivial⟩ [2] ⟨?_, ?_, ?_, trivial⟩ ?_
  · exact stq (fun E => ex_move rfl (E.v oe9))
  · exact stq (fun E => ex_loadA rfl Try.underlying52 rfl (off := 0) (cs := ((cutCe x).c.cells ++ [Value.slice aox (cutCe x).l.length capx])) (by rw [List.length_append, Cm.len HOK2x.out.2.1]; exact size_ce) (E.v oe4) (Cs.whole ((Hx54.out.mod Cx66.out (fun h => h)).mod E.m (by intro h2; omega))))
  · exact stepq_chain rfl
  intro u5_0 hr
  have zu5_0 := hr.size
  have Cx67 := hid (hr.new (S := (fun k => (New u2_0 u2_1a k))))
  have Hx68 := hid (Hx64.out.mod hr (by intro k h1 h2; omega))
  clear Hx64
  clear hr
  refine QChain.go fun Z act E => ?_
  refine qc_callF (args := #[.pointer (some ⟨g1, 0, none⟩), .agg ((cutCe x).c.cells ++ [Value.slice aox (cutCe x).l.length capx]).toArray]) rfl (wanted_none rfl) rfl Try.func45 (args2 (E.d 0) (E.d 1)) (WPutCe_Q _ _ _ _ _ (cutCe x) _ Hx68.out (by intro k h1; omega) ⟨_, rfl, HOK2x.out, ((Hx49.out.mod Cx66.out (fun _ _ h => h)).mod Cx67.out (by intro k h1 h2; rcases h1 with h1 | h1 <;> first | omega | (have hb := HBT.out k h1; omega)))⟩ (by intro k h1; rcases h1 with h1 | h1 <;> first | omega | (have hb := HBT.out k h1; omega)) (by intro k h1 h2; rcases h2 with h2 | h2 <;> first | omega | (have hb := HBT.out k h2; omega)) HLX.out) ?_
  rintro e u5_1a ⟨rfl, qwr1, hm⟩
  have zu5_1a := hm.size
  refine ⟨_, rfl, hm.mono (by intro k hk h; omega), (fun _ => rfl), ?_⟩
  intro u5_1 hr
  have zu5_1 := hr.size
  have Hx69 := hid ((qwr1.widen (R' := (fun k => (New u2_0 u2_1a k) ∨ (New u5_0 u5_1a k))) (fun _ h => h) (Nat.le_refl _)).mod hr (by intro k h1 h2; omega))
  have Cx70 := hid (Cx67.out.goM hm hr (fun _ _ h => h))
  clear Cx67 hm hr Z act E qwr1 Hx68
  refine QChain.nil fun vs hl hzz hrows hne => ?_
  obtain ⟨Z, hYZ, hZb, hV⟩ := hzz
  have f0 := fvi hV hl 0
  have f2 := fvi hV hl 2
  rw [show vs = [gw vs 0, gw vs 1, gw vs 2] from (gw_eta hl).trans rfl]
  have ha0 := HA0.out
  subst ha0
  clear HA0 hV hYZ hZb hsz0 hrows hne oe4 oe9
  simp only [putAll, Act.put, List.setIfInBounds_toArray, List.set_cons_zero, List.set_cons_succ, f0, f2]
  clear hl f0 f2
  go_upto_region 6 with (fail)
  generalize ha0 : Act.mk _ _ = a0
  have oe5 : a0.eval (.tmp 5) = .pointer (some ⟨w.heap.size + 1, 0, none⟩) := by rw [← ha0]; rfl
  have oe10 : a0.eval (.tmp 10) = .pointer (some ⟨g2, 0, none⟩) := by rw [← ha0]; rfl
  have hsz0 : a0.tmps.size = 102 := by rw [← ha0]; rfl
  have HA0 := hid ha0
  clear ha0
  refine wp_region_Q1 102 hsz0 [34, 35, 36] (fun k => (New u2_1 u2_2a k)) (fun k j => (k = 0 ∧ ((New u2_1 u2_2a j)))) (fun _ _ h => h.2) [qi (.pointer (some ⟨g2, 0, none⟩)), qi (.agg ((cutPm p).cells (Value.slice aop (cutPm p).l.length capp)).toArray), qi (.tuple #[])] ⟨qi_stable, qi_stable, qi_stable, trivial⟩ [2] ⟨?_, ?_, ?_, trivial⟩ ?_
  · exact stq (fun E => ex_move rfl (E.v oe10))
  · exact stq (fun E => ex_loadA rfl Try.underlying55 rfl (off := 0) (cs := ((cutPm p).cells (Value.slice aop (cutPm p).l.length capp))) (by kernel_rfl) (E.v oe5) (Cs.whole (((Hx55.out.mod Cx66.out (fun h => h)).mod Cx70.out (by intro h2; omega)).mod E.m (by intro h2; omega))))
  · exact stepq_chain rfl
  intro u6_0 hr
  have zu6_0 := hr.size
  have Cx71 := hid (hr.new (S := (fun k => (New u2_1 u2_2a k))))
  have Hx72 := hid ((Hx65.out.mod Cx70.out (by intro k h1 h2; omega)).mod hr (by intro k h1 h2; omega))
  clear Hx65
  clear hr
  refine QChain.go fun Z act E => ?_
  refine qc_callF (args := #[.pointer (some ⟨g2, 0, none⟩), .agg ((cutPm p).cells (Value.slice aop (cutPm p).l.length capp)).toArray]) rfl (wanted_none rfl) rfl Try.func46 (args2 (E.d 0) (E.d 1)) (WPutPm_Q _ _ _ _ _ (cutPm p) _ Hx72.out (by intro k h1; omega) ⟨_, rfl, HOKp.out, (((Hx50.out.mod Cx66.out (fun _ _ h => h)).mod Cx70.out (by intro k h1 h2; rcases h1 with h1 | h1 <;> first | omega | (have hb := HBT.out k h1; omega))).mod Cx71.out (by intro k h1 h2; rcases h1 with h1 | h1 <;> first | omega | (have hb := HBT.out k h1; omega)))⟩ (by intro k h1; rcases h1 with h1 | h1 <;> first | omega | (have hb := HBT.out k h1; omega)) (by intro k h1 h2; rcases h2 with h2 | h2 <;> first | omega | (have hb := HBT.out k h2; omega)) HLP.out) ?_
  rintro e u6_1a ⟨rfl, qwr2, hm⟩
  have zu6_1a := hm.size
  refine ⟨_, rfl, hm.mono (by intro k hk h; omega), (fun _ => rfl), ?_⟩
  intro u6_1 hr
  have zu6_1 := hr.size
  have Hx73 := hid ((qwr2.widen (R' := (fun k => (New u2_1 u2_2a k) ∨ (New u6_0 u6_1a k))) (fun _ h => h) (Nat.le_refl _)).mod hr (by intro k h1 h2; omega))
  have Cx74 := hid (Cx71.out.goM hm hr (fun _ _ h => h))
  clear Cx71 hm hr Z act E qwr2 Hx72
  refine QChain.nil fun vs hl hzz hrows hne => ?_
  obtain ⟨Z, hYZ, hZb, hV⟩ := hzz
  have f0 := fvi hV hl 0
  have f2 := fvi hV hl 2
  rw [show vs = [gw vs 0, gw vs 1, gw vs 2] from (gw_eta hl).trans rfl]
  have ha0 := HA0.out
  subst ha0
  clear HA0 hV hYZ hZb hsz0 hrows hne oe5 oe10
  simp only [putAll, Act.put, List.setIfInBounds_toArray, List.set_cons_zero, List.set_cons_succ, f0, f2]
  clear hl f0 f2
  go_upto_region 7 with (fail)
  generalize ha0 : Act.mk _ _ = a0
  have oe6 : a0.eval (.tmp 6) = .pointer (some ⟨w.heap.size + 2, 0, none⟩) := by rw [← ha0]; rfl
  have oe11 : a0.eval (.tmp 11) = .pointer (some ⟨g3, 0, none⟩) := by rw [← ha0]; rfl
  have hsz0 : a0.tmps.size = 102 := by rw [← ha0]; rfl
  have HA0 := hid ha0
  clear ha0
  refine wp_region_Q1 102 hsz0 [37, 38, 39] (fun k => (New u2_2 u2_3a k)) (fun k j => (k = 0 ∧ ((New u2_2 u2_3a j)))) (fun _ _ h => h.2) [qi (.pointer (some ⟨g3, 0, none⟩)), qi (.agg ([.int .i64 (cutBa b).ep, .int .u64 ((cutBa b).tm : Nat), Value.slice aob0 (cutBa b).ps.length capb0, Value.slice aob1 (cutBa b).os.length capb1, Value.slice aob2 (cutBa b).ts.length capb2]).toArray), qi (.tuple #[])] ⟨qi_stable, qi_stable, qi_stable, trivial⟩ [2] ⟨?_, ?_, ?_, trivial⟩ ?_
  · exact stq (fun E => ex_move rfl (E.v oe11))
  · exact stq (fun E => ex_loadA rfl Try.underlying60 rfl (off := 0) (cs := ([.int .i64 (cutBa b).ep, .int .u64 ((cutBa b).tm : Nat), Value.slice aob0 (cutBa b).ps.length capb0, Value.slice aob1 (cutBa b).os.length capb1, Value.slice aob2 (cutBa b).ts.length capb2])) (by kernel_rfl) (E.v oe6) (Cs.whole ((((Hx48.out.mod Cx66.out (fun h => h)).mod Cx70.out (by intro h2; omega)).mod Cx74.out (by intro h2; omega)).mod E.m (by intro h2; omega))))
  · exact stepq_chain rfl
  intro u7_0 hr
  have zu7_0 := hr.size
  have Cx75 := hid (hr.new (S := (fun k => (New u2_2 u2_3a k))))
  have Hx76 := hid (((Hx63.out.mod Cx70.out (by intro k h1 h2; omega)).mod Cx74.out (by intro k h1 h2; omega)).mod hr (by intro k h1 h2; omega))
  clear Hx63
  clear hr
  refine QChain.go fun Z act E => ?_
  refine qc_callF (args := #[.pointer (some ⟨g3, 0, none⟩), .agg #[.int .i64 (cutBa b).ep, .int .u64 ((cutBa b).tm : Nat), Value.slice aob0 (cutBa b).ps.length capb0, Value.slice aob1 (cutBa b).os.length capb1, Value.slice aob2 (cutBa b).ts.length capb2]]) rfl (wanted_none rfl) rfl Try.func47 (args2 (E.d 0) (E.d 1)) (WPutBa_Q _ _ _ _ _ (cutBa b) _ Hx76.out (by intro k h1; omega) ⟨_, _, _, rfl, HOKb.out, ((((Hx51.out.mod Cx66.out (fun _ _ h => h)).mod Cx70.out (by intro k h1 h2; rcases h1 with h1 | h1 <;> first | omega | (have hb := HBT.out k h1; omega))).mod Cx74.out (by intro k h1 h2; rcases h1 with h1 | h1 <;> first | omega | (have hb := HBT.out k h1; omega))).mod Cx75.out (by intro k h1 h2; rcases h1 with h1 | h1 <;> first | omega | (have hb := HBT.out k h1; omega))), ((((Hx52.out.mod Cx66.out (fun _ _ h => h)).mod Cx70.out (by intro k h1 h2; rcases h1 with h1 | h1 <;> first | omega | (have hb := HBT.out k h1; omega))).mod Cx74.out (by intro k h1 h2; rcases h1 with h1 | h1 <;> first | omega | (have hb := HBT.out k h1; omega))).mod Cx75.out (by intro k h1 h2; rcases h1 with h1 | h1 <;> first | omega | (have hb := HBT.out k h1; omega))), ((((Hx53.out.mod Cx66.out (fun _ _ h => h)).mod Cx70.out (by intro k h1 h2; rcases h1 with h1 | h1 <;> first | omega | (have hb := HBT.out k h1; omega))).mod Cx74.out (by intro k h1 h2; rcases h1 with h1 | h1 <;> first | omega | (have hb := HBT.out k h1; omega))).mod Cx75.out (by intro k h1 h2; rcases h1 with h1 | h1 <;> first | omega | (have hb := HBT.out k h1; omega)))⟩ (by intro k h1; rcases h1 with h1 | h1 <;> first | omega | (have hb := HBT.out k h1; omega)) (by intro k h1 h2; rcases h2 with h2 | h2 <;> first | omega | (have hb := HBT.out k h2; omega)) HLB.out) ?_
  rintro e u7_1a ⟨rfl, qwr3, hm⟩
  have zu7_1a := hm.size
  refine ⟨_, rfl, hm.mono (by intro k hk h; omega), (fun _ => rfl), ?_⟩
  intro u7_1 hr
  have zu7_1 := hr.size
  have Hx77 := hid ((qwr3.widen (R' := (fun k => (New u2_2 u2_3a k) ∨ (New u7_0 u7_1a k))) (fun _ h => h) (Nat.le_refl _)).mod hr (by intro k h1 h2; omega))
  have Cx78 := hid (Cx75.out.goM hm hr (fun _ _ h => h))
  clear Cx75 hm hr Z act E qwr3 Hx76
  refine QChain.nil fun vs hl hzz hrows hne => ?_
  obtain ⟨Z, hYZ, hZb, hV⟩ := hzz
  have f0 := fvi hV hl 0
  have f2 := fvi hV hl 2
  rw [show vs = [gw vs 0, gw vs 1, gw vs 2] from (gw_eta hl).trans rfl]
  have ha0 := HA0.out
  subst ha0
  clear HA0 hV hYZ hZb hsz0 hrows hne oe6 oe11
  simp only [putAll, Act.put, List.setIfInBounds_toArray, List.set_cons_zero, List.set_cons_succ, f0, f2]
  clear hl f0 f2
  go_upto_region 8 with (fail)
  go_cut [65] from 40 (fun t w' => t = .bool false ∧ Mod (fun _ => False) u7_1 w')
  case first =>
    rcases Int.lt_or_le F 0 with h1 | h1
    · skip
      have HMM := Lib.hid (Mod.refl (fun _ => False) u7_1)
      generalize ha0 : Act.mk _ _ = a0
      have oe7 : a0.eval (.tmp 7) = .pointer (some ⟨w.heap.size + 3, 0, none⟩) := by rw [← ha0]; rfl
      have hsz0 : a0.tmps.size = 102 := by rw [← ha0]; rfl
      have HA0 := hid ha0
      clear ha0
      refine wp_region_Q0 102 hsz0 [40, 41, 42, 43, 44, 45, 46, 47, 48, 49, 50, 51, 52, 53, 54, 55, 56, 57, 58, 59, 60, 61, 62, 63, 64, 65] [qi (.pointer (some ⟨w.heap.size + 3, 0, none⟩)), qi (.int .i64 F), qi (.bool false), qi (.bool false), qi undef, qi undef, qi undef, qi (.bool false), qi (.bool false), qi undef, qi undef, qi undef, qi undef, qi undef, qi undef, qi undef, qi undef, qi undef, qi undef, qi undef, qi undef, qi undef, qi undef, qi undef, qi undef, qi (.bool false)] ⟨qi_stable, qi_stable, qi_stable, qi_stable, qi_stable, qi_stable, qi_stable, qi_stable, qi_stable, qi_stable, qi_stable, qi_stable, qi_stable, qi_stable, qi_stable, qi_stable, qi_stable, qi_stable, qi_stable, qi_stable, qi_stable, qi_stable, qi_stable, qi_stable, qi_stable, qi_stable, trivial⟩ [] ⟨?_, ?_, ?_, ?_, ?_, ?_, ?_, ?_, ?_, ?_, ?_, ?_, ?_, ?_, ?_, ?_, ?_, ?_, ?_, ?_, ?_, ?_, ?_, ?_, ?_, ?_, trivial⟩ ?_
      · exact stq (fun E => ex_field rfl Try.underlying94 rfl (by kernel_rfl) (E.v oe7))
      · exact stq (fun E => ex_load1 rfl Try.underlying3 rfl (E.d 0) (Cs.lit1 ((((((HB7.out.mod Cx56.out (by intro h2; omega)).mod Cx66.out (fun h => h)).mod Cx70.out (by intro h2; omega)).mod Cx74.out (by intro h2; omega)).mod Cx78.out (by intro h2; omega)).mod E.m.old (by intro h2; omega)) rfl))
      · exact stq (fun E => ex_binE rfl (E.d 1) rfl (guard_ints _ _ _ _ _ _) (run_geq_i _ _ _ Try.underlying3) (congrArg Value.bool (decide_eq_false (by omega))))
      · exact stq (fun E => ex_move rfl (E.d 2))
      · refine stepq_env rfl rfl rfl fun _ _ _ _ _ _ _ _ hsz hd _ _ => ?_
        have h3 := hd ⟨3, .guard⟩ (by simp) rfl _ rfl
        exact qe_skip rfl ((wanted_of rfl rfl (hsz 43 (by decide)) h3).trans rfl) rfl
      · refine stepq_env rfl rfl rfl fun _ _ _ _ _ _ _ _ hsz hd _ _ => ?_
        have h3 := hd ⟨3, .guard⟩ (by simp) rfl _ rfl
        exact qe_skip rfl ((wanted_of rfl rfl (hsz 43 (by decide)) h3).trans rfl) rfl
      · refine stepq_env rfl rfl rfl fun _ _ _ _ _ _ _ _ hsz hd _ _ => ?_
        have h3 := hd ⟨3, .guard⟩ (by simp) rfl _ rfl
        exact qe_skip rfl ((wanted_of rfl rfl (hsz 43 (by decide)) h3).trans rfl) rfl
      · exact stq (fun E => ex_pick rfl (E.d 3) (E.d 6) rfl)
      · exact stq (fun E => ex_move rfl (E.d 7))
      · refine stepq_env rfl rfl rfl fun _ _ _ _ _ _ _ _ hsz hd _ _ => ?_
        have h8 := hd ⟨8, .guard⟩ (by simp) rfl _ rfl
        exact qe_skip rfl ((wanted_of rfl rfl (hsz 48 (by decide)) h8).trans rfl) rfl
      · refine stepq_env rfl rfl rfl fun _ _ _ _ _ _ _ _ hsz hd _ _ => ?_
        have h8 := hd ⟨8, .chain⟩ (by simp) rfl _ rfl
        exact qe_skip rfl ((wanted_of rfl rfl (hsz 48 (by decide)) h8).trans rfl) rfl
      · refine stepq_env rfl rfl rfl fun _ _ _ _ _ _ _ _ hsz hd _ _ => ?_
        have h8 := hd ⟨8, .guard⟩ (by simp) rfl _ rfl
        exact qe_skip rfl ((wanted_of rfl rfl (hsz 48 (by decide)) h8).trans rfl) rfl
      · refine stepq_env rfl rfl rfl fun _ _ _ _ _ _ _ _ hsz hd _ _ => ?_
        have h8 := hd ⟨8, .guard⟩ (by simp) rfl _ rfl
        exact qe_skip rfl ((wanted_of rfl rfl (hsz 48 (by decide)) h8).trans rfl) rfl
      · refine stepq_env rfl rfl rfl fun _ _ _ _ _ _ _ _ hsz hd _ _ => ?_
        have h8 := hd ⟨8, .guard⟩ (by simp) rfl _ rfl
        exact qe_skip rfl ((wanted_of rfl rfl (hsz 48 (by decide)) h8).trans rfl) rfl
      · refine stepq_env rfl rfl rfl fun _ _ _ _ _ _ _ _ hsz hd _ _ => ?_
        have h8 := hd ⟨8, .guard⟩ (by simp) rfl _ rfl
        exact qe_skip rfl ((wanted_of rfl rfl (hsz 48 (by decide)) h8).trans rfl) rfl
      · refine stepq_env rfl rfl rfl fun _ _ _ _ _ _ _ _ hsz hd _ _ => ?_
        have h8 := hd ⟨8, .guard⟩ (by simp) rfl _ rfl
        exact qe_skip rfl ((wanted_of rfl rfl (hsz 48 (by decide)) h8).trans rfl) rfl
      · refine stepq_env rfl rfl rfl fun _ _ _ _ _ _ _ _ hsz hd _ _ => ?_
        have h8 := hd ⟨8, .guard⟩ (by simp) rfl _ rfl
        exact qe_skip rfl ((wanted_of rfl rfl (hsz 48 (by decide)) h8).trans rfl) rfl
      · refine stepq_env rfl rfl rfl fun _ _ _ _ _ _ _ _ hsz hd _ _ => ?_
        have h16 := hd ⟨16, .guard⟩ (by simp) rfl _ rfl
        exact qe_skip rfl (wanted_undef rfl rfl (hsz 56 (by decide)) h16) rfl
      · refine stepq_env rfl rfl rfl fun _ _ _ _ _ _ _ _ hsz hd _ _ => ?_
        have h16 := hd ⟨16, .chain⟩ (by simp) rfl _ rfl
        exact qe_skip rfl (wanted_undef rfl rfl (hsz 56 (by decide)) h16) rfl
      · refine stepq_env rfl rfl rfl fun _ _ _ _ _ _ _ _ hsz hd _ _ => ?_
        have h16 := hd ⟨16, .guard⟩ (by simp) rfl _ rfl
        exact qe_skip rfl (wanted_undef rfl rfl (hsz 56 (by decide)) h16) rfl
      · refine stepq_env rfl rfl rfl fun _ _ _ _ _ _ _ _ hsz hd _ _ => ?_
        have h16 := hd ⟨16, .guard⟩ (by simp) rfl _ rfl
        exact qe_skip rfl (wanted_undef rfl rfl (hsz 56 (by decide)) h16) rfl
      · refine stepq_env rfl rfl rfl fun _ _ _ _ _ _ _ _ hsz hd _ _ => ?_
        have h16 := hd ⟨16, .guard⟩ (by simp) rfl _ rfl
        exact qe_skip rfl (wanted_undef rfl rfl (hsz 56 (by decide)) h16) rfl
      · refine stepq_env rfl rfl rfl fun _ _ _ _ _ _ _ _ hsz hd _ _ => ?_
        have h16 := hd ⟨16, .guard⟩ (by simp) rfl _ rfl
        exact qe_skip rfl (wanted_undef rfl rfl (hsz 56 (by decide)) h16) rfl
      · refine stepq_env rfl rfl rfl fun _ _ _ _ _ _ _ _ hsz hd _ _ => ?_
        have h16 := hd ⟨16, .guard⟩ (by simp) rfl _ rfl
        exact qe_skip rfl (wanted_undef rfl rfl (hsz 56 (by decide)) h16) rfl
      · refine stepq_env rfl rfl rfl fun _ _ _ _ _ _ _ _ hsz hd _ _ => ?_
        have h8 := hd ⟨8, .guard⟩ (by simp) rfl _ rfl
        exact qe_skip rfl ((wanted_of rfl rfl (hsz 48 (by decide)) h8).trans rfl) rfl
      · exact stq (fun E => ex_pick rfl (E.d 8) (E.d 24) rfl)
      intro u8_0 hr
      have zu8_0 := hr.size
      have Cx79 := hid (hr.new (S := (fun _ => False)))
      clear hr
      refine QChain.nil fun vs hl hzz hrows hne => ?_
      obtain ⟨Z, hYZ, hZb, hV⟩ := hzz
      have f3 := fvi hV hl 3
      have f8 := fvi hV hl 8
      have f10 := fvi hV hl 10
      have f16 := fvi hV hl 16
      have f18 := fvi hV hl 18
      have f25 := fvi hV hl 25
      rw [show vs = [gw vs 0, gw vs 1, gw vs 2, gw vs 3, gw vs 4, gw vs 5, gw vs 6, gw vs 7, gw vs 8, gw vs 9, gw vs 10, gw vs 11, gw vs 12, gw vs 13, gw vs 14, gw vs 15, gw vs 16, gw vs 17, gw vs 18, gw vs 19, gw vs 20, gw vs 21, gw vs 22, gw vs 23, gw vs 24, gw vs 25] from (gw_eta hl).trans rfl]
      have ha0 := HA0.out
      subst ha0
      clear HA0 hV hYZ hZb hsz0 hrows hne oe7
      simp only [putAll, Act.put, List.setIfInBounds_toArray, List.set_cons_zero, List.set_cons_succ, f3, f8, f10, f16, f18, f25]
      clear hl f3 f8 f10 f16 f18 f25
      go_wp2_with fail
      go_meet
      case rel => exact ⟨rfl, (HMM.out.trans Cx79.out (fun _ _ h => h.elim))⟩
    rcases Int.lt_or_le F 1099511627776 with h2 | h2
    · skip
      have HMM := Lib.hid (Mod.refl (fun _ => False) u7_1)
      generalize ha0 : Act.mk _ _ = a0
      have oe7 : a0.eval (.tmp 7) = .pointer (some ⟨w.heap.size + 3, 0, none⟩) := by rw [← ha0]; rfl
      have hsz0 : a0.tmps.size = 102 := by rw [← ha0]; rfl
      have HA0 := hid ha0
      clear ha0
      refine wp_region_Q0 102 hsz0 [40, 41, 42, 43, 44, 45, 46, 47, 48, 49, 50, 51, 52, 53, 54, 55, 56, 57, 58, 59, 60, 61, 62, 63, 64, 65] [qi (.pointer (some ⟨w.heap.size + 3, 0, none⟩)), qi (.int .i64 F), qi (.bool true), qi (.bool true), qi (.pointer (some ⟨w.heap.size + 3, 0, none⟩)), qi (.int .i64 F), qi (.bool true), qi (.bool true), qi (.bool true), qi (.agg #[.int .i64 F, .int .i64 C]), qi (.int .i64 (3 * F + 1)), qi (.pointer (some ⟨w.heap.size + 3, 0, none⟩)), qi (.int .i64 F), qi (.int .i64 (3 * F)), qi (.int .i64 (3 * F + 1)), qi (.bool false), qi (.bool false), qi (.agg #[.int .i64 F, .int .i64 C]), qi (.int .i64 (2 * F + 1)), qi (.pointer (some ⟨w.heap.size + 3, 0, none⟩)), qi (.int .i64 F), qi (.int .i64 (2 * F)), qi (.int .i64 (2 * F + 1)), qi (.bool false), qi (.bool false), qi (.bool false)] ⟨qi_stable, qi_stable, qi_stable, qi_stable, qi_stable, qi_stable, qi_stable, qi_stable, qi_stable, qi_stable, qi_stable, qi_stable, qi_stable, qi_stable, qi_stable, qi_stable, qi_stable, qi_stable, qi_stable, qi_stable, qi_stable, qi_stable, qi_stable, qi_stable, qi_stable, qi_stable, trivial⟩ [10, 18] ⟨?_, ?_, ?_, ?_, ?_, ?_, ?_, ?_, ?_, ?_, ?_, ?_, ?_, ?_, ?_, ?_, ?_, ?_, ?_, ?_, ?_, ?_, ?_, ?_, ?_, ?_, trivial⟩ ?_
      · exact stq (fun E => ex_field rfl Try.underlying94 rfl (by kernel_rfl) (E.v oe7))
      · exact stq (fun E => ex_load1 rfl Try.underlying3 rfl (E.d 0) (Cs.lit1 ((((((HB7.out.mod Cx56.out (by intro h2; omega)).mod Cx66.out (fun h => h)).mod Cx70.out (by intro h2; omega)).mod Cx74.out (by intro h2; omega)).mod Cx78.out (by intro h2; omega)).mod E.m.old (by intro h2; omega)) rfl))
      · exact stq (fun E => ex_binE rfl (E.d 1) rfl (guard_ints _ _ _ _ _ _) (run_geq_i _ _ _ Try.underlying3) (congrArg Value.bool (decide_eq_true h1)))
      · exact stq (fun E => ex_move rfl (E.d 2))
      · refine stepq_env rfl rfl rfl fun _ _ _ _ _ _ _ hout hsz hd _ _ => ?_
        have h3 := hd ⟨3, .guard⟩ (by simp) rfl _ rfl
        refine qe_run rfl ((wanted_of rfl rfl (hsz 43 (by decide)) h3).trans rfl) (ex_field rfl Try.underlying94 rfl (by kernel_rfl) ((hout 7 (by decide)).trans oe7)) QE.refl ?_
        rfl
      · refine stepq_env rfl rfl rfl fun _ _ _ _ _ hm _ _ hsz hd _ _ => ?_
        have h3 := hd ⟨3, .guard⟩ (by simp) rfl _ rfl
        have h4 := hd ⟨4, .data⟩ (by simp) rfl _ rfl
        refine qe_run rfl ((wanted_of rfl rfl (hsz 43 (by decide)) h3).trans rfl) (ex_load1 rfl Try.underlying3 rfl h4 (Cs.lit1 ((((((HB7.out.mod Cx56.out (by intro h2; omega)).mod Cx66.out (fun h => h)).mod Cx70.out (by intro h2; omega)).mod Cx74.out (by intro h2; omega)).mod Cx78.out (by intro h2; omega)).mod hm.old (by intro h2; omega)) rfl)) QE.refl ?_
        rfl
      · refine stepq_env rfl rfl rfl fun _ _ _ _ _ _ _ _ hsz hd _ _ => ?_
        have h3 := hd ⟨3, .guard⟩ (by simp) rfl _ rfl
        have h5 := hd ⟨5, .data⟩ (by simp) rfl _ rfl
        refine qe_run rfl ((wanted_of rfl rfl (hsz 43 (by decide)) h3).trans rfl) (ex_binE rfl h5 rfl (guard_ints _ _ _ _ _ _) (run_lss_i _ _ _ Try.underlying3) (congrArg Value.bool (decide_eq_true h2))) QE.refl ?_
        rfl
      · exact stq (fun E => ex_pick rfl (E.d 3) (E.d 6) rfl)
      · exact stq (fun E => ex_move rfl (E.d 7))
      · refine stepq_env rfl rfl rfl fun _ _ _ _ _ hm _ hout hsz hd _ _ => ?_
        have h8 := hd ⟨8, .guard⟩ (by simp) rfl _ rfl
        refine qe_run rfl ((wanted_of rfl rfl (hsz 48 (by decide)) h8).trans rfl) (ex_loadA rfl Try.underlying94 rfl (off := 0) (cs := [.int .i64 F, .int .i64 C]) (by kernel_rfl) ((hout 7 (by decide)).trans oe7) (Cs.whole ((((((HB7.out.mod Cx56.out (by intro h2; omega)).mod Cx66.out (fun h => h)).mod Cx70.out (by intro h2; omega)).mod Cx74.out (by intro h2; omega)).mod Cx78.out (by intro h2; omega)).mod hm.old (by intro h2; omega)))) QE.refl ?_
        rfl
      · exact stepq_chain rfl
      · refine stepq_env rfl rfl rfl fun _ _ _ _ _ _ _ hout hsz hd _ _ => ?_
        have h8 := hd ⟨8, .guard⟩ (by simp) rfl _ rfl
        refine qe_run rfl ((wanted_of rfl rfl (hsz 48 (by decide)) h8).trans rfl) (ex_field rfl Try.underlying94 rfl (by kernel_rfl) ((hout 7 (by decide)).trans oe7)) QE.refl ?_
        rfl
      · refine stepq_env rfl rfl rfl fun _ _ _ _ _ hm _ _ hsz hd _ _ => ?_
        have h8 := hd ⟨8, .guard⟩ (by simp) rfl _ rfl
        have h11 := hd ⟨11, .data⟩ (by simp) rfl _ rfl
        refine qe_run rfl ((wanted_of rfl rfl (hsz 48 (by decide)) h8).trans rfl) (ex_load1 rfl Try.underlying3 rfl h11 (Cs.lit1 ((((((HB7.out.mod Cx56.out (by intro h2; omega)).mod Cx66.out (fun h => h)).mod Cx70.out (by intro h2; omega)).mod Cx74.out (by intro h2; omega)).mod Cx78.out (by intro h2; omega)).mod hm.old (by intro h2; omega)) rfl)) QE.refl ?_
        rfl
      · refine stepq_env rfl rfl rfl fun _ _ _ _ _ _ _ _ hsz hd _ _ => ?_
        have h8 := hd ⟨8, .guard⟩ (by simp) rfl _ rfl
        have h12 := hd ⟨12, .data⟩ (by simp) rfl _ rfl
        refine qe_run rfl ((wanted_of rfl rfl (hsz 48 (by decide)) h8).trans rfl) (ex_binE rfl rfl h12 (guard_ints _ _ _ _ _ _) (run_mul_i _ _) (congrArg (Value.int .i64) (IntWalk.i64_in _ (by omega)))) QE.refl ?_
        rfl
      · refine stepq_env rfl rfl rfl fun _ _ _ _ _ _ _ _ hsz hd _ _ => ?_
        have h8 := hd ⟨8, .guard⟩ (by simp) rfl _ rfl
        have h13 := hd ⟨13, .data⟩ (by simp) rfl _ rfl
        refine qe_run rfl ((wanted_of rfl rfl (hsz 48 (by decide)) h8).trans rfl) (ex_binE rfl h13 rfl (guard_ints _ _ _ _ _ _) (run_add_i _ _ Try.underlying3) (congrArg (Value.int .i64) (IntWalk.i64_in _ (by omega)))) QE.refl ?_
        rfl
      · refine stepq_env rfl rfl rfl fun _ _ _ _ _ _ _ _ hsz hd _ _ => ?_
        have h8 := hd ⟨8, .guard⟩ (by simp) rfl _ rfl
        have h10 := hd ⟨10, .data⟩ (by simp) rfl _ rfl
        have h14 := hd ⟨14, .data⟩ (by simp) rfl _ rfl
        refine qe_run rfl ((wanted_of rfl rfl (hsz 48 (by decide)) h8).trans rfl) (ex_binE rfl h10 h14 (guard_ints _ _ _ _ _ _) (run_neq_i _ _ _ Try.underlying3) (congrArg Value.bool (show (!((3 * F + 1 : Int) == 3 * F + 1)) = false by simp))) QE.refl ?_
        rfl
      · refine stepq_env rfl rfl rfl fun _ _ _ _ _ _ _ _ hsz hd _ _ => ?_
        have h8 := hd ⟨8, .guard⟩ (by simp) rfl _ rfl
        have h15 := hd ⟨15, .data⟩ (by simp) rfl _ rfl
        refine qe_run rfl ((wanted_of rfl rfl (hsz 48 (by decide)) h8).trans rfl) (ex_move rfl h15) QE.refl ?_
        rfl
      · refine stepq_env rfl rfl rfl fun _ _ _ _ _ hm _ hout hsz hd _ _ => ?_
        have h16 := hd ⟨16, .guard⟩ (by simp) rfl _ rfl
        refine qe_run rfl ((wanted_of rfl rfl (hsz 56 (by decide)) h16).trans rfl) (ex_loadA rfl Try.underlying94 rfl (off := 0) (cs := [.int .i64 F, .int .i64 C]) (by kernel_rfl) ((hout 7 (by decide)).trans oe7) (Cs.whole ((((((HB7.out.mod Cx56.out (by intro h2; omega)).mod Cx66.out (fun h => h)).mod Cx70.out (by intro h2; omega)).mod Cx74.out (by intro h2; omega)).mod Cx78.out (by intro h2; omega)).mod hm.old (by intro h2; omega)))) QE.refl ?_
        rfl
      · exact stepq_chain rfl
      · refine stepq_env rfl rfl rfl fun _ _ _ _ _ _ _ hout hsz hd _ _ => ?_
        have h16 := hd ⟨16, .guard⟩ (by simp) rfl _ rfl
        refine qe_run rfl ((wanted_of rfl rfl (hsz 56 (by decide)) h16).trans rfl) (ex_field rfl Try.underlying94 rfl (by kernel_rfl) ((hout 7 (by decide)).trans oe7)) QE.refl ?_
        rfl
      · refine stepq_env rfl rfl rfl fun _ _ _ _ _ hm _ _ hsz hd _ _ => ?_
        have h16 := hd ⟨16, .guard⟩ (by simp) rfl _ rfl
        have h19 := hd ⟨19, .data⟩ (by simp) rfl _ rfl
        refine qe_run rfl ((wanted_of rfl rfl (hsz 56 (by decide)) h16).trans rfl) (ex_load1 rfl Try.underlying3 rfl h19 (Cs.lit1 ((((((HB7.out.mod Cx56.out (by intro h2; omega)).mod Cx66.out (fun h => h)).mod Cx70.out (by intro h2; omega)).mod Cx74.out (by intro h2; omega)).mod Cx78.out (by intro h2; omega)).mod hm.old (by intro h2; omega)) rfl)) QE.refl ?_
        rfl
      · refine stepq_env rfl rfl rfl fun _ _ _ _ _ _ _ _ hsz hd _ _ => ?_
        have h16 := hd ⟨16, .guard⟩ (by simp) rfl _ rfl
        have h20 := hd ⟨20, .data⟩ (by simp) rfl _ rfl
        refine qe_run rfl ((wanted_of rfl rfl (hsz 56 (by decide)) h16).trans rfl) (ex_binE rfl rfl h20 (guard_ints _ _ _ _ _ _) (run_mul_i _ _) (congrArg (Value.int .i64) (IntWalk.i64_in _ (by omega)))) QE.refl ?_
        rfl
      · refine stepq_env rfl rfl rfl fun _ _ _ _ _ _ _ _ hsz hd _ _ => ?_
        have h16 := hd ⟨16, .guard⟩ (by simp) rfl _ rfl
        have h21 := hd ⟨21, .data⟩ (by simp) rfl _ rfl
        refine qe_run rfl ((wanted_of rfl rfl (hsz 56 (by decide)) h16).trans rfl) (ex_binE rfl h21 rfl (guard_ints _ _ _ _ _ _) (run_add_i _ _ Try.underlying3) (congrArg (Value.int .i64) (IntWalk.i64_in _ (by omega)))) QE.refl ?_
        rfl
      · refine stepq_env rfl rfl rfl fun _ _ _ _ _ _ _ _ hsz hd _ _ => ?_
        have h16 := hd ⟨16, .guard⟩ (by simp) rfl _ rfl
        have h18 := hd ⟨18, .data⟩ (by simp) rfl _ rfl
        have h22 := hd ⟨22, .data⟩ (by simp) rfl _ rfl
        refine qe_run rfl ((wanted_of rfl rfl (hsz 56 (by decide)) h16).trans rfl) (ex_binE rfl h18 h22 (guard_ints _ _ _ _ _ _) (run_neq_i _ _ _ Try.underlying3) (congrArg Value.bool (show (!((2 * F + 1 : Int) == 2 * F + 1)) = false by simp))) QE.refl ?_
        rfl
      · refine stepq_env rfl rfl rfl fun _ _ _ _ _ _ _ _ hsz hd _ _ => ?_
        have h8 := hd ⟨8, .guard⟩ (by simp) rfl _ rfl
        have h16 := hd ⟨16, .data⟩ (by simp) rfl _ rfl
        have h23 := hd ⟨23, .data⟩ (by simp) rfl _ rfl
        refine qe_run rfl ((wanted_of rfl rfl (hsz 48 (by decide)) h8).trans rfl) (ex_pick rfl h16 rfl h23) QE.refl ?_
        rfl
      · exact stq (fun E => ex_pick rfl (E.d 8) (E.d 24) rfl)
      intro u8_0 hr
      have zu8_0 := hr.size
      have Cx79 := hid (hr.new (S := (fun _ => False)))
      clear hr
      refine QChain.go fun Z act E => ?_
      refine qc_callF (args := #[.agg #[.int .i64 F, .int .i64 C]]) rfl ((wanted_of rfl rfl (E.sz 48 (by decide)) (E.e 8 .chain)).trans rfl) rfl Try.func48 (args1 (E.d 9)) (N_wide F C ⟨h1, h2⟩ _) ?_
      rintro e u8_1a ⟨rfl, hm⟩
      have zu8_1a := hm.size
      refine ⟨_, rfl, hm.mono (fun _ _ h => h.elim), (fun _ => rfl), ?_⟩
      intro u8_1 hr
      have zu8_1 := hr.size
      have Cx80 := hid (Cx79.out.go hm hr)
      clear Cx79 hm hr Z act E
      refine QChain.go fun Z act E => ?_
      refine qc_callF (args := #[.agg #[.int .i64 F, .int .i64 C]]) rfl ((wanted_of rfl rfl (E.sz 56 (by decide)) (E.e 16 .chain)).trans rfl) rfl Try.func49 (args1 (E.d 17)) (Quorum_wide F C ⟨h1, h2⟩ _) ?_
      rintro e u8_2a ⟨rfl, hm⟩
      have zu8_2a := hm.size
      refine ⟨_, rfl, hm.mono (fun _ _ h => h.elim), (fun _ => rfl), ?_⟩
      intro u8_2 hr
      have zu8_2 := hr.size
      have Cx81 := hid (Cx80.out.go hm hr)
      clear Cx80 hm hr Z act E
      refine QChain.nil fun vs hl hzz hrows hne => ?_
      obtain ⟨Z, hYZ, hZb, hV⟩ := hzz
      have f3 := fvi hV hl 3
      have f8 := fvi hV hl 8
      have f10 := fvi hV hl 10
      have f16 := fvi hV hl 16
      have f18 := fvi hV hl 18
      have f25 := fvi hV hl 25
      rw [show vs = [gw vs 0, gw vs 1, gw vs 2, gw vs 3, gw vs 4, gw vs 5, gw vs 6, gw vs 7, gw vs 8, gw vs 9, gw vs 10, gw vs 11, gw vs 12, gw vs 13, gw vs 14, gw vs 15, gw vs 16, gw vs 17, gw vs 18, gw vs 19, gw vs 20, gw vs 21, gw vs 22, gw vs 23, gw vs 24, gw vs 25] from (gw_eta hl).trans rfl]
      have ha0 := HA0.out
      subst ha0
      clear HA0 hV hYZ hZb hsz0 hrows hne oe7
      simp only [putAll, Act.put, List.setIfInBounds_toArray, List.set_cons_zero, List.set_cons_succ, f3, f8, f10, f16, f18, f25]
      clear hl f3 f8 f10 f16 f18 f25
      go_wp2_with fail
      go_meet
      case rel => exact ⟨rfl, (HMM.out.trans Cx81.out (fun _ _ h => h.elim))⟩
    · skip
      have HMM := Lib.hid (Mod.refl (fun _ => False) u7_1)
      generalize ha0 : Act.mk _ _ = a0
      have oe7 : a0.eval (.tmp 7) = .pointer (some ⟨w.heap.size + 3, 0, none⟩) := by rw [← ha0]; rfl
      have hsz0 : a0.tmps.size = 102 := by rw [← ha0]; rfl
      have HA0 := hid ha0
      clear ha0
      refine wp_region_Q0 102 hsz0 [40, 41, 42, 43, 44, 45, 46, 47, 48, 49, 50, 51, 52, 53, 54, 55, 56, 57, 58, 59, 60, 61, 62, 63, 64, 65] [qi (.pointer (some ⟨w.heap.size + 3, 0, none⟩)), qi (.int .i64 F), qi (.bool true), qi (.bool true), qi (.pointer (some ⟨w.heap.size + 3, 0, none⟩)), qi (.int .i64 F), qi (.bool false), qi (.bool false), qi (.bool false), qi undef, qi undef, qi undef, qi undef, qi undef, qi undef, qi undef, qi undef, qi undef, qi undef, qi undef, qi undef, qi undef, qi undef, qi undef, qi undef, qi (.bool false)] ⟨qi_stable, qi_stable, qi_stable, qi_stable, qi_stable, qi_stable, qi_stable, qi_stable, qi_stable, qi_stable, qi_stable, qi_stable, qi_stable, qi_stable, qi_stable, qi_stable, qi_stable, qi_stable, qi_stable, qi_stable, qi_stable, qi_stable, qi_stable, qi_stable, qi_stable, qi_stable, trivial⟩ [] ⟨?_, ?_, ?_, ?_, ?_, ?_, ?_, ?_, ?_, ?_, ?_, ?_, ?_, ?_, ?_, ?_, ?_, ?_, ?_, ?_, ?_, ?_, ?_, ?_, ?_, ?_, trivial⟩ ?_
      · exact stq (fun E => ex_field rfl Try.underlying94 rfl (by kernel_rfl) (E.v oe7))
      · exact stq (fun E => ex_load1 rfl Try.underlying3 rfl (E.d 0) (Cs.lit1 ((((((HB7.out.mod Cx56.out (by intro h2; omega)).mod Cx66.out (fun h => h)).mod Cx70.out (by intro h2; omega)).mod Cx74.out (by intro h2; omega)).mod Cx78.out (by intro h2; omega)).mod E.m.old (by intro h2; omega)) rfl))
      · exact stq (fun E => ex_binE rfl (E.d 1) rfl (guard_ints _ _ _ _ _ _) (run_geq_i _ _ _ Try.underlying3) (congrArg Value.bool (decide_eq_true h1)))
      · exact stq (fun E => ex_move rfl (E.d 2))
      · refine stepq_env rfl rfl rfl fun _ _ _ _ _ _ _ hout hsz hd _ _ => ?_
        have h3 := hd ⟨3, .guard⟩ (by simp) rfl _ rfl
        refine qe_run rfl ((wanted_of rfl rfl (hsz 43 (by decide)) h3).trans rfl) (ex_field rfl Try.underlying94 rfl (by kernel_rfl) ((hout 7 (by decide)).trans oe7)) QE.refl ?_
        rfl
      · refine stepq_env rfl rfl rfl fun _ _ _ _ _ hm _ _ hsz hd _ _ => ?_
        have h3 := hd ⟨3, .guard⟩ (by simp) rfl _ rfl
        have h4 := hd ⟨4, .data⟩ (by simp) rfl _ rfl
        refine qe_run rfl ((wanted_of rfl rfl (hsz 43 (by decide)) h3).trans rfl) (ex_load1 rfl Try.underlying3 rfl h4 (Cs.lit1 ((((((HB7.out.mod Cx56.out (by intro h2; omega)).mod Cx66.out (fun h => h)).mod Cx70.out (by intro h2; omega)).mod Cx74.out (by intro h2; omega)).mod Cx78.out (by intro h2; omega)).mod hm.old (by intro h2; omega)) rfl)) QE.refl ?_
        rfl
      · refine stepq_env rfl rfl rfl fun _ _ _ _ _ _ _ _ hsz hd _ _ => ?_
        have h3 := hd ⟨3, .guard⟩ (by simp) rfl _ rfl
        have h5 := hd ⟨5, .data⟩ (by simp) rfl _ rfl
        refine qe_run rfl ((wanted_of rfl rfl (hsz 43 (by decide)) h3).trans rfl) (ex_binE rfl h5 rfl (guard_ints _ _ _ _ _ _) (run_lss_i _ _ _ Try.underlying3) (congrArg Value.bool (decide_eq_false (by omega)))) QE.refl ?_
        rfl
      · exact stq (fun E => ex_pick rfl (E.d 3) (E.d 6) rfl)
      · exact stq (fun E => ex_move rfl (E.d 7))
      · refine stepq_env rfl rfl rfl fun _ _ _ _ _ _ _ _ hsz hd _ _ => ?_
        have h8 := hd ⟨8, .guard⟩ (by simp) rfl _ rfl
        exact qe_skip rfl ((wanted_of rfl rfl (hsz 48 (by decide)) h8).trans rfl) rfl
      · refine stepq_env rfl rfl rfl fun _ _ _ _ _ _ _ _ hsz hd _ _ => ?_
        have h8 := hd ⟨8, .chain⟩ (by simp) rfl _ rfl
        exact qe_skip rfl ((wanted_of rfl rfl (hsz 48 (by decide)) h8).trans rfl) rfl
      · refine stepq_env rfl rfl rfl fun _ _ _ _ _ _ _ _ hsz hd _ _ => ?_
        have h8 := hd ⟨8, .guard⟩ (by simp) rfl _ rfl
        exact qe_skip rfl ((wanted_of rfl rfl (hsz 48 (by decide)) h8).trans rfl) rfl
      · refine stepq_env rfl rfl rfl fun _ _ _ _ _ _ _ _ hsz hd _ _ => ?_
        have h8 := hd ⟨8, .guard⟩ (by simp) rfl _ rfl
        exact qe_skip rfl ((wanted_of rfl rfl (hsz 48 (by decide)) h8).trans rfl) rfl
      · refine stepq_env rfl rfl rfl fun _ _ _ _ _ _ _ _ hsz hd _ _ => ?_
        have h8 := hd ⟨8, .guard⟩ (by simp) rfl _ rfl
        exact qe_skip rfl ((wanted_of rfl rfl (hsz 48 (by decide)) h8).trans rfl) rfl
      · refine stepq_env rfl rfl rfl fun _ _ _ _ _ _ _ _ hsz hd _ _ => ?_
        have h8 := hd ⟨8, .guard⟩ (by simp) rfl _ rfl
        exact qe_skip rfl ((wanted_of rfl rfl (hsz 48 (by decide)) h8).trans rfl) rfl
      · refine stepq_env rfl rfl rfl fun _ _ _ _ _ _ _ _ hsz hd _ _ => ?_
        have h8 := hd ⟨8, .guard⟩ (by simp) rfl _ rfl
        exact qe_skip rfl ((wanted_of rfl rfl (hsz 48 (by decide)) h8).trans rfl) rfl
      · refine stepq_env rfl rfl rfl fun _ _ _ _ _ _ _ _ hsz hd _ _ => ?_
        have h8 := hd ⟨8, .guard⟩ (by simp) rfl _ rfl
        exact qe_skip rfl ((wanted_of rfl rfl (hsz 48 (by decide)) h8).trans rfl) rfl
      · refine stepq_env rfl rfl rfl fun _ _ _ _ _ _ _ _ hsz hd _ _ => ?_
        have h16 := hd ⟨16, .guard⟩ (by simp) rfl _ rfl
        exact qe_skip rfl (wanted_undef rfl rfl (hsz 56 (by decide)) h16) rfl
      · refine stepq_env rfl rfl rfl fun _ _ _ _ _ _ _ _ hsz hd _ _ => ?_
        have h16 := hd ⟨16, .chain⟩ (by simp) rfl _ rfl
        exact qe_skip rfl (wanted_undef rfl rfl (hsz 56 (by decide)) h16) rfl
      · refine stepq_env rfl rfl rfl fun _ _ _ _ _ _ _ _ hsz hd _ _ => ?_
        have h16 := hd ⟨16, .guard⟩ (by simp) rfl _ rfl
        exact qe_skip rfl (wanted_undef rfl rfl (hsz 56 (by decide)) h16) rfl
      · refine stepq_env rfl rfl rfl fun _ _ _ _ _ _ _ _ hsz hd _ _ => ?_
        have h16 := hd ⟨16, .guard⟩ (by simp) rfl _ rfl
        exact qe_skip rfl (wanted_undef rfl rfl (hsz 56 (by decide)) h16) rfl
      · refine stepq_env rfl rfl rfl fun _ _ _ _ _ _ _ _ hsz hd _ _ => ?_
        have h16 := hd ⟨16, .guard⟩ (by simp) rfl _ rfl
        exact qe_skip rfl (wanted_undef rfl rfl (hsz 56 (by decide)) h16) rfl
      · refine stepq_env rfl rfl rfl fun _ _ _ _ _ _ _ _ hsz hd _ _ => ?_
        have h16 := hd ⟨16, .guard⟩ (by simp) rfl _ rfl
        exact qe_skip rfl (wanted_undef rfl rfl (hsz 56 (by decide)) h16) rfl
      · refine stepq_env rfl rfl rfl fun _ _ _ _ _ _ _ _ hsz hd _ _ => ?_
        have h16 := hd ⟨16, .guard⟩ (by simp) rfl _ rfl
        exact qe_skip rfl (wanted_undef rfl rfl (hsz 56 (by decide)) h16) rfl
      · refine stepq_env rfl rfl rfl fun _ _ _ _ _ _ _ _ hsz hd _ _ => ?_
        have h8 := hd ⟨8, .guard⟩ (by simp) rfl _ rfl
        exact qe_skip rfl ((wanted_of rfl rfl (hsz 48 (by decide)) h8).trans rfl) rfl
      · exact stq (fun E => ex_pick rfl (E.d 8) (E.d 24) rfl)
      intro u8_0 hr
      have zu8_0 := hr.size
      have Cx79 := hid (hr.new (S := (fun _ => False)))
      clear hr
      refine QChain.nil fun vs hl hzz hrows hne => ?_
      obtain ⟨Z, hYZ, hZb, hV⟩ := hzz
      have f3 := fvi hV hl 3
      have f8 := fvi hV hl 8
      have f10 := fvi hV hl 10
      have f16 := fvi hV hl 16
      have f18 := fvi hV hl 18
      have f25 := fvi hV hl 25
      rw [show vs = [gw vs 0, gw vs 1, gw vs 2, gw vs 3, gw vs 4, gw vs 5, gw vs 6, gw vs 7, gw vs 8, gw vs 9, gw vs 10, gw vs 11, gw vs 12, gw vs 13, gw vs 14, gw vs 15, gw vs 16, gw vs 17, gw vs 18, gw vs 19, gw vs 20, gw vs 21, gw vs 22, gw vs 23, gw vs 24, gw vs 25] from (gw_eta hl).trans rfl]
      have ha0 := HA0.out
      subst ha0
      clear HA0 hV hYZ hZb hsz0 hrows hne oe7
      simp only [putAll, Act.put, List.setIfInBounds_toArray, List.set_cons_zero, List.set_cons_succ, f3, f8, f10, f16, f18, f25]
      clear hl f3 f8 f10 f16 f18 f25
      go_wp2_with fail
      go_meet
      case rel => exact ⟨rfl, (HMM.out.trans Cx79.out (fun _ _ h => h.elim))⟩
  case rest =>
    obtain ⟨wq, rfl⟩ : ∃ x, x = wc := ⟨_, rfl⟩
    obtain ⟨hcut, hm⟩ := hcut
    subst hcut
    have zwq := hm.size
    have Hx79 := hid (((((Hx49.out.mod Cx66.out (fun _ _ h => h)).mod Cx70.out (by intro k h1 h2; rcases h1 with h1 | h1 <;> first | omega | (have hb := HBT.out k h1; omega))).mod Cx74.out (by intro k h1 h2; rcases h1 with h1 | h1 <;> first | omega | (have hb := HBT.out k h1; omega))).mod Cx78.out (by intro k h1 h2; rcases h1 with h1 | h1 <;> first | omega | (have hb := HBT.out k h1; omega))).mod hm (fun _ _ h => h))
    have Hx80 := hid (((((Hx50.out.mod Cx66.out (fun _ _ h => h)).mod Cx70.out (by intro k h1 h2; rcases h1 with h1 | h1 <;> first | omega | (have hb := HBT.out k h1; omega))).mod Cx74.out (by intro k h1 h2; rcases h1 with h1 | h1 <;> first | omega | (have hb := HBT.out k h1; omega))).mod Cx78.out (by intro k h1 h2; rcases h1 with h1 | h1 <;> first | omega | (have hb := HBT.out k h1; omega))).mod hm (fun _ _ h => h))
    have Hx81 := hid (((((Hx51.out.mod Cx66.out (fun _ _ h => h)).mod Cx70.out (by intro k h1 h2; rcases h1 with h1 | h1 <;> first | omega | (have hb := HBT.out k h1; omega))).mod Cx74.out (by intro k h1 h2; rcases h1 with h1 | h1 <;> first | omega | (have hb := HBT.out k h1; omega))).mod Cx78.out (by intro k h1 h2; rcases h1 with h1 | h1 <;> first | omega | (have hb := HBT.out k h1; omega))).mod hm (fun _ _ h => h))
    have Hx82 := hid (((((Hx52.out.mod Cx66.out (fun _ _ h => h)).mod Cx70.out (by intro k h1 h2; rcases h1 with h1 | h1 <;> first | omega | (have hb := HBT.out k h1; omega))).mod Cx74.out (by intro k h1 h2; rcases h1 with h1 | h1 <;> first | omega | (have hb := HBT.out k h1; omega))).mod Cx78.out (by intro k h1 h2; rcases h1 with h1 | h1 <;> first | omega | (have hb := HBT.out k h1; omega))).mod hm (fun _ _ h => h))
    have Hx83 := hid (((((Hx53.out.mod Cx66.out (fun _ _ h => h)).mod Cx70.out (by intro k h1 h2; rcases h1 with h1 | h1 <;> first | omega | (have hb := HBT.out k h1; omega))).mod Cx74.out (by intro k h1 h2; rcases h1 with h1 | h1 <;> first | omega | (have hb := HBT.out k h1; omega))).mod Cx78.out (by intro k h1 h2; rcases h1 with h1 | h1 <;> first | omega | (have hb := HBT.out k h1; omega))).mod hm (fun _ _ h => h))
    have Hx84 := hid (((((Hx54.out.mod Cx66.out (fun h => h)).mod Cx70.out (by intro h2; omega)).mod Cx74.out (by intro h2; omega)).mod Cx78.out (by intro h2; omega)).mod hm (fun h => h))
    have Hx85 := hid (((((Hx55.out.mod Cx66.out (fun h => h)).mod Cx70.out (by intro h2; omega)).mod Cx74.out (by intro h2; omega)).mod Cx78.out (by intro h2; omega)).mod hm (fun h => h))
    have Hx86 := hid (((((Hx48.out.mod Cx66.out (fun h => h)).mod Cx70.out (by intro h2; omega)).mod Cx74.out (by intro h2; omega)).mod Cx78.out (by intro h2; omega)).mod hm (fun h => h))
    have Hx87 := hid ((((((HB7.out.mod Cx56.out (by intro h2; omega)).mod Cx66.out (fun h => h)).mod Cx70.out (by intro h2; omega)).mod Cx74.out (by intro h2; omega)).mod Cx78.out (by intro h2; omega)).mod hm (fun h => h))
    have Hx88 := hid ((((((HM0.out.trans Cx56.out (by intro k h1 h2; omega)).trans Cx66.out (fun _ _ h => h.elim)).trans Cx70.out (by intro k h1 h2; omega)).trans Cx74.out (by intro k h1 h2; omega)).trans Cx78.out (by intro k h1 h2; omega)).trans hm (fun _ _ h => h.elim))
    have Hx89 := hid (((Hx69.out.mod Cx74.out (by intro k h1 h2; omega)).mod Cx78.out (by intro k h1 h2; omega)).mod hm (fun _ _ h => h))
    have Hx90 := hid ((Hx73.out.mod Cx78.out (by intro k h1 h2; omega)).mod hm (fun _ _ h => h))
    have Hx91 := hid (Hx77.out.mod hm (fun _ _ h => h))
    clear Hx49 Hx50 Hx51 Hx52 Hx53 Hx54 Hx55 Hx48 HB7 HM0 Hx69 Hx73 Hx77
    clear hm
    go_upto_region 10 with (fail)
    generalize ha0 : Act.mk _ _ = a0
    have oe4 : a0.eval (.tmp 4) = .pointer (some ⟨w.heap.size, 0, none⟩) := by rw [← ha0]; rfl
    have oe5 : a0.eval (.tmp 5) = .pointer (some ⟨w.heap.size + 1, 0, none⟩) := by rw [← ha0]; rfl
    have oe6 : a0.eval (.tmp 6) = .pointer (some ⟨w.heap.size + 2, 0, none⟩) := by rw [← ha0]; rfl
    have oe7 : a0.eval (.tmp 7) = .pointer (some ⟨w.heap.size + 3, 0, none⟩) := by rw [← ha0]; rfl
    have oe9 : a0.eval (.tmp 9) = .pointer (some ⟨g1, 0, none⟩) := by rw [← ha0]; rfl
    have oe10 : a0.eval (.tmp 10) = .pointer (some ⟨g2, 0, none⟩) := by rw [← ha0]; rfl
    have oe11 : a0.eval (.tmp 11) = .pointer (some ⟨g3, 0, none⟩) := by rw [← ha0]; rfl
    have hsz0 : a0.tmps.size = 102 := by rw [← ha0]; rfl
    have HA0 := hid ha0
    clear ha0
    refine wp_region_Q0 102 hsz0 [66, 67, 68, 69, 70, 71, 72, 73, 74, 75, 76, 77, 78, 79, 80, 81, 82, 83, 84, 85, 86, 87, 88, 89, 90, 91, 92, 93, 94, 95, 96, 97, 98, 99, 100, 101, 8] [qi (.pointer (some ⟨g1, 0, none⟩)), qv 0, qi (.agg ((cutCe x).c.cells ++ [Value.slice aox (cutCe x).l.length capx]).toArray), qv 1, qi (.bool true), qi (.bool true), qi (.pointer (some ⟨g2, 0, none⟩)), qv 3, qi (.agg ((cutPm p).cells (Value.slice aop (cutPm p).l.length capp)).toArray), qv 4, qi (.bool true), qi (.bool true), qi (.bool true), qi (.pointer (some ⟨g3, 0, none⟩)), qv 6, qi (.agg ([.int .i64 (cutBa b).ep, .int .u64 ((cutBa b).tm : Nat), Value.slice aob0 (cutBa b).ps.length capb0, Value.slice aob1 (cutBa b).os.length capb1, Value.slice aob2 (cutBa b).ts.length capb2]).toArray), qv 7, qi (.bool true), qi (.bool true), qi (.bool true), qi (.agg ([.int .i64 (cutBa b).ep, .int .u64 ((cutBa b).tm : Nat), Value.slice aob0 (cutBa b).ps.length capb0, Value.slice aob1 (cutBa b).os.length capb1, Value.slice aob2 (cutBa b).ts.length capb2]).toArray), qi (hv (shaF (baB (cutBa b)))), qi (.agg ([.int .i64 (cutBa b).ep, .int .u64 ((cutBa b).tm : Nat), Value.slice aob0 (cutBa b).ps.length capb0, Value.slice aob1 (cutBa b).os.length capb1, Value.slice aob2 (cutBa b).ts.length capb2]).toArray), qi (hv (shaF (baB (cutBa b)))), qi (.bool true), qi (.bool true), qi (.bool true), qi (.agg #[.int .i64 F, .int .i64 C]), qi (.bool (okConf F C)), qi (.agg #[.int .i64 F, .int .i64 C]), qi (.bool (okConf F C)), qi (.bool true), qi (.bool true), qi (.bool true), qi (.bool true), qi (.bool true), qi (.bool true)] ⟨qi_stable, qv_stable, qi_stable, qv_stable, qi_stable, qi_stable, qi_stable, qv_stable, qi_stable, qv_stable, qi_stable, qi_stable, qi_stable, qi_stable, qv_stable, qi_stable, qv_stable, qi_stable, qi_stable, qi_stable, qi_stable, qi_stable, qi_stable, qi_stable, qi_stable, qi_stable, qi_stable, qi_stable, qi_stable, qi_stable, qi_stable, qi_stable, qi_stable, qi_stable, qi_stable, qi_stable, qi_stable, trivial⟩ [1, 3, 4, 7, 9, 10, 14, 16, 17, 21, 23, 28, 30, 34] ⟨?_, ?_, ?_, ?_, ?_, ?_, ?_, ?_, ?_, ?_, ?_, ?_, ?_, ?_, ?_, ?_, ?_, ?_, ?_, ?_, ?_, ?_, ?_, ?_, ?_, ?_, ?_, ?_, ?_, ?_, ?_, ?_, ?_, ?_, ?_, ?_, ?_, trivial⟩ ?_
    · exact stq (fun E => ex_move rfl (E.v oe9))
    · exact stepq_chain rfl
    · exact stq (fun E => ex_loadA rfl Try.underlying52 rfl (off := 0) (cs := ((cutCe x).c.cells ++ [Value.slice aox (cutCe x).l.length capx])) (by rw [List.length_append, Cm.len HOK2x.out.2.1]; exact size_ce) (E.v oe4) (Cs.whole (Hx84.out.mod E.m.old (by intro h2; omega))))
    · exact stepq_chain rfl
    · exact stepq_chain rfl
    · exact stq (fun E => ex_move rfl (E.d 4))
    · refine stepq_env rfl rfl rfl fun _ _ _ _ _ _ _ hout hsz hd _ _ => ?_
      have h5 := hd ⟨5, .guard⟩ (by simp) rfl _ rfl
      refine qe_run rfl ((wanted_of rfl rfl (hsz 71 (by decide)) h5).trans rfl) (ex_move rfl ((hout 10 (by decide)).trans oe10)) QE.refl ?_
      rfl
    · exact stepq_chain rfl
    · refine stepq_env rfl rfl rfl fun _ _ _ _ _ hm _ hout hsz hd _ _ => ?_
      have h5 := hd ⟨5, .guard⟩ (by simp) rfl _ rfl
      refine qe_run rfl ((wanted_of rfl rfl (hsz 71 (by decide)) h5).trans rfl) (ex_loadA rfl Try.underlying55 rfl (off := 0) (cs := ((cutPm p).cells (Value.slice aop (cutPm p).l.length capp))) (by kernel_rfl) ((hout 5 (by decide)).trans oe5) (Cs.whole (Hx85.out.mod hm.old (by intro h2; omega)))) QE.refl ?_
      rfl
    · exact stepq_chain rfl
    · exact stepq_chain rfl
    · exact stq (fun E => ex_pick rfl (E.d 5) (E.d 10) rfl)
    · exact stq (fun E => ex_move rfl (E.d 11))
    · refine stepq_env rfl rfl rfl fun _ _ _ _ _ _ _ hout hsz hd _ _ => ?_
      have h12 := hd ⟨12, .guard⟩ (by simp) rfl _ rfl
      refine qe_run rfl ((wanted_of rfl rfl (hsz 78 (by decide)) h12).trans rfl) (ex_move rfl ((hout 11 (by decide)).trans oe11)) QE.refl ?_
      rfl
    · exact stepq_chain rfl
    · refine stepq_env rfl rfl rfl fun _ _ _ _ _ hm _ hout hsz hd _ _ => ?_
      have h12 := hd ⟨12, .guard⟩ (by simp) rfl _ rfl
      refine qe_run rfl ((wanted_of rfl rfl (hsz 78 (by decide)) h12).trans rfl) (ex_loadA rfl Try.underlying60 rfl (off := 0) (cs := ([.int .i64 (cutBa b).ep, .int .u64 ((cutBa b).tm : Nat), Value.slice aob0 (cutBa b).ps.length capb0, Value.slice aob1 (cutBa b).os.length capb1, Value.slice aob2 (cutBa b).ts.length capb2])) (by kernel_rfl) ((hout 6 (by decide)).trans oe6) (Cs.whole (Hx86.out.mod hm.old (by intro h2; omega)))) QE.refl ?_
      rfl
    · exact stepq_chain rfl
    · exact stepq_chain rfl
    · exact stq (fun E => ex_pick rfl (E.d 12) (E.d 17) rfl)
    · exact stq (fun E => ex_move rfl (E.d 18))
    · refine stepq_env rfl rfl rfl fun _ _ _ _ _ hm _ hout hsz hd _ _ => ?_
      have h19 := hd ⟨19, .guard⟩ (by simp) rfl _ rfl
      refine qe_run rfl ((wanted_of rfl rfl (hsz 85 (by decide)) h19).trans rfl) (ex_loadA rfl Try.underlying60 rfl (off := 0) (cs := ([.int .i64 (cutBa b).ep, .int .u64 ((cutBa b).tm : Nat), Value.slice aob0 (cutBa b).ps.length capb0, Value.slice aob1 (cutBa b).os.length capb1, Value.slice aob2 (cutBa b).ts.length capb2])) (by kernel_rfl) ((hout 6 (by decide)).trans oe6) (Cs.whole (Hx86.out.mod hm.old (by intro h2; omega)))) QE.refl ?_
      rfl
    · exact stepq_chain rfl
    · refine stepq_env rfl rfl rfl fun _ _ _ _ _ hm _ hout hsz hd _ _ => ?_
      have h19 := hd ⟨19, .guard⟩ (by simp) rfl _ rfl
      refine qe_run rfl ((wanted_of rfl rfl (hsz 85 (by decide)) h19).trans rfl) (ex_loadA rfl Try.underlying60 rfl (off := 0) (cs := ([.int .i64 (cutBa b).ep, .int .u64 ((cutBa b).tm : Nat), Value.slice aob0 (cutBa b).ps.length capb0, Value.slice aob1 (cutBa b).os.length capb1, Value.slice aob2 (cutBa b).ts.length capb2])) (by kernel_rfl) ((hout 6 (by decide)).trans oe6) (Cs.whole (Hx86.out.mod hm.old (by intro h2; omega)))) QE.refl ?_
      rfl
    · exact stepq_chain rfl
    · refine stepq_env rfl rfl rfl fun _ _ _ _ _ _ _ _ hsz hd _ _ => ?_
      have h19 := hd ⟨19, .guard⟩ (by simp) rfl _ rfl
      have h21 := hd ⟨21, .data⟩ (by simp) rfl _ rfl
      have h23 := hd ⟨23, .data⟩ (by simp) rfl _ rfl
      refine qe_run rfl ((wanted_of rfl rfl (hsz 85 (by decide)) h19).trans rfl) (ex_binE rfl h21 h23 (hv_guard2 _ _ _ _ _ _) (hv_eql (shaF_len _) (shaF_len _) _) (congrArg Value.bool (decide_eq_true rfl))) QE.refl ?_
      rfl
    · exact stq (fun E => ex_pick rfl (E.d 19) (E.d 24) rfl)
    · exact stq (fun E => ex_move rfl (E.d 25))
    · refine stepq_env rfl rfl rfl fun _ _ _ _ _ hm _ hout hsz hd _ _ => ?_
      have h26 := hd ⟨26, .guard⟩ (by simp) rfl _ rfl
      refine qe_run rfl ((wanted_of rfl rfl (hsz 92 (by decide)) h26).trans rfl) (ex_loadA rfl Try.underlying94 rfl (off := 0) (cs := [.int .i64 F, .int .i64 C]) (by kernel_rfl) ((hout 7 (by decide)).trans oe7) (Cs.whole (Hx87.out.mod hm.old (by intro h2; omega)))) QE.refl ?_
      rfl
    · exact stepq_chain rfl
    · refine stepq_env rfl rfl rfl fun _ _ _ _ _ hm _ hout hsz hd _ _ => ?_
      have h26 := hd ⟨26, .guard⟩ (by simp) rfl _ rfl
      refine qe_run rfl ((wanted_of rfl rfl (hsz 92 (by decide)) h26).trans rfl) (ex_loadA rfl Try.underlying94 rfl (off := 0) (cs := [.int .i64 F, .int .i64 C]) (by kernel_rfl) ((hout 7 (by decide)).trans oe7) (Cs.whole (Hx87.out.mod hm.old (by intro h2; omega)))) QE.refl ?_
      rfl
    · exact stepq_chain rfl
    · refine stepq_env rfl rfl rfl fun _ _ _ _ _ _ _ _ hsz hd _ _ => ?_
      have h26 := hd ⟨26, .guard⟩ (by simp) rfl _ rfl
      have h28 := hd ⟨28, .data⟩ (by simp) rfl _ rfl
      have h30 := hd ⟨30, .data⟩ (by simp) rfl _ rfl
      refine qe_run rfl ((wanted_of rfl rfl (hsz 92 (by decide)) h26).trans rfl) (ex_binE rfl h28 h30 (guard_bools _ _ _ _ _ _) (run_eql_bools _ _ _ Try.underlying4) (congrArg Value.bool (beq_self_eq_true _))) QE.refl ?_
      rfl
    · exact stq (fun E => ex_pick rfl (E.d 26) (E.d 31) rfl)
    · exact stq (fun E => ex_move rfl (E.d 32))
    · exact stepq_chain rfl
    · exact stq (fun E => ex_pick rfl (E.d 33) (E.d 34) rfl)
    · exact stq (fun E => ex_assign rfl (E.d 35))
    intro u10_0 hr
    have zu10_0 := hr.size
    have Cx92 := hid (hr.new (S := (fun _ => False)))
    clear hr
    refine QChain.go fun Z act E => ?_
    refine qc_callF (args := #[.pointer (some ⟨g1, 0, none⟩)]) rfl (wanted_none rfl) rfl Try.func50 (args1 (E.d 0)) (WBytes_Q (Hx89.out.mod Cx92.out (fun _ _ h => h))) ?_
    rintro e u10_1a ⟨v_a1, rfl, qa1, hm⟩
    obtain ⟨ao_a1, cap_a1, rfl⟩ := qa1.shape
    have zu10_1a := hm.size
    refine ⟨_, rfl, hm.mono (fun _ _ h => h.elim), (fun _ => rfl), ?_⟩
    intro u10_1 hr
    have zu10_1 := hr.size
    have Hx93 := hid ((qa1.widen (R' := (fun k => (New u10_0 u10_1a k))) (fun _ h => h) (Nat.le_refl _)).mod hr (by intro k h1 h2; omega))
    have Cx94 := hid (Cx92.out.go hm hr)
    clear Cx92 hm hr Z act E qa1
    refine QChain.go fun Z act E => ?_
    refine qc_callF (args := #[.agg ((cutCe x).c.cells ++ [Value.slice aox (cutCe x).l.length capx]).toArray]) rfl (wanted_none rfl) rfl Try.func20 (args1 (E.d 2)) (RefCe_Q _ _ (cutCe x) _ ⟨_, rfl, HOK2x.out, (Hx79.out.mod Cx94.out (fun _ _ h => h))⟩ (by intro k h1; rcases h1 with h1 | h1 <;> first | omega | (have hb := HBT.out k h1; omega)) HLX.out) ?_
    rintro e u10_2a ⟨v_a2, rfl, qa2, hm⟩
    obtain ⟨ao_a2, cap_a2, rfl⟩ := qa2.shape
    have zu10_2a := hm.size
    refine ⟨_, rfl, hm.mono (fun _ _ h => h.elim), (fun _ => rfl), ?_⟩
    intro u10_2 hr
    have zu10_2 := hr.size
    have Hx95 := hid ((qa2.widen (R' := (fun k => (New u10_1 u10_2a k))) (fun _ h => h) (Nat.le_refl _)).mod hr (by intro k h1 h2; omega))
    have hmr := Mod.after hm hr
    have Hx96 := hid (Hx93.out.mod hmr (by intro k h1 h2; omega))
    clear Hx93
    clear hmr
    have Cx97 := hid (Cx94.out.go hm hr)
    clear Cx94 hm hr Z act E qa2
    refine QChain.go fun Z act E => ?_
    refine qc_callF (args := #[.slice ao_a1 ((ceB (cutCe x)).length) cap_a1, .slice ao_a2 ((ceB (cutCe x)).length) cap_a2]) rfl (wanted_none rfl) rfl Try.func18 (args2 (chv (v := .slice ao_a1 ((ceB (cutCe x)).length) cap_a1) (E.d 1)) (chv (v := .slice ao_a2 ((ceB (cutCe x)).length) cap_a2) (E.d 3))) (Same_true Hx96.out.rd Hx95.out.rd rfl) ?_
    rintro e u10_3a ⟨rfl, hm⟩
    have zu10_3a := hm.size
    refine ⟨_, rfl, hm.mono (fun _ _ h => h.elim), (fun _ => rfl), ?_⟩
    intro u10_3 hr
    have zu10_3 := hr.size
    have hmr := Mod.after hm hr
    have Hx98 := hid (Hx96.out.mod hmr (by intro k h1 h2; omega))
    have Hx99 := hid (Hx95.out.mod hmr (by intro k h1 h2; omega))
    clear Hx96 Hx95
    clear hmr
    have Cx100 := hid (Cx97.out.go hm hr)
    clear Cx97 hm hr Z act E
    clear Hx98
    clear Hx99
    clear Hx89
    refine QChain.go fun Z act E => ?_
    refine qc_callF (args := #[.pointer (some ⟨g2, 0, none⟩)]) rfl ((wanted_of rfl rfl (E.sz 71 (by decide)) (E.e 5 .chain)).trans rfl) rfl Try.func50 (args1 (E.d 6)) (WBytes_Q (Hx90.out.mod Cx100.out (fun _ _ h => h))) ?_
    rintro e u10_4a ⟨v_a3, rfl, qa3, hm⟩
    obtain ⟨ao_a3, cap_a3, rfl⟩ := qa3.shape
    have zu10_4a := hm.size
    refine ⟨_, rfl, hm.mono (fun _ _ h => h.elim), (fun _ => rfl), ?_⟩
    intro u10_4 hr
    have zu10_4 := hr.size
    have Hx101 := hid ((qa3.widen (R' := (fun k => (New u10_3 u10_4a k))) (fun _ h => h) (Nat.le_refl _)).mod hr (by intro k h1 h2; omega))
    have Cx102 := hid (Cx100.out.go hm hr)
    clear Cx100 hm hr Z act E qa3
    refine QChain.go fun Z act E => ?_
    refine qc_callF (args := #[.agg ((cutPm p).cells (Value.slice aop (cutPm p).l.length capp)).toArray]) rfl ((wanted_of rfl rfl (E.sz 71 (by decide)) (E.e 5 .guard)).trans rfl) rfl Try.func22 (args1 (E.d 8)) (RefPm_Q _ _ (cutPm p) _ ⟨_, rfl, HOKp.out, (Hx80.out.mod Cx102.out (fun _ _ h => h))⟩ (by intro k h1; rcases h1 with h1 | h1 <;> first | omega | (have hb := HBT.out k h1; omega)) HLP.out) ?_
    rintro e u10_5a ⟨v_a4, rfl, qa4, hm⟩
    obtain ⟨ao_a4, cap_a4, rfl⟩ := qa4.shape
    have zu10_5a := hm.size
    refine ⟨_, rfl, hm.mono (fun _ _ h => h.elim), (fun _ => rfl), ?_⟩
    intro u10_5 hr
    have zu10_5 := hr.size
    have Hx103 := hid ((qa4.widen (R' := (fun k => (New u10_4 u10_5a k))) (fun _ h => h) (Nat.le_refl _)).mod hr (by intro k h1 h2; omega))
    have hmr := Mod.after hm hr
    have Hx104 := hid (Hx101.out.mod hmr (by intro k h1 h2; omega))
    clear Hx101
    clear hmr
    have Cx105 := hid (Cx102.out.go hm hr)
    clear Cx102 hm hr Z act E qa4
    refine QChain.go fun Z act E => ?_
    refine qc_callF (args := #[.slice ao_a3 ((pmB (cutPm p)).length) cap_a3, .slice ao_a4 ((pmB (cutPm p)).length) cap_a4]) rfl ((wanted_of rfl rfl (E.sz 71 (by decide)) (E.e 5 .guard)).trans rfl) rfl Try.func18 (args2 (chv (v := .slice ao_a3 ((pmB (cutPm p)).length) cap_a3) (E.d 7)) (chv (v := .slice ao_a4 ((pmB (cutPm p)).length) cap_a4) (E.d 9))) (Same_true Hx104.out.rd Hx103.out.rd rfl) ?_
    rintro e u10_6a ⟨rfl, hm⟩
    have zu10_6a := hm.size
    refine ⟨_, rfl, hm.mono (fun _ _ h => h.elim), (fun _ => rfl), ?_⟩
    intro u10_6 hr
    have zu10_6 := hr.size
    have hmr := Mod.after hm hr
    have Hx106 := hid (Hx104.out.mod hmr (by intro k h1 h2; omega))
    have Hx107 := hid (Hx103.out.mod hmr (by intro k h1 h2; omega))
    clear Hx104 Hx103
    clear hmr
    have Cx108 := hid (Cx105.out.go hm hr)
    clear Cx105 hm hr Z act E
    clear Hx106
    clear Hx107
    clear Hx90
    refine QChain.go fun Z act E => ?_
    refine qc_callF (args := #[.pointer (some ⟨g3, 0, none⟩)]) rfl ((wanted_of rfl rfl (E.sz 78 (by decide)) (E.e 12 .chain)).trans rfl) rfl Try.func50 (args1 (E.d 13)) (WBytes_Q (Hx91.out.mod Cx108.out (fun _ _ h => h))) ?_
    rintro e u10_7a ⟨v_a5, rfl, qa5, hm⟩
    obtain ⟨ao_a5, cap_a5, rfl⟩ := qa5.shape
    have zu10_7a := hm.size
    refine ⟨_, rfl, hm.mono (fun _ _ h => h.elim), (fun _ => rfl), ?_⟩
    intro u10_7 hr
    have zu10_7 := hr.size
    have Hx109 := hid ((qa5.widen (R' := (fun k => (New u10_6 u10_7a k))) (fun _ h => h) (Nat.le_refl _)).mod hr (by intro k h1 h2; omega))
    have Cx110 := hid (Cx108.out.go hm hr)
    clear Cx108 hm hr Z act E qa5
    refine QChain.go fun Z act E => ?_
    refine qc_callF (args := #[.agg #[.int .i64 (cutBa b).ep, .int .u64 ((cutBa b).tm : Nat), Value.slice aob0 (cutBa b).ps.length capb0, Value.slice aob1 (cutBa b).os.length capb1, Value.slice aob2 (cutBa b).ts.length capb2]]) rfl ((wanted_of rfl rfl (E.sz 78 (by decide)) (E.e 12 .guard)).trans rfl) rfl Try.func24 (args1 (E.d 15)) (RefBa_Q _ _ (cutBa b) _ ⟨_, _, _, rfl, HOKb.out, (Hx81.out.mod Cx110.out (fun _ _ h => h)), (Hx82.out.mod Cx110.out (fun _ _ h => h)), (Hx83.out.mod Cx110.out (fun _ _ h => h))⟩ (by intro k h1; rcases h1 with h1 | h1 <;> first | omega | (have hb := HBT.out k h1; omega)) HLB.out) ?_
    rintro e u10_8a ⟨v_a6, rfl, qa6, hm⟩
    obtain ⟨ao_a6, cap_a6, rfl⟩ := qa6.shape
    have zu10_8a := hm.size
    refine ⟨_, rfl, hm.mono (fun _ _ h => h.elim), (fun _ => rfl), ?_⟩
    intro u10_8 hr
    have zu10_8 := hr.size
    have Hx111 := hid ((qa6.widen (R' := (fun k => (New u10_7 u10_8a k))) (fun _ h => h) (Nat.le_refl _)).mod hr (by intro k h1 h2; omega))
    have hmr := Mod.after hm hr
    have Hx112 := hid (Hx109.out.mod hmr (by intro k h1 h2; omega))
    clear Hx109
    clear hmr
    have Cx113 := hid (Cx110.out.go hm hr)
    clear Cx110 hm hr Z act E qa6
    refine QChain.go fun Z act E => ?_
    refine qc_callF (args := #[.slice ao_a5 ((baB (cutBa b)).length) cap_a5, .slice ao_a6 ((baB (cutBa b)).length) cap_a6]) rfl ((wanted_of rfl rfl (E.sz 78 (by decide)) (E.e 12 .guard)).trans rfl) rfl Try.func18 (args2 (chv (v := .slice ao_a5 ((baB (cutBa b)).length) cap_a5) (E.d 14)) (chv (v := .slice ao_a6 ((baB (cutBa b)).length) cap_a6) (E.d 16))) (Same_true Hx112.out.rd Hx111.out.rd rfl) ?_
    rintro e u10_9a ⟨rfl, hm⟩
    have zu10_9a := hm.size
    refine ⟨_, rfl, hm.mono (fun _ _ h => h.elim), (fun _ => rfl), ?_⟩
    intro u10_9 hr
    have zu10_9 := hr.size
    have hmr := Mod.after hm hr
    have Hx114 := hid (Hx112.out.mod hmr (by intro k h1 h2; omega))
    have Hx115 := hid (Hx111.out.mod hmr (by intro k h1 h2; omega))
    clear Hx112 Hx111
    clear hmr
    have Cx116 := hid (Cx113.out.go hm hr)
    clear Cx113 hm hr Z act E
    clear Hx114
    clear Hx115
    clear Hx91
    refine QChain.go fun Z act E => ?_
    refine qc_callF (args := #[.agg #[.int .i64 (cutBa b).ep, .int .u64 ((cutBa b).tm : Nat), Value.slice aob0 (cutBa b).ps.length capb0, Value.slice aob1 (cutBa b).os.length capb1, Value.slice aob2 (cutBa b).ts.length capb2]]) rfl ((wanted_of rfl rfl (E.sz 85 (by decide)) (E.e 19 .chain)).trans rfl) rfl Try.func42 (args1 (E.d 20)) (BatchHash_Q _ _ (cutBa b) _ ⟨_, _, _, rfl, HOKb.out, (Hx81.out.mod Cx116.out (fun _ _ h => h)), (Hx82.out.mod Cx116.out (fun _ _ h => h)), (Hx83.out.mod Cx116.out (fun _ _ h => h))⟩ (by intro k h1; rcases h1 with h1 | h1 <;> first | omega | (have hb := HBT.out k h1; omega)) HLB.out) ?_
    rintro e u10_10a ⟨rfl, hm⟩
    have zu10_10a := hm.size
    refine ⟨_, rfl, hm.mono (fun _ _ h => h.elim), (fun _ => rfl), ?_⟩
    intro u10_10 hr
    have zu10_10 := hr.size
    have Cx117 := hid (Cx116.out.go hm hr)
    clear Cx116 hm hr Z act E
    refine QChain.go fun Z act E => ?_
    refine qc_callF (args := #[.agg #[.int .i64 (cutBa b).ep, .int .u64 ((cutBa b).tm : Nat), Value.slice aob0 (cutBa b).ps.length capb0, Value.slice aob1 (cutBa b).os.length capb1, Value.slice aob2 (cutBa b).ts.length capb2]]) rfl ((wanted_of rfl rfl (E.sz 85 (by decide)) (E.e 19 .guard)).trans rfl) rfl Try.func43 (args1 (E.d 22)) (RefBatchHash_Q _ _ (cutBa b) _ ⟨_, _, _, rfl, HOKb.out, (Hx81.out.mod Cx117.out (fun _ _ h => h)), (Hx82.out.mod Cx117.out (fun _ _ h => h)), (Hx83.out.mod Cx117.out (fun _ _ h => h))⟩ (by intro k h1; rcases h1 with h1 | h1 <;> first | omega | (have hb := HBT.out k h1; omega)) HLB.out) ?_
    rintro e u10_11a ⟨rfl, hm⟩
    have zu10_11a := hm.size
    refine ⟨_, rfl, hm.mono (fun _ _ h => h.elim), (fun _ => rfl), ?_⟩
    intro u10_11 hr
    have zu10_11 := hr.size
    have Cx118 := hid (Cx117.out.go hm hr)
    clear Cx117 hm hr Z act E
    refine QChain.go fun Z act E => ?_
    refine qc_callF (args := #[.agg #[.int .i64 F, .int .i64 C]]) rfl ((wanted_of rfl rfl (E.sz 92 (by decide)) (E.e 26 .chain)).trans rfl) rfl Try.func51 (args1 (E.d 27)) (ValidConf_any F C _) ?_
    rintro e u10_12a ⟨rfl, hm⟩
    have zu10_12a := hm.size
    refine ⟨_, rfl, hm.mono (fun _ _ h => h.elim), (fun _ => rfl), ?_⟩
    intro u10_12 hr
    have zu10_12 := hr.size
    have Cx119 := hid (Cx118.out.go hm hr)
    clear Cx118 hm hr Z act E
    refine QChain.go fun Z act E => ?_
    refine qc_callF (args := #[.agg #[.int .i64 F, .int .i64 C]]) rfl ((wanted_of rfl rfl (E.sz 92 (by decide)) (E.e 26 .guard)).trans rfl) rfl Try.func52 (args1 (E.d 29)) (RefValidConf_any F C _) ?_
    rintro e u10_13a ⟨rfl, hm⟩
    have zu10_13a := hm.size
    refine ⟨_, rfl, hm.mono (fun _ _ h => h.elim), (fun _ => rfl), ?_⟩
    intro u10_13 hr
    have zu10_13 := hr.size
    have Cx120 := hid (Cx119.out.go hm hr)
    clear Cx119 hm hr Z act E
    refine QChain.go fun Z act E => ?_
    refine qc_callF (args := #[]) rfl ((wanted_of rfl rfl (E.sz 99 (by decide)) (E.e 33 .chain)).trans rfl) rfl Try.func19 args0 (wakes05 _) ?_
    rintro e u10_14a ⟨rfl, hm⟩
    have zu10_14a := hm.size
    refine ⟨_, rfl, hm.mono (fun _ _ h => h.elim), (fun _ => rfl), ?_⟩
    intro u10_14 hr
    have zu10_14 := hr.size
    have Cx121 := hid (Cx120.out.go hm hr)
    clear Cx120 hm hr Z act E
    refine QChain.nil fun vs hl hzz hrows hne => ?_
    obtain ⟨Z, hYZ, hZb, hV⟩ := hzz
    have f36 := fvi hV hl 36
    rw [show vs = [gw vs 0, gw vs 1, gw vs 2, gw vs 3, gw vs 4, gw vs 5, gw vs 6, gw vs 7, gw vs 8, gw vs 9, gw vs 10, gw vs 11, gw vs 12, gw vs 13, gw vs 14, gw vs 15, gw vs 16, gw vs 17, gw vs 18, gw vs 19, gw vs 20, gw vs 21, gw vs 22, gw vs 23, gw vs 24, gw vs 25, gw vs 26, gw vs 27, gw vs 28, gw vs 29, gw vs 30, gw vs 31, gw vs 32, gw vs 33, gw vs 34, gw vs 35, gw vs 36] from (gw_eta hl).trans rfl]
    have ha0 := HA0.out
    subst ha0
    clear HA0 hV hYZ hZb hsz0 hrows hne oe4 oe5 oe6 oe7 oe9 oe10 oe11
    simp only [putAll, Act.put, List.setIfInBounds_toArray, List.set_cons_zero, List.set_cons_succ, f36]
    clear hl f36
    go_wp2
    go_ret
    exact ⟨rfl, (Hx88.out.trans Cx121.out (fun _ _ h => h.elim))⟩
end Go.Proofs.Ytknpapcfhnhheaa

/- Pairs, commitments as arguments. -/
set_option maxRecDepth 100000
set_option linter.unusedVariables false
namespace Go.Proofs.Ytknpapcfhnhheaa
open Go Go.RowKit Go.Gv Go.ChangeShapes Go.WideShapes Go.ChangeAt Go.Deep

section
variable {H : Type} {enc : TypeId × Value → H} {W : World}
theorem trod_pair {t : TypeId} {fs : Array Field} {fuel : Nat} {cs : List Value} {x : DataW H × List MemPlace} (ht : Try.prog.underlying t = some (.struct fs)) (hs : fs.size = 2) (h0 : (fs[0]?).map (fun f => (f.offset, f.type)) = some (0, 3)) (h1 : (fs[1]?).map (fun f => (f.offset, f.type)) = some (1, 3)) (hc : Try.prog.cellsOf t = 2)
    (h : DataW.trod enc Try.prog W 0 (fun _ => true) true fuel t cs = some x) : ∃ a b : Int, cs = [.int .i64 a, .int .i64 b] ∧ I64 a ∧ I64 b := by
  obtain ⟨xs, n, _, -, hl, hn, hf⟩ := DataW.trod_struct ht h
  rw [hc] at hl
  have hxs : xs.length = 2 := hn.trans hs
  obtain ⟨q0, e0, hq0⟩ : ∃ f, fs[0]? = some f ∧ (f.offset, f.type) = (0, 3) := by
    cases hh : fs[0]? with
    | none => rw [hh] at h0; cases h0
    | some f => rw [hh] at h0; exact ⟨f, rfl, Option.some.inj h0⟩
  obtain ⟨q1, e1, hq1⟩ : ∃ f, fs[1]? = some f ∧ (f.offset, f.type) = (1, 3) := by
    cases hh : fs[1]? with
    | none => rw [hh] at h1; cases h1
    | some f => rw [hh] at h1; exact ⟨f, rfl, Option.some.inj h1⟩
  have f0 := hf 0 _ e0
  have f1 := hf 1 _ e1
  rw [show q0.offset = 0 from congrArg Prod.fst hq0, show q0.type = 3 from congrArg Prod.snd hq0] at f0
  rw [show q1.offset = 1 from congrArg Prod.fst hq1, show q1.type = 3 from congrArg Prod.snd hq1] at f1
  rw [List.getElem?_eq_getElem (by omega), show Try.prog.cellsOf 3 = 1 from by kernel_rfl] at f0 f1
  match cs, hl with
  | [c0, c1], _ =>
    simp only [List.drop_zero, List.drop_succ_cons, List.take_succ_cons, List.take_zero] at f0 f1
    obtain ⟨p0, e0, _, w0⟩ := DataW.trod_int Try.underlying3 f0
    obtain ⟨p1, e1, _, w1⟩ := DataW.trod_int Try.underlying3 f1
    simp at e0 e1
    subst e0 e1
    exact ⟨p0, p1, rfl, bounds_i64 w0, bounds_i64 w1⟩
theorem cm_cells {fuel : Nat} {cs : List Value} {x : DataW H × List MemPlace} (h : DataW.trod enc Try.prog W 0 (fun _ => true) true fuel 49 cs = some x) : ∃ c : Cm, cs = c.cells ∧ c.OK := by
  obtain ⟨xs, n, _, -, hl, hn, hf⟩ := DataW.trod_struct Try.underlying49 h
  rw [show Try.prog.cellsOf 49 = 37 from by kernel_rfl] at hl
  have hxs : xs.length = 4 := hn
  have f0 : DataW.trod enc Try.prog W 0 (fun _ => true) true n 23 ((cs.drop 0).take (Try.prog.cellsOf 23)) = xs[0]? := hf 0 _ rfl
  have f1 : DataW.trod enc Try.prog W 0 (fun _ => true) true n 25 ((cs.drop 2).take (Try.prog.cellsOf 25)) = xs[1]? := hf 1 _ rfl
  have f2 : DataW.trod enc Try.prog W 0 (fun _ => true) true n 3 ((cs.drop 34).take (Try.prog.cellsOf 3)) = xs[2]? := hf 2 _ rfl
  have f3 : DataW.trod enc Try.prog W 0 (fun _ => true) true n 28 ((cs.drop 35).take (Try.prog.cellsOf 28)) = xs[3]? := hf 3 _ rfl
  rw [List.getElem?_eq_getElem (by omega)] at f0 f1 f2 f3
  obtain ⟨a, b, e0, h1, h2⟩ := trod_pair Try.underlying23 rfl rfl rfl (by kernel_rfl) f0
  obtain ⟨hs, e1, hb, hl32⟩ := trod_arr Try.underlying25 Try.underlying5 (by kernel_rfl) (by kernel_rfl) f1
  obtain ⟨sa, sb, e3, h3, h4⟩ := trod_pair Try.underlying28 rfl rfl rfl (by kernel_rfl) f3
  rw [show Try.prog.cellsOf 23 = 2 from by kernel_rfl] at e0
  rw [show Try.prog.cellsOf 25 = 32 from by kernel_rfl] at e1
  rw [show Try.prog.cellsOf 3 = 1 from by kernel_rfl] at f2
  rw [show Try.prog.cellsOf 28 = 2 from by kernel_rfl] at e3
  obtain ⟨q, e2, _, w2⟩ := DataW.trod_int Try.underlying3 f2
  refine ⟨⟨a, b, hs, q, sa, sb⟩, ?_, ⟨h1, h2, bounds_i64 w2, h3, h4⟩, hl32, hb⟩
  have d1 : cs = cs.take 2 ++ cs.drop 2 := (List.take_append_drop 2 cs).symm
  have d2 : cs.drop 2 = (cs.drop 2).take 32 ++ cs.drop 34 := by conv => lhs; rw [← List.take_append_drop 32 (cs.drop 2)]; rw [List.drop_drop]
  have d3 : cs.drop 34 = (cs.drop 34).take 1 ++ cs.drop 35 := by conv => lhs; rw [← List.take_append_drop 1 (cs.drop 34)]; rw [List.drop_drop]
  have d4 : cs.drop 35 = (cs.drop 35).take 2 := (List.take_of_length_le (by rw [List.length_drop]; omega)).symm
  rw [List.drop_zero] at e0
  rw [d1, d2, d3, d4, e0, e1, e2, e3]
  rfl
end
end Go.Proofs.Ytknpapcfhnhheaa

/- Things as arguments: whatever a reading gives of them. -/
set_option maxRecDepth 100000
set_option linter.unusedVariables false
namespace Go.Proofs.Ytknpapcfhnhheaa
open Go Go.RowKit Go.Gv Go.ChangeShapes Go.WideShapes Go.ChangeAt Go.Deep

def segs (cs : List Value) : Nat → List Nat → List (List Value)
  | _, [] => []
  | off, n :: ns => (cs.drop off).take n :: segs cs (off + n) ns
theorem segs_all (cs : List Value) : ∀ (ns : List Nat) (off : Nat), cs.length = off + ns.sum → cs.drop off = (segs cs off ns).flatten
  | [], off, h => by simp at h; simp [segs, List.drop_of_length_le (show cs.length ≤ off by omega)]
  | n :: ns, off, h => by
    have ih := segs_all cs ns (off + n) (by simp at h; omega)
    simp only [segs, List.flatten_cons]
    rw [← ih, ← List.drop_drop, List.take_append_drop]
theorem seg_one {cs : List Value} {off : Nat} (h : off < cs.length) : ∃ v, (cs.drop off).take 1 = [v] := ⟨cs[off], by rw [List.drop_eq_getElem_cons h]; rfl⟩
/-- whatever reads as a T reads as one of A -/
def Reads {α : Type} (A : Rep α) (T : TypeId) : Prop := ∀ (H : Type) (enc : TypeId × Value → H) (W : World) (fuel : Nat) (cs : List Value) (x : DataW H × List MemPlace), DataW.trod enc Try.prog W 0 (fun _ => true) true fuel T cs = some x → ∃ a, A.rd (fun k => k < W.heap.size) W cs a
theorem all_list {α : Type} {P : List Value → α → Prop} : ∀ (css : List (List Value)), (∀ cs ∈ css, ∃ a, P cs a) → ∃ l : List α, l.length = css.length ∧ ∀ (i : Nat) cs a, css[i]? = some cs → l[i]? = some a → P cs a
  | [], _ => ⟨[], rfl, fun i cs a h => by simp at h⟩
  | c :: r, h => by
    obtain ⟨a, ha⟩ := h c (by simp)
    obtain ⟨l, h1, h2⟩ := all_list r fun cs hcs => h cs (by simp [hcs])
    refine ⟨a :: l, by simp [h1], fun i cs b hi hb => ?_⟩
    cases i with
    | zero => simp at hi hb; subst hi hb; exact ha
    | succ i => simp at hi hb; exact h2 i cs b hi hb
theorem trod_slice {α : Type} {A : Rep α} {t e : TypeId} {H : Type} {enc : TypeId × Value → H} {W : World} {fuel : Nat} {v : Value} {x : DataW H × List MemPlace} (hr : Reads A e) (ht : Try.prog.underlying t = some (.slice e)) (hce : Try.prog.cellsOf e = A.sz)
    (h : DataW.trod enc Try.prog W 0 (fun _ => true) true fuel t [v] = some x) : ∃ l : List α, RdS A (fun k => k < W.heap.size) W v l := by
  haveI : Inhabited {cs : List Value // cs.length = A.sz} := ⟨⟨List.replicate A.sz undef, by simp⟩⟩
  have hsh : ∃ ao n cap, v = .slice ao n cap ∧ n ≤ cap ∧ cap ≤ maxLen ∧ (ao = none → cap = 0) := by
    rcases open_slice ht h with ⟨hcs, _⟩ | ⟨a, len, cap, m, n, D, Pl, hcs, _, hl, hm, hmm, _, hel⟩
    · simp at hcs; subst hcs; exact ⟨none, 0, 0, rfl, Nat.le_refl _, Nat.zero_le _, fun _ => rfl⟩
    · simp at hcs; subst hcs; simp only [if_true] at hmm; subst hmm; exact ⟨some a, len, _, rfl, hl, hm, fun h => by cases h⟩
  obtain ⟨raws, h1, h2⟩ := trod_list (fun a : {cs : List Value // cs.length = A.sz} => a.1) (fun a => ∃ y, A.rd (fun k => k < W.heap.size) W a.1 y) ht hce A.pos (fun a => a.2)
    (fun fuel cs x hx => by obtain ⟨a, ha⟩ := hr H enc W fuel cs x hx; exact ⟨⟨cs, A.len ha⟩, rfl, a, ha⟩) h
  obtain ⟨l, hl, hP⟩ := all_list (P := fun cs a => A.rd (fun k => k < W.heap.size) W cs a) (raws.map (·.1)) (fun cs hcs => by obtain ⟨a, ha, rfl⟩ := List.mem_map.1 hcs; exact h2 a ha)
  have hl' : l.length = raws.length := by simpa using hl
  refine ⟨l, raws.map (·.1), by simp [hl'], hP, ?_, ?_⟩
  · have hcl : ∀ cs ∈ raws.map (·.1), cs.length = A.sz := fun cs hcs => by obtain ⟨a, _, rfl⟩ := List.mem_map.1 hcs; exact a.2
    have hfl := flat_len hcl
    rcases h1 with ⟨rfl, ao, cap, rfl⟩ | ⟨g, o, cap, hg, rfl, h0, hc, hm, hcell⟩
    · obtain ⟨ao', n', cap', e', g1, g2, g3⟩ := hsh
      cases e'
      obtain rfl : l = [] := List.eq_nil_of_length_eq_zero (by simpa using hl')
      exact Rd.zero _ _ _ _ g2 g3
    · rw [hl']
      refine Rd.mk hc hm (by rw [hfl]; simp) fun j u hu => ?_
      have hj := (List.getElem?_eq_some_iff.1 hu).1
      rw [hfl] at hj
      simp only [List.length_map] at hj
      have hq : j / A.sz < raws.length := Nat.div_lt_of_lt_mul (by rw [Nat.mul_comm]; exact hj)
      have hmod := Nat.mod_lt j A.pos
      have hdm := Nat.div_add_mod j A.sz
      have hgt := flat_get hcl (j / A.sz) raws[j / A.sz].1 (by simp [List.getElem?_eq_getElem hq]) (j % A.sz) (raws[j / A.sz].1[j % A.sz]'(by rw [raws[j / A.sz].2]; exact hmod)) (List.getElem?_eq_getElem _)
      rw [show j / A.sz * A.sz + j % A.sz = j by rw [Nat.mul_comm]; exact hdm] at hgt
      rw [hgt] at hu
      have := hcell (j / A.sz) hq (j % A.sz) u (by rw [List.getElem?_eq_getElem (by rw [raws[j / A.sz].2]; exact hmod)]; exact hu)
      rw [show o + j / A.sz * A.sz + j % A.sz = o + j by rw [Nat.add_assoc, Nat.mul_comm, hdm]] at this
      exact this
  · intro h0 g hg
    rcases h1 with ⟨rfl, ao, cap, rfl⟩ | ⟨g', o, cap, hg', rfl, _⟩
    · simp at hl'; rw [hl'] at h0; simp at h0
    · simp [Value.ownBlock] at hg; subst hg; exact hg'
theorem reads_arg {α : Type} {A : Rep α} {T : TypeId} (hr : Reads A T) {fs : Array Field} (hu : Try.prog.underlying T = some (.struct fs)) {H : Type} {enc : TypeId × Value → H} {W : World} {base : Nat} {v : Value} {d : DataW H} {p : List MemPlace} (hv' : Value.okWide Try.prog W .any base T v)
    (h : DataW.Trod enc Try.prog W 0 (fun _ => true) true T v d p) : ∃ cs a, v = .agg cs.toArray ∧ A.rd (fun k => k < W.heap.size) W cs a := by
  obtain ⟨fuel, hf⟩ := h
  simp only [Value.okWide, hu] at hv'
  obtain ⟨cs, rfl, -, -⟩ := hv'
  obtain ⟨a, ha⟩ := hr _ _ _ _ _ _ hf
  exact ⟨_, a, (by congr 1), ha⟩
theorem reads_cm : Reads CmR 49 := fun H enc W fuel cs x h => by obtain ⟨c, e, hok⟩ := cm_cells h; exact ⟨c, e, hok⟩
theorem reads_st : Reads StR 30 := by
  intro H enc W fuel cs x h
  obtain ⟨xs, n, _, -, hl, hn, hf⟩ := DataW.trod_struct Try.underlying30 h
  rw [show Try.prog.cellsOf 30 = 38 from by kernel_rfl] at hl
  have hxs : xs.length = 5 := hn
  have f0 : DataW.trod enc Try.prog W 0 (fun _ => true) true n 3 ((cs.drop 0).take (Try.prog.cellsOf 3)) = xs[0]? := hf 0 _ rfl
  rw [List.getElem?_eq_getElem (by omega), show Try.prog.cellsOf 3 = 1 from by kernel_rfl] at f0
  have f1 : DataW.trod enc Try.prog W 0 (fun _ => true) true n 23 ((cs.drop 1).take (Try.prog.cellsOf 23)) = xs[1]? := hf 1 _ rfl
  rw [List.getElem?_eq_getElem (by omega), show Try.prog.cellsOf 23 = 2 from by kernel_rfl] at f1
  have f2 : DataW.trod enc Try.prog W 0 (fun _ => true) true n 25 ((cs.drop 3).take (Try.prog.cellsOf 25)) = xs[2]? := hf 2 _ rfl
  rw [List.getElem?_eq_getElem (by omega), show Try.prog.cellsOf 25 = 32 from by kernel_rfl] at f2
  have f3 : DataW.trod enc Try.prog W 0 (fun _ => true) true n 26 ((cs.drop 35).take (Try.prog.cellsOf 26)) = xs[3]? := hf 3 _ rfl
  rw [List.getElem?_eq_getElem (by omega), show Try.prog.cellsOf 26 = 1 from by kernel_rfl] at f3
  have f4 : DataW.trod enc Try.prog W 0 (fun _ => true) true n 28 ((cs.drop 36).take (Try.prog.cellsOf 28)) = xs[4]? := hf 4 _ rfl
  rw [List.getElem?_eq_getElem (by omega), show Try.prog.cellsOf 28 = 2 from by kernel_rfl] at f4
  obtain ⟨rp, e0, _, w0⟩ := DataW.trod_int Try.underlying3 f0
  obtain ⟨cl, sq, e1, w1, w1'⟩ := trod_pair Try.underlying23 rfl rfl rfl (by kernel_rfl) f1
  obtain ⟨hh, e2, w2, w2'⟩ := trod_arr Try.underlying25 Try.underlying5 (by kernel_rfl) (by kernel_rfl) f2
  obtain ⟨tm', e3, _, w3⟩ := DataW.trod_int Try.underlying26 f3
  obtain ⟨tm, rfl, w3'⟩ := u64_nat w3
  obtain ⟨sb, mr, e4, w4, w4'⟩ := trod_pair Try.underlying28 rfl rfl rfl (by kernel_rfl) f4
  have hcs := segs_all cs [1, 2, 32, 1, 2] 0 (by simpa using hl)
  simp only [List.drop_zero, segs, List.flatten_cons, List.flatten_nil, List.append_nil, Nat.zero_add, Nat.reduceAdd, e0, e1, e2, e3, e4] at hcs
  (try rw [List.drop_zero] at e0)
  (try simp only [e0] at hcs)
  exact ⟨⟨rp, cl, sq, hh, tm, sb, mr⟩, by rw [hcs]; rfl, ⟨bounds_i64 w0, w1, w1', ⟨w2', w2⟩, w3', w4, w4'⟩⟩
theorem reads_dn : Reads DnR 34 := by
  intro H enc W fuel cs x h
  obtain ⟨xs, n, _, -, hl, hn, hf⟩ := DataW.trod_struct Try.underlying34 h
  rw [show Try.prog.cellsOf 34 = 4 from by kernel_rfl] at hl
  have hxs : xs.length = 3 := hn
  have f0 : DataW.trod enc Try.prog W 0 (fun _ => true) true n 3 ((cs.drop 0).take (Try.prog.cellsOf 3)) = xs[0]? := hf 0 _ rfl
  rw [List.getElem?_eq_getElem (by omega), show Try.prog.cellsOf 3 = 1 from by kernel_rfl] at f0
  have f1 : DataW.trod enc Try.prog W 0 (fun _ => true) true n 3 ((cs.drop 1).take (Try.prog.cellsOf 3)) = xs[1]? := hf 1 _ rfl
  rw [List.getElem?_eq_getElem (by omega), show Try.prog.cellsOf 3 = 1 from by kernel_rfl] at f1
  have f2 : DataW.trod enc Try.prog W 0 (fun _ => true) true n 28 ((cs.drop 2).take (Try.prog.cellsOf 28)) = xs[2]? := hf 2 _ rfl
  rw [List.getElem?_eq_getElem (by omega), show Try.prog.cellsOf 28 = 2 from by kernel_rfl] at f2
  obtain ⟨rp, e0, _, w0⟩ := DataW.trod_int Try.underlying3 f0
  obtain ⟨ix, e1, _, w1⟩ := DataW.trod_int Try.underlying3 f1
  obtain ⟨sb, mr, e2, w2, w2'⟩ := trod_pair Try.underlying28 rfl rfl rfl (by kernel_rfl) f2
  have hcs := segs_all cs [1, 1, 2] 0 (by simpa using hl)
  simp only [List.drop_zero, segs, List.flatten_cons, List.flatten_nil, List.append_nil, Nat.zero_add, Nat.reduceAdd, e0, e1, e2] at hcs
  (try rw [List.drop_zero] at e0)
  (try simp only [e0] at hcs)
  exact ⟨⟨rp, ix, sb, mr⟩, by rw [hcs]; rfl, ⟨bounds_i64 w0, bounds_i64 w1, w2, w2'⟩⟩
theorem reads_ce : Reads CeR 52 := by
  intro H enc W fuel cs x h
  obtain ⟨xs, n, _, -, hl, hn, hf⟩ := DataW.trod_struct Try.underlying52 h
  rw [show Try.prog.cellsOf 52 = 38 from by kernel_rfl] at hl
  have hxs : xs.length = 2 := hn
  have f0 : DataW.trod enc Try.prog W 0 (fun _ => true) true n 49 ((cs.drop 0).take (Try.prog.cellsOf 49)) = xs[0]? := hf 0 _ rfl
  rw [List.getElem?_eq_getElem (by omega), show Try.prog.cellsOf 49 = 37 from by kernel_rfl] at f0
  have f1 : DataW.trod enc Try.prog W 0 (fun _ => true) true n 50 ((cs.drop 37).take (Try.prog.cellsOf 50)) = xs[1]? := hf 1 _ rfl
  rw [List.getElem?_eq_getElem (by omega), show Try.prog.cellsOf 50 = 1 from by kernel_rfl] at f1
  obtain ⟨c, e0, w0⟩ := reads_cm _ _ _ _ _ _ f0
  obtain ⟨v, e1⟩ := seg_one (cs := cs) (off := 37) (by omega)
  rw [e1] at f1
  obtain ⟨l, w1⟩ := trod_slice reads_st Try.underlying50 (by kernel_rfl) f1
  have hcs := segs_all cs [37, 1] 0 (by simpa using hl)
  simp only [List.drop_zero, segs, List.flatten_cons, List.flatten_nil, List.append_nil, Nat.zero_add, Nat.reduceAdd, e0, e1] at hcs
  (try rw [List.drop_zero] at e0)
  (try simp only [e0] at hcs)
  exact ⟨⟨c, l⟩, v, hcs, w0, w1⟩
theorem reads_pm : Reads PmR 55 := by
  intro H enc W fuel cs x h
  obtain ⟨xs, n, _, -, hl, hn, hf⟩ := DataW.trod_struct Try.underlying55 h
  rw [show Try.prog.cellsOf 55 = 6 from by kernel_rfl] at hl
  have hxs : xs.length = 5 := hn
  have f0 : DataW.trod enc Try.prog W 0 (fun _ => true) true n 3 ((cs.drop 0).take (Try.prog.cellsOf 3)) = xs[0]? := hf 0 _ rfl
  rw [List.getElem?_eq_getElem (by omega), show Try.prog.cellsOf 3 = 1 from by kernel_rfl] at f0
  have f1 : DataW.trod enc Try.prog W 0 (fun _ => true) true n 3 ((cs.drop 1).take (Try.prog.cellsOf 3)) = xs[1]? := hf 1 _ rfl
  rw [List.getElem?_eq_getElem (by omega), show Try.prog.cellsOf 3 = 1 from by kernel_rfl] at f1
  have f2 : DataW.trod enc Try.prog W 0 (fun _ => true) true n 26 ((cs.drop 2).take (Try.prog.cellsOf 26)) = xs[2]? := hf 2 _ rfl
  rw [List.getElem?_eq_getElem (by omega), show Try.prog.cellsOf 26 = 1 from by kernel_rfl] at f2
  have f3 : DataW.trod enc Try.prog W 0 (fun _ => true) true n 53 ((cs.drop 3).take (Try.prog.cellsOf 53)) = xs[3]? := hf 3 _ rfl
  rw [List.getElem?_eq_getElem (by omega), show Try.prog.cellsOf 53 = 1 from by kernel_rfl] at f3
  have f4 : DataW.trod enc Try.prog W 0 (fun _ => true) true n 28 ((cs.drop 4).take (Try.prog.cellsOf 28)) = xs[4]? := hf 4 _ rfl
  rw [List.getElem?_eq_getElem (by omega), show Try.prog.cellsOf 28 = 2 from by kernel_rfl] at f4
  obtain ⟨rp, e0, _, w0⟩ := DataW.trod_int Try.underlying3 f0
  obtain ⟨ep, e1, _, w1⟩ := DataW.trod_int Try.underlying3 f1
  obtain ⟨fl', e2, _, w2⟩ := DataW.trod_int Try.underlying26 f2
  obtain ⟨fl, rfl, w2'⟩ := u64_nat w2
  obtain ⟨v, e3⟩ := seg_one (cs := cs) (off := 3) (by omega)
  rw [e3] at f3
  obtain ⟨l, w3⟩ := trod_slice reads_ce Try.underlying53 (by kernel_rfl) f3
  obtain ⟨sb, mr, e4, w4, w4'⟩ := trod_pair Try.underlying28 rfl rfl rfl (by kernel_rfl) f4
  have hcs := segs_all cs [1, 1, 1, 1, 2] 0 (by simpa using hl)
  simp only [List.drop_zero, segs, List.flatten_cons, List.flatten_nil, List.append_nil, Nat.zero_add, Nat.reduceAdd, e0, e1, e2, e3, e4] at hcs
  (try rw [List.drop_zero] at e0)
  (try simp only [e0] at hcs)
  exact ⟨⟨rp, ep, fl, l, sb, mr⟩, v, hcs, ⟨bounds_i64 w0, bounds_i64 w1, w2', w4, w4'⟩, w3⟩
theorem reads_op : Reads OpR 87 := by
  intro H enc W fuel cs x h
  obtain ⟨xs, n, _, -, hl, hn, hf⟩ := DataW.trod_struct Try.underlying87 h
  rw [show Try.prog.cellsOf 87 = 34 from by kernel_rfl] at hl
  have hxs : xs.length = 3 := hn
  have f0 : DataW.trod enc Try.prog W 0 (fun _ => true) true n 3 ((cs.drop 0).take (Try.prog.cellsOf 3)) = xs[0]? := hf 0 _ rfl
  rw [List.getElem?_eq_getElem (by omega), show Try.prog.cellsOf 3 = 1 from by kernel_rfl] at f0
  have f1 : DataW.trod enc Try.prog W 0 (fun _ => true) true n 38 ((cs.drop 1).take (Try.prog.cellsOf 38)) = xs[1]? := hf 1 _ rfl
  rw [List.getElem?_eq_getElem (by omega), show Try.prog.cellsOf 38 = 1 from by kernel_rfl] at f1
  have f2 : DataW.trod enc Try.prog W 0 (fun _ => true) true n 25 ((cs.drop 2).take (Try.prog.cellsOf 25)) = xs[2]? := hf 2 _ rfl
  rw [List.getElem?_eq_getElem (by omega), show Try.prog.cellsOf 25 = 32 from by kernel_rfl] at f2
  obtain ⟨ix, e0, _, w0⟩ := DataW.trod_int Try.underlying3 f0
  obtain ⟨v, e1⟩ := seg_one (cs := cs) (off := 1) (by omega)
  rw [e1] at f1
  obtain ⟨pl, w1⟩ := trod_bytes f1
  obtain ⟨hh, e2, w2, w2'⟩ := trod_arr Try.underlying25 Try.underlying5 (by kernel_rfl) (by kernel_rfl) f2
  have hcs := segs_all cs [1, 1, 32] 0 (by simpa using hl)
  simp only [List.drop_zero, segs, List.flatten_cons, List.flatten_nil, List.append_nil, Nat.zero_add, Nat.reduceAdd, e0, e1, e2] at hcs
  (try rw [List.drop_zero] at e0)
  (try simp only [e0] at hcs)
  exact ⟨⟨ix, pl, hh⟩, v, hcs, ⟨bounds_i64 w0, w2', w2⟩, w1⟩
theorem reads_tb : Reads TbR 90 := by
  intro H enc W fuel cs x h
  obtain ⟨xs, n, _, -, hl, hn, hf⟩ := DataW.trod_struct Try.underlying90 h
  rw [show Try.prog.cellsOf 90 = 2 from by kernel_rfl] at hl
  have hxs : xs.length = 2 := hn
  have f0 : DataW.trod enc Try.prog W 0 (fun _ => true) true n 3 ((cs.drop 0).take (Try.prog.cellsOf 3)) = xs[0]? := hf 0 _ rfl
  rw [List.getElem?_eq_getElem (by omega), show Try.prog.cellsOf 3 = 1 from by kernel_rfl] at f0
  have f1 : DataW.trod enc Try.prog W 0 (fun _ => true) true n 88 ((cs.drop 1).take (Try.prog.cellsOf 88)) = xs[1]? := hf 1 _ rfl
  rw [List.getElem?_eq_getElem (by omega), show Try.prog.cellsOf 88 = 1 from by kernel_rfl] at f1
  obtain ⟨ix, e0, _, w0⟩ := DataW.trod_int Try.underlying3 f0
  obtain ⟨v, e1⟩ := seg_one (cs := cs) (off := 1) (by omega)
  rw [e1] at f1
  obtain ⟨l, w1⟩ := trod_slice reads_dn Try.underlying88 (by kernel_rfl) f1
  have hcs := segs_all cs [1, 1] 0 (by simpa using hl)
  simp only [List.drop_zero, segs, List.flatten_cons, List.flatten_nil, List.append_nil, Nat.zero_add, Nat.reduceAdd, e0, e1] at hcs
  (try rw [List.drop_zero] at e0)
  (try simp only [e0] at hcs)
  exact ⟨⟨ix, l⟩, v, hcs, bounds_i64 w0, w1⟩
theorem reads_ba : Reads BaR 60 := by
  intro H enc W fuel cs x h
  obtain ⟨xs, n, _, -, hl, hn, hf⟩ := DataW.trod_struct Try.underlying60 h
  rw [show Try.prog.cellsOf 60 = 5 from by kernel_rfl] at hl
  have hxs : xs.length = 5 := hn
  have f0 : DataW.trod enc Try.prog W 0 (fun _ => true) true n 3 ((cs.drop 0).take (Try.prog.cellsOf 3)) = xs[0]? := hf 0 _ rfl
  rw [List.getElem?_eq_getElem (by omega), show Try.prog.cellsOf 3 = 1 from by kernel_rfl] at f0
  have f1 : DataW.trod enc Try.prog W 0 (fun _ => true) true n 26 ((cs.drop 1).take (Try.prog.cellsOf 26)) = xs[1]? := hf 1 _ rfl
  rw [List.getElem?_eq_getElem (by omega), show Try.prog.cellsOf 26 = 1 from by kernel_rfl] at f1
  have f2 : DataW.trod enc Try.prog W 0 (fun _ => true) true n 56 ((cs.drop 2).take (Try.prog.cellsOf 56)) = xs[2]? := hf 2 _ rfl
  rw [List.getElem?_eq_getElem (by omega), show Try.prog.cellsOf 56 = 1 from by kernel_rfl] at f2
  have f3 : DataW.trod enc Try.prog W 0 (fun _ => true) true n 57 ((cs.drop 3).take (Try.prog.cellsOf 57)) = xs[3]? := hf 3 _ rfl
  rw [List.getElem?_eq_getElem (by omega), show Try.prog.cellsOf 57 = 1 from by kernel_rfl] at f3
  have f4 : DataW.trod enc Try.prog W 0 (fun _ => true) true n 58 ((cs.drop 4).take (Try.prog.cellsOf 58)) = xs[4]? := hf 4 _ rfl
  rw [List.getElem?_eq_getElem (by omega), show Try.prog.cellsOf 58 = 1 from by kernel_rfl] at f4
  obtain ⟨ep, e0, _, w0⟩ := DataW.trod_int Try.underlying3 f0
  obtain ⟨tm', e1, _, w1⟩ := DataW.trod_int Try.underlying26 f1
  obtain ⟨tm, rfl, w1'⟩ := u64_nat w1
  obtain ⟨vp, e2⟩ := seg_one (cs := cs) (off := 2) (by omega)
  rw [e2] at f2
  obtain ⟨ps, w2⟩ := trod_slice reads_pm Try.underlying56 (by kernel_rfl) f2
  obtain ⟨vo, e3⟩ := seg_one (cs := cs) (off := 3) (by omega)
  rw [e3] at f3
  obtain ⟨os, w3⟩ := trod_slice reads_op Try.underlying57 (by kernel_rfl) f3
  obtain ⟨vt, e4⟩ := seg_one (cs := cs) (off := 4) (by omega)
  rw [e4] at f4
  obtain ⟨ts, w4⟩ := trod_slice reads_tb Try.underlying58 (by kernel_rfl) f4
  have hcs := segs_all cs [1, 1, 1, 1, 1] 0 (by simpa using hl)
  simp only [List.drop_zero, segs, List.flatten_cons, List.flatten_nil, List.append_nil, Nat.zero_add, Nat.reduceAdd, e0, e1, e2, e3, e4] at hcs
  (try rw [List.drop_zero] at e0)
  (try simp only [e0] at hcs)
  exact ⟨⟨ep, tm, ps, os, ts⟩, vp, vo, vt, hcs, ⟨bounds_i64 w0, w1'⟩, w2, w3, w4⟩
end Go.Proofs.Ytknpapcfhnhheaa

/- Proposals as arguments. -/
set_option maxRecDepth 100000
set_option linter.unusedVariables false
namespace Go.Proofs.Ytknpapcfhnhheaa
open Go Go.RowKit Go.Gv Go.ChangeShapes Go.WideShapes Go.ChangeAt Go.Deep

end Go.Proofs.Ytknpapcfhnhheaa

set_option maxRecDepth 100000
set_option linter.unusedVariables false
namespace Go.Proofs.Ytknpapcfhnhheaa.wirePuts
open Go Go.RowKit Go.Gv Go.ChangeShapes Go.WideShapes Go.ChangeAt
open Go.ChangeMaps (open_string shut_string)

theorem own : ownKnob Try.prog.godebug = none := by kernel_rfl
theorem laidOut : laidOutB Try.prog = true := by kernel_rfl
theorem conf_arg {H : Type} {enc : TypeId × Value → H} {W : World} {base : Nat} {v : Value} {d : DataW H} {p : List MemPlace} (hv' : Value.okWide Try.prog W .any base 94 v)
    (h : DataW.Trod enc Try.prog W 0 (fun _ => true) true 94 v d p) : ∃ a b : Int, v = .agg #[.int .i64 a, .int .i64 b] ∧ I64 a ∧ I64 b := by
  obtain ⟨fuel, hf⟩ := h
  simp only [Value.okWide, Try.underlying94] at hv'
  obtain ⟨cs, rfl, -, -⟩ := hv'
  obtain ⟨a, b, e, ha, hb⟩ := trod_pair Try.underlying94 rfl rfl rfl (by kernel_rfl) hf
  exact ⟨a, b, congrArg Value.agg (Array.ext' e), ha, hb⟩

theorem lifted (os : Os) (started : os.Started) (H : Type) (enc : TypeId × Value → H) :
    ReturnsInHanded {} Try.checked os 6 .any (Rows.wirePutsSpec.pre6 enc Try.prog Try.f6 Rows.wirePutsRow.domain false) (Rows.wirePutsSpec.post enc Try.prog Try.f6 false true false false) := by
  refine returnsInHanded_of_change (C := Try.checked) own started (by kernel_rfl) Try.func6
    (ChangeSpec.witness6 (enc := enc) (C := Try.checked) false ⟨#[], #[.agg #[.int .i64 0, .int .i64 0, .int .u8 0, .int .u8 0, .int .u8 0, .int .u8 0, .int .u8 0, .int .u8 0, .int .u8 0, .int .u8 0, .int .u8 0, .int .u8 0, .int .u8 0, .int .u8 0, .int .u8 0, .int .u8 0, .int .u8 0, .int .u8 0, .int .u8 0, .int .u8 0, .int .u8 0, .int .u8 0, .int .u8 0, .int .u8 0, .int .u8 0, .int .u8 0, .int .u8 0, .int .u8 0, .int .u8 0, .int .u8 0, .int .u8 0, .int .u8 0, .int .u8 0, .int .u8 0, .int .i64 0, .int .i64 0, .int .i64 0, .slice none 0 0], .agg #[.int .i64 0, .int .i64 0, .int .u64 0, .slice none 0 0, .int .i64 0, .int .i64 0], .agg #[.int .i64 0, .int .u64 0, .slice none 0 0, .slice none 0 0, .slice none 0 0], .agg #[.int .i64 0, .int .i64 0]], []⟩ 8 (by kernel_rfl) (by kernel_rfl) (by kernel_rfl) (by kernel_rfl)) ?_
  intro W base args ds gs before hval0 hW hcnd _
  have hval : ∀ (j : Nat) t v, Try.f6.params[j]? = some t → args[j]? = some v → Value.okWide Try.prog W .any base t v := hval0
  have hW' := hW
  obtain ⟨p, q, hA0, hV, rfl, hfz, hnd⟩ := hW
  have hA : DataW.TrodAll enc Try.prog W 0 (fun _ => true) true Try.f6.params.toList args.toList ds p := hA0
  rw [Try.params6] at hA hval
  obtain ⟨v0, vs0, d0, ds0, p0, q0, hargs, rfl, rfl, h0, r0⟩ := trodAll_cons hA
  obtain ⟨v1, vs1, d1, ds1, p1, q1, rfl, rfl, rfl, h1, r1⟩ := trodAll_cons r0
  obtain ⟨v2, vs2, d2, ds2, p2, q2, rfl, rfl, rfl, h2, r2⟩ := trodAll_cons r1
  obtain ⟨v3, vs3, d3, ds3, p3, q3, rfl, rfl, rfl, h3, r3⟩ := trodAll_cons r2
  obtain ⟨rfl, rfl, rfl⟩ := trodAll_nil r3
  obtain rfl : args = #[v0, v1, v2, v3] := by cases args; simp_all
  obtain ⟨rfl, rfl⟩ := trodVars_none hV
  have k0 := h0
  have lt0 : ∀ x ∈ p0, x.block < W.heap.size := by obtain ⟨m, hm⟩ := k0; exact DataW.trod_lt m _ _ _ hm
  have k1 := h1
  have lt1 : ∀ x ∈ p1, x.block < W.heap.size := by obtain ⟨m, hm⟩ := k1; exact DataW.trod_lt m _ _ _ hm
  have k2 := h2
  have lt2 : ∀ x ∈ p2, x.block < W.heap.size := by obtain ⟨m, hm⟩ := k2; exact DataW.trod_lt m _ _ _ hm
  have k3 := h3
  have lt3 : ∀ x ∈ p3, x.block < W.heap.size := by obtain ⟨m, hm⟩ := k3; exact DataW.trod_lt m _ _ _ hm
  obtain ⟨cs0, x0, e0, n0⟩ := reads_arg reads_ce Try.underlying52 (hval 0 52 v0 rfl rfl) h0
  subst e0
  obtain ⟨cs1, x1, e1, n1⟩ := reads_arg reads_pm Try.underlying55 (hval 1 55 v1 rfl rfl) h1
  subst e1
  obtain ⟨cs2, x2, e2, n2⟩ := reads_arg reads_ba Try.underlying60 (hval 2 60 v2 rfl rfl) h2
  subst e2
  obtain ⟨sb3, mr3, e3, is3, im3⟩ := conf_arg (hval 3 94 v3 rfl rfl) h3
  subst e3
  clear hA0 hval0
  refine (LPuts_any (fun k => k < W.heap.size) x0 x1 x2 cs0 cs1 cs2 sb3 mr3 W n0 n1 n2 (fun _ h => h)).mono fun e W' ⟨he, hmod⟩ => ?_
  subst he
  have bel : Below W.heap.size W W' := hmod.below (Nat.le_refl _) (fun _ _ => id)
  exact ⟨_, rfl, _, _, _, [], _, [], hW', trodAll_mk1 (shut_bool Try.underlying4 _), (trodAll_cons_mk (Below.trod laidOut (by kernel_rfl) (of_decide_eq_true (by kernel_rfl)) k0 bel lt0) (trodAll_cons_mk (Below.trod laidOut (by kernel_rfl) (of_decide_eq_true (by kernel_rfl)) k1 bel lt1) (trodAll_cons_mk (Below.trod laidOut (by kernel_rfl) (of_decide_eq_true (by kernel_rfl)) k2 bel lt2) (trodAll_cons_mk (Below.trod laidOut (by kernel_rfl) (of_decide_eq_true (by kernel_rfl)) k3 bel lt3) trodAll_mk0)))), rfl, bel.frame _, fun h => by cases h⟩

theorem over : Rows.wirePutsRow.holds Try.pinned (OpenSpec.ofChange Rows.wirePutsSpec) :=
  OpenClaim.holds_of_wide 6 Try.f6 rfl rfl rfl rfl rfl rfl rfl ⟨rfl, rfl, rfl, rfl, rfl⟩ rfl rfl rfl rfl rfl (by kernel_rfl) Try.func6 (by kernel_rfl)
    (of_decide_eq_true (by kernel_rfl)) (by unfold Func.isWrapper; first | (rw [if_pos (by decide +kernel)]; kernel_rfl) | (rw [if_neg (by decide +kernel)]; exact ⟨rfl, rfl⟩))
    (fun os started H enc _ => lifted os started H enc)

theorem proved : Rows.WirePutsSaid := over
end Go.Proofs.Ytknpapcfhnhheaa.wirePuts
