/- gavellaw05.WireUnsigned. -/
import Derived.Test.YtknpapcfhnhheaaCut2
import Derived.Test.YtknpapcfhnhheaaWt1
import Derived.Test.YtknpapcfhnhheaaConf
set_option maxRecDepth 100000
set_option linter.unusedVariables false
namespace Go.Proofs.Ytknpapcfhnhheaa
open Go Go.RowKit Go.Gv


theorem encI_len0 (n : Int) (h : I64 n) : (encI n).length ≤ 10 := (encI_len n h.2).2
theorem list_eta {vs : List Value} {n : Nat} (hl : vs.length = n) : vs = (List.range n).map fun i => vs.getD i undef := by
  subst hl
  refine List.ext_getElem? fun i => ?_
  rcases Nat.lt_or_ge i vs.length with h | h
  · simp [List.getD_eq_getElem?_getD, h]
  · simp [h]
theorem getq {vs : List Value} {n p : Nat} (hl : vs.length = n) (h : p < n) : vs[p]? = some (vs.getD p undef) := by
  subst hl
  simp [List.getD_eq_getElem?_getD, h]
theorem wordB_len (s : ByteArray) (h : s.size ≤ 100) : (wordB s).length ≤ 110 := by
  have hb : (bytesOf s).length = s.size := by simp [bytesOf]
  have := (encN_len10 (n := (bytesOf s).length) (by unfold U64; omega)).2
  simp only [wordB, List.length_append]
  omega
theorem RdS_mem {α : Type} {A : Rep α} {R : Nat → Prop} {w : World} {v : Value} {l : List α} (h : RdS A R w v l) : ∀ a ∈ l, ∃ cs, A.rd R w cs a := by
  obtain ⟨css, h1, h2, -⟩ := h
  intro a ha
  obtain ⟨i, hi, rfl⟩ := List.getElem_of_mem ha
  exact ⟨css[i], h2 i _ _ (List.getElem?_eq_getElem (by omega)) (List.getElem?_eq_getElem hi)⟩
theorem flatB_le {α : Type} (f : α → List Int) (N : Nat) : ∀ l : List α, (∀ a ∈ l, (f a).length ≤ N) → ((l.map f).flatten).length ≤ l.length * N
  | [], _ => by simp
  | a :: r, h => by
    have h1 := h a (by simp)
    have h2 := flatB_le f N r (fun b hb => h b (by simp [hb]))
    simp only [List.map_cons, List.flatten_cons, List.length_append, List.length_cons, Nat.add_mul]
    omega
theorem listB_len {α : Type} (f : α → List Int) {N M : Nat} {l : List α} (hl : l.length ≤ M) (hM : M ≤ 1000000) (h : ∀ a ∈ l, (f a).length ≤ N) : (listB f l).length ≤ 10 + M * N := by
  have h1 := flatB_le f N l h
  have h2 := encI_len0 (l.length : Int) (by unfold I64; omega)
  have h3 := Nat.mul_le_mul_right N hl
  simp only [listB, List.length_append]
  omega
theorem stB_len {x : St} (h : x.OK) : (stB x).length ≤ 92 := by
  have h1 := encI_len0 _ h.rp; have h2 := encI_len0 _ h.cl; have h3 := encI_len0 _ h.sq; have h4 := (encN_len10 h.tm).2; have h5 := encI_len0 _ h.sb; have h6 := encI_len0 _ h.mr; have h7 := h.h.1
  simp only [stB, nameB, sigB, List.length_append]; omega
theorem cmB_len {x : Cm} (h : x.OK) : (cmB x).length ≤ 82 := by
  obtain ⟨⟨a, b, c, d, e⟩, f⟩ := h
  have h1 := encI_len0 _ a; have h2 := encI_len0 _ b; have h3 := encI_len0 _ c; have h4 := encI_len0 _ d; have h5 := encI_len0 _ e; have h7 := f.1
  simp only [cmB, nameB, sigB, List.length_append]; omega
theorem ceB_len {R : Nat → Prop} {w : World} {cs : List Value} {x : Ce} (h : CeR.rd R w cs x) (hl : x.l.length ≤ 5) : (ceB x).length ≤ 552 := by
  obtain ⟨_, rfl, hok, hs⟩ := h
  have h1 := listB_len stB hl (by decide) (fun a ha => by obtain ⟨cs, e, hk⟩ := RdS_mem hs a ha; exact stB_len hk)
  have h2 := cmB_len hok
  simp only [ceB, List.length_append]; omega
theorem promT_len {R : Nat → Prop} {w : World} {cs : List Value} {x : Pm} (h : PmR.rd R w cs (cutPm x)) : (promT (cutPm x)).length ≤ 900000 := by
  obtain ⟨_, rfl, ⟨a, b, c, d, e⟩, hs⟩ := h
  have h1 := encI_len0 _ a; have h2 := encI_len0 _ b; have h3 := (encN_len10 c).2
  have h4 := listB_len ceB (M := 3) (show (cutPm x).l.length ≤ 3 by simp [cutPm]; omega) (by decide) (fun y hy => by
    obtain ⟨cs, hc⟩ := RdS_mem hs y hy
    refine ceB_len hc ?_
    obtain ⟨z, -, rfl⟩ := List.mem_map.1 hy
    simp [cutCe]; omega)
  have h5 := wordB_len wProm (by decide)
  simp only [promT, List.length_append]; omega
theorem stampT_len {x : St} (h : x.OK) : (stampT x).length ≤ 900000 := by
  have h1 := encI_len0 _ h.rp; have h2 := encI_len0 _ h.cl; have h3 := encI_len0 _ h.sq; have h4 := (encN_len10 h.tm).2; have h7 := h.h.1; have h5 := wordB_len wStamp (by decide)
  simp only [stampT, nameB, List.length_append]; omega
theorem ackT_len {x : St} (h : x.OK) : (ackT x).length ≤ 900000 := by
  have h1 := encI_len0 _ h.rp; have h2 := encI_len0 _ h.cl; have h3 := encI_len0 _ h.sq; have h4 := (encN_len10 h.tm).2; have h7 := h.h.1; have h5 := wordB_len wAck (by decide)
  simp only [ackT, nameB, List.length_append]; omega
theorem denyT_len {x : Dn} (h : x.OK) : (denyT x).length ≤ 900000 := by
  have h1 := encI_len0 _ h.rp; have h2 := encI_len0 _ h.ix; have h5 := wordB_len wDeny (by decide)
  simp only [denyT, List.length_append]; omega
theorem voteT_len {x : Vt} (h : x.OK) : (voteT x).length ≤ 900000 := by
  have h1 := encI_len0 _ h.kd; have h2 := encI_len0 _ h.ep; have h3 := encI_len0 _ h.rd; have h4 := encI_len0 _ h.rp; have h7 := h.h.1; have h5 := wordB_len wVote (by decide)
  simp only [voteT, List.length_append]; omega
def pr0 (s m : Int) : Pr := ⟨1, 0, 0, 0, ⟨0, 3, [], [], []⟩, s, m⟩
theorem pr0_rd (R : Nat → Prop) (w : World) {s m : Int} (hs : I64 s) (hm : I64 m) : PrR.rd R w [.int .i64 1, .int .i64 0, .int .i64 0, .int .i64 0, .int .i64 0, .int .u64 (3 : Nat), .slice none 0 0, .slice none 0 0, .slice none 0 0, .int .i64 s, .int .i64 m] (pr0 s m) :=
  ⟨_, _, _, rfl, ⟨(show I64 1 by unfold I64; decide), (show I64 0 by unfold I64; decide), (show I64 0 by unfold I64; decide), (show I64 0 by unfold I64; decide), ⟨(show I64 0 by unfold I64; decide), (show 3 < U64 by unfold U64; decide)⟩, hs, hm⟩, RdS.nil _ _ _, RdS.nil _ _ _, RdS.nil _ _ _⟩
theorem pr_len {x : Pr} (h : x.OK) (hv : I64 (x.vl + 1)) (h1 : x.ba.ps = []) (h2 : x.ba.os = []) (h3 : x.ba.ts = []) : ((propT x).length ≤ 900000 ∧ x.vl < 9223372036854775807) ∧ (baB x.ba).length ≤ 900000 := by
  obtain ⟨a, b, c, d, ⟨e, f⟩, g, k⟩ := h
  have i0 := encI_len0 _ a; have i1 := encI_len0 _ b; have i2 := encI_len0 _ hv; have i3 := encI_len0 _ d; have i4 := encI_len0 _ e; have n3 := (encN_len10 f).2
  have h5 := wordB_len wProp (by decide)
  have l1 := listB_len pmB (l := x.ba.ps) (M := 0) (N := 0) (by rw [h1]; decide) (by decide) (by rw [h1]; simp)
  have l2 := listB_len opB (l := x.ba.os) (M := 0) (N := 0) (by rw [h2]; decide) (by decide) (by rw [h2]; simp)
  have l3 := listB_len tbB (l := x.ba.ts) (M := 0) (N := 0) (by rw [h3]; decide) (by decide) (by rw [h3]; simp)
  refine ⟨⟨?_, by unfold I64 at hv; omega⟩, ?_⟩
  · simp only [propT, List.length_append, shaF_len]; omega
  · simp only [baB, List.length_append]; omega
theorem pr0_len {s m : Int} (hs : I64 s) (hm : I64 m) : ((propT (pr0 s m)).length ≤ 900000 ∧ (pr0 s m).vl < 9223372036854775807) ∧ (baB (pr0 s m).ba).length ≤ 900000 := by
  obtain ⟨_, _, _, _, hok, -⟩ := pr0_rd (fun _ => False) (default : World) hs hm
  exact pr_len hok (show I64 (0 + 1) by unfold I64; decide) rfl rfl rfl
theorem Same_true {R R' : Nat → Prop} {N N' : Nat} {va vb : Value} {a b : List Int} {w : World} (ha : RdR R N w va a) (hb : RdR R' N' w vb b) (h : a = b) :
    Calls Try.prog 18 #[va, vb] w fun e w' => e = .returned (.bool true) ∧ Mod (fun _ => False) w w' :=
  (Same_R ha hb).mono fun _ _ ⟨he, hm⟩ => ⟨he.trans (by rw [decide_eq_true h]), hm⟩
theorem lay_St {x : St} (h : x.OK) (s m : Int) : lay x.cells.toArray 36 [.int .i64 s, .int .i64 m] = (St.cells { x with sb := s, mr := m }).toArray := by
  have := h.h.1
  have e1 : List.take 33 (x.h.map bv) = x.h.map bv := List.take_of_length_le (by simp [this])
  have e2 : List.drop 35 (x.h.map bv) = [] := List.drop_of_length_le (by simp [this])
  simp [lay, St.cells, this, List.take_append, List.drop_append, e1, e2]
theorem lay_Vt {x : Vt} (h : x.OK) (s m : Int) : lay x.cells.toArray 36 [.int .i64 s, .int .i64 m] = (Vt.cells { x with sb := s, mr := m }).toArray := by
  have := h.h.1
  simp [lay, Vt.cells, this]
theorem okSt {x : St} (h : x.OK) {s m : Int} (hs : I64 s) (hm : I64 m) : St.OK { x with sb := s, mr := m } := { h with sb := hs, mr := hm }
theorem okVt {x : Vt} (h : x.OK) {s m : Int} (hs : I64 s) (hm : I64 m) : Vt.OK { x with sb := s, mr := m } := { h with sb := hs, mr := hm }
theorem okDn {x : Dn} (h : x.OK) {s m : Int} (hs : I64 s) (hm : I64 m) : Dn.OK { x with sb := s, mr := m } := { h with sb := hs, mr := hm }
theorem okPm {x : Pm} (h : x.OK) {s m : Int} (hs : I64 s) (hm : I64 m) : Pm.OK { x with sb := s, mr := m } := ⟨h.1, h.2.1, h.2.2.1, hs, hm⟩
set_option maxHeartbeats 8000000 in
theorem LUns_any (R2 : Nat → Prop) (xa xb : St) (xc : Pm) (cs : List Value) (xd : Dn) (xv : Vt) (sb mr : Int) (w : World) (ha : xa.OK) (hb : xb.OK) (hc : PmR.rd R2 w cs xc) (hd0 : xd.OK) (hv0 : xv.OK) (hsb : I64 sb) (hmr : I64 mr) (hB2 : ∀ k, R2 k → k < w.heap.size) :
    Calls Try.prog 10 #[.agg xa.cells.toArray, .agg xb.cells.toArray, .agg cs.toArray, .agg xd.cells.toArray, .agg xv.cells.toArray, .agg #[.int .i64 sb, .int .i64 mr]] w fun e w' => e = .returned (.bool true) ∧ Mod (fun _ => False) w w' := by
  obtain ⟨v_l, rfl, hok, hs0⟩ := hc
  obtain ⟨aoc, capc, rfl⟩ := hs0.shape
  have HS := Lib.hid hs0
  have HBT := Lib.hid hB2
  have HOA := Lib.hid ha
  have HOB := Lib.hid hb
  have HOC := Lib.hid hok
  have HOD := Lib.hid hd0
  have HOV := Lib.hid hv0
  have HSB := Lib.hid hsb
  have HMR := Lib.hid hmr
  clear hs0 hB2 ha hb hok hd0 hv0 hsb hmr
  go_enter Try.func10, Try.ntmps10
  go_upto_region 1 with (fail)
  obtain ⟨w1, hw1⟩ : ∃ zz, zz = ((((((w.alloc (.cells (xa.cells : List Value).toArray 30)).alloc (.cells (xb.cells : List Value).toArray 44)).alloc (.cells (xc.cells (.slice aoc xc.l.length capc) : List Value).toArray 55)).alloc (.cells (xd.cells : List Value).toArray 34)).alloc (.cells (xv.cells : List Value).toArray 32)).alloc (.cells #[.int .i64 sb, .int .i64 mr] 28)) := ⟨_, rfl⟩
  change Code.wp _ _ _ _ ((((((w.alloc (.cells (xa.cells : List Value).toArray 30)).alloc (.cells (xb.cells : List Value).toArray 44)).alloc (.cells (xc.cells (.slice aoc xc.l.length capc) : List Value).toArray 55)).alloc (.cells (xd.cells : List Value).toArray 34)).alloc (.cells (xv.cells : List Value).toArray 32)).alloc (.cells #[.int .i64 sb, .int .i64 mr] 28))
  rw [← hw1]
  have HB6 := Lib.hid (show Cs w1 (w.heap.size) (xa.cells : List Value).toArray 30 by rw [hw1]; exact (((((Cs.new _ _ _).alloc _).alloc _).alloc _).alloc _).alloc _)
  have HB7 := Lib.hid (show Cs w1 (w.heap.size + 1) (xb.cells : List Value).toArray 44 by rw [hw1]; exact ((((Cs_newN _ _ _ (by simp)).alloc _).alloc _).alloc _).alloc _)
  have HB8 := Lib.hid (show Cs w1 (w.heap.size + 2) (xc.cells (.slice aoc xc.l.length capc) : List Value).toArray 55 by rw [hw1]; exact (((Cs_newN _ _ _ (by simp)).alloc _).alloc _).alloc _)
  have HB9 := Lib.hid (show Cs w1 (w.heap.size + 3) (xd.cells : List Value).toArray 34 by rw [hw1]; exact ((Cs_newN _ _ _ (by simp)).alloc _).alloc _)
  have HB10 := Lib.hid (show Cs w1 (w.heap.size + 4) (xv.cells : List Value).toArray 32 by rw [hw1]; exact (Cs_newN _ _ _ (by simp)).alloc _)
  have HB11 := Lib.hid (show Cs w1 (w.heap.size + 5) #[.int .i64 sb, .int .i64 mr] 28 by rw [hw1]; exact Cs_newN _ _ _ (by simp))
  have hm : Mod (fun _ => False) w w1 := by rw [hw1]; exact ((((((Mod.refl _ _).alloc _).alloc _).alloc _).alloc _).alloc _).alloc _
  have HM0 := Lib.hid (show Mod (fun _ => False) w w1 from hm.mono (fun _ _ h => h.elim))
  have hs1 : w1.heap.size = w.heap.size + 6 := by rw [hw1]; simp
  have Hx1 := Lib.hid (HS.out.mod hm (fun _ _ h => h))
  clear HS
  clear hw1 hm
  go_upto_region 1 with (fail)
  generalize ha0 : Act.mk _ _ = a0
  have oe8 : a0.eval (.tmp 8) = .pointer (some ⟨w.heap.size + 2, 0, none⟩) := by rw [← ha0]; rfl
  have hsz0 : a0.tmps.size = 85 := by rw [← ha0]; rfl
  have HA0 := Lib.hid ha0
  clear ha0
  refine wp_region_Q 85 hsz0 (by kernel_rfl) (by kernel_rfl) [20, 21, 87] (by kernel_rfl) (by decide) (fun k => (k = w.heap.size + 2)) (fun k j => (k = 1 ∧ ((j = w.heap.size + 2)))) (by intro k j h; (try dsimp only at h ⊢); omega) [qi (.agg (xc.cells (.slice aoc xc.l.length capc)).toArray), qv 0, qv 1] ⟨qi_stable, qv_stable, qv_stable, trivial⟩ [1, 2] (by kernel_rfl) (by decide) (by kernel_rfl) [] (by kernel_rfl) (by intro r hr; cases hr) (by intro r hr; cases hr) (by intro r hr; cases hr) ⟨?_, ?_, ?_, trivial⟩ ?_
  · refine stepq_env rfl rfl rfl fun Z tr act w' hZ hm hm0 hout hsz hd hub hpre => ?_
    refine qe_run rfl (wanted_none rfl) (ex_loadA rfl Try.underlying55 rfl (off := 0) (cs := (xc.cells (.slice aoc xc.l.length capc))) (by kernel_rfl) ((hout 8 (by decide)).trans oe8) (Cs.whole (HB8.out.mod hm0 (by intro h2; have hu := hub 1 2 rfl (by kernel_rfl); (try dsimp only at h2); rcases h2 with ⟨h0, kk, hk, h2⟩ | h2 <;> omega)))) QE.refl ?_
    rfl
  · exact stepq_chain rfl
  · exact stepq_chain rfl
  intro u1_0 hr
  have zu1_0 := hr.size
  have Hx2 := Lib.hid (Hx1.out.mod hr (by intro k h1 h2; (try dsimp only at h1 h2); (try simp only [false_or] at h1 h2); (first | omega | (have hb := HBT.out k h1; omega) | (have hb := HBT.out k h2; omega))))
  have Hx3 := Lib.hid (HB6.out.mod hr (by intro h2; (try dsimp only at h2); (try simp only [false_or] at h2); omega))
  have Hx4 := Lib.hid (HB7.out.mod hr (by intro h2; (try dsimp only at h2); (try simp only [false_or] at h2); omega))
  have Hx5 := Lib.hid (HB8.out.mod hr (by intro h2; (try dsimp only at h2); (try simp only [false_or] at h2); omega))
  have Hx6 := Lib.hid (HB9.out.mod hr (by intro h2; (try dsimp only at h2); (try simp only [false_or] at h2); omega))
  have Hx7 := Lib.hid (HB10.out.mod hr (by intro h2; (try dsimp only at h2); (try simp only [false_or] at h2); omega))
  have Hx8 := Lib.hid (HB11.out.mod hr (by intro h2; (try dsimp only at h2); (try simp only [false_or] at h2); omega))
  have Hx9 := Lib.hid (HM0.out.trans hr (by intro k h1 h2; (try dsimp only at h2 ⊢); (try simp only [false_or] at h2 ⊢); omega))
  clear Hx1 HB6 HB7 HB8 HB9 HB10 HB11 HM0
  clear hr
  refine QChain.cons rfl fun Z act hYZ hZ hout hsz hd hpre => ?_
  have h0 := hd ⟨0, .data⟩ (by simp) rfl _ rfl
  have ea20 : act.eval (.tmp 20) = .agg (xc.cells (.slice aoc xc.l.length capc)).toArray := h0
  refine qc_call (args := #[.agg (xc.cells (.slice aoc xc.l.length capc)).toArray]) rfl (wanted_none rfl) (by rw [ex_callF rfl Try.func23 (by kernel_rfl) (by kernel_rfl)]; exact congrArg (fun z => Result.ok (Next.enter _ z) _) (by simp only [List.map_toArray, List.map_cons, List.map_nil, ea20]; try rfl)) (LPromise_c _ xc _ _ ⟨_, rfl, HOC.out, Hx2.out⟩ (by intro k h1; (try dsimp only at h1); (first | omega | (have hb := HBT.out k h1; omega)))) ?_
  rintro e u1_1a ⟨cs', rfl, qsl, hm⟩
  obtain ⟨v_l', rfl, hok', qsl⟩ := qsl
  obtain ⟨aop, capp, rfl⟩ := qsl.shape
  have HOP := Lib.hid hok'
  clear hok'
  have zu1_1a := hm.size
  refine ⟨_, rfl, hm.mono (fun _ _ h => h.elim), (fun _ => rfl), ?_⟩
  intro u1_1 hr
  have zu1_1 := hr.size
  have Hx10 := Lib.hid ((qsl.widen (R' := (fun k => (R2 k) ∨ (u1_0.heap.size ≤ k ∧ k < u1_1a.heap.size))) (by intro k h1; (try unfold New at h1); (try dsimp only at h1 ⊢); (try simp only [false_or] at h1 ⊢); first | exact h1 | (simp only [or_assoc] at h1 ⊢; first | exact h1 | (rcases h1 with h1 | h1 <;> first | (left; exact h1) | (right; omega) | omega)))).mod hr (by intro k h1 h2; (try dsimp only at h1 h2); (try simp only [false_or] at h1 h2); rcases h1 with h1 | h1 <;> (first | omega | (have hb := HBT.out k h1; omega) | (have hb := HBT.out k h2; omega))))
  have hmr := Mod.after hm hr
  have Hx11 := Lib.hid (Hx3.out.mod hmr (by intro h2; (try dsimp only at h2); (try simp only [false_or] at h2); omega))
  have Hx12 := Lib.hid (Hx4.out.mod hmr (by intro h2; (try dsimp only at h2); (try simp only [false_or] at h2); omega))
  have Hx13 := Lib.hid (Hx5.out.mod hmr (by intro h2; (try dsimp only at h2); (try simp only [false_or] at h2); omega))
  have Hx14 := Lib.hid (Hx6.out.mod hmr (by intro h2; (try dsimp only at h2); (try simp only [false_or] at h2); omega))
  have Hx15 := Lib.hid (Hx7.out.mod hmr (by intro h2; (try dsimp only at h2); (try simp only [false_or] at h2); omega))
  have Hx16 := Lib.hid (Hx8.out.mod hmr (by intro h2; (try dsimp only at h2); (try simp only [false_or] at h2); omega))
  have Hx17 := Lib.hid (Hx9.out.trans hmr (by intro k h1 h2; (try dsimp only at h2 ⊢); (try simp only [false_or] at h2 ⊢); omega))
  clear Hx3 Hx4 Hx5 Hx6 Hx7 Hx8 Hx9
  clear hmr
  clear hm hr hYZ hZ hout hsz hd hpre qsl Hx2 ea20 h0
  refine QChain.cons rfl fun Z act hYZ hZ hout hsz hd hpre => ?_
  have h1 := hd ⟨1, .data⟩ (by simp) rfl _ rfl
  refine qc_store rfl (wanted_none rfl) rfl Hx13.out (off := 0) (vs := ((cutPm xc).cells (Value.slice aop (cutPm xc).l.length capp))) (by kernel_rfl) (by intro u hu; simp only [Pm.cells, List.mem_cons, List.not_mem_nil, or_false] at hu; rcases hu with rfl | rfl | rfl | rfl | rfl | rfl <;> rfl) (by simp) ((hout 8 (by decide)).trans oe8) (by rw [show act.eval ((.tmp 21)) = _ from (Option.some.inj (show some (.agg ((cutPm xc).cells (Value.slice aop (cutPm xc).l.length capp)).toArray : Value) = some (act.eval (.tmp 21)) from h1)).symm]; rfl) ?_
  intro u1_2a qc0 hm
  have qB8 : Cs u1_2a (w.heap.size + 2) (((cutPm xc).cells (Value.slice aop (cutPm xc).l.length capp)) : List Value).toArray 55 := by rw [show lay _ 0 _ = (((cutPm xc).cells (Value.slice aop (cutPm xc).l.length capp)) : List Value).toArray from lay_whole (xc.cells (.slice aoc xc.l.length capc)).toArray _ rfl] at qc0; exact qc0
  clear qc0
  have zu1_2a := hm.size
  refine ⟨hm.mono (by intro k hk h; (try dsimp only at h ⊢); (try simp only [false_or, or_false, true_and] at h ⊢); omega), (fun _ => rfl), ?_⟩
  intro u1_2 hr
  have zu1_2 := hr.size
  have Hx18 := Lib.hid (qB8.mod hr (by intro h2; (try dsimp only at h2); (try simp only [false_or] at h2); omega))
  have hmr := hm.two hr
  have Hx19 := Lib.hid (Hx10.out.mod hmr (by intro k h1 h2; (try dsimp only at h1 h2); (try simp only [false_or] at h1 h2); rcases h1 with h1 | h1 <;> rcases h2 with h2 | h2 <;> (first | omega | (have hb := HBT.out k h1; omega) | (have hb := HBT.out k h2; omega))))
  have Hx20 := Lib.hid (Hx11.out.mod hmr (by intro h2; (try dsimp only at h2); (try simp only [false_or] at h2); omega))
  have Hx21 := Lib.hid (Hx12.out.mod hmr (by intro h2; (try dsimp only at h2); (try simp only [false_or] at h2); omega))
  have Hx22 := Lib.hid (Hx14.out.mod hmr (by intro h2; (try dsimp only at h2); (try simp only [false_or] at h2); omega))
  have Hx23 := Lib.hid (Hx15.out.mod hmr (by intro h2; (try dsimp only at h2); (try simp only [false_or] at h2); omega))
  have Hx24 := Lib.hid (Hx16.out.mod hmr (by intro h2; (try dsimp only at h2); (try simp only [false_or] at h2); omega))
  have Hx25 := Lib.hid (Hx17.out.trans hmr (by intro k h1 h2; (try dsimp only at h2 ⊢); (try simp only [false_or] at h2 ⊢); omega))
  clear Hx10 Hx11 Hx12 Hx14 Hx15 Hx16 Hx17
  clear hmr
  clear hm hr hYZ hZ hout hsz hd hpre qB8 Hx13 h1
  refine QChain.nil fun vs hl hzz hrows hne => ?_
  obtain ⟨Z, hYZ, hZb, hV⟩ := hzz
  obtain ⟨v0, vs0, rfl, hl0⟩ := list_cons hl
  obtain ⟨v1, vs1, rfl, hl1⟩ := list_cons hl0
  obtain ⟨v2, vs2, rfl, hl2⟩ := list_cons hl1
  obtain rfl := list_nil hl2
  clear hl hl0 hl1 hl2
  have e1 := Option.some.inj (show some (.agg ((cutPm xc).cells (Value.slice aop (cutPm xc).l.length capp)).toArray) = some v1 from hV 1 _ rfl)
  subst e1
  have ha0 := HA0.out
  subst ha0
  clear HA0 hV hYZ hZb hsz0 hrows hne oe8
  simp only [putAll, Act.put, List.setIfInBounds_toArray, List.set_cons_zero, List.set_cons_succ, List.set_nil]
  go_upto_region 2 with (fail)
  generalize ha0 : Act.mk _ _ = a0
  have oe6 : a0.eval (.tmp 6) = .pointer (some ⟨w.heap.size, 0, none⟩) := by rw [← ha0]; rfl
  have oe7 : a0.eval (.tmp 7) = .pointer (some ⟨w.heap.size + 1, 0, none⟩) := by rw [← ha0]; rfl
  have oe8 : a0.eval (.tmp 8) = .pointer (some ⟨w.heap.size + 2, 0, none⟩) := by rw [← ha0]; rfl
  have oe9 : a0.eval (.tmp 9) = .pointer (some ⟨w.heap.size + 3, 0, none⟩) := by rw [← ha0]; rfl
  have oe10 : a0.eval (.tmp 10) = .pointer (some ⟨w.heap.size + 4, 0, none⟩) := by rw [← ha0]; rfl
  have hsz0 : a0.tmps.size = 85 := by rw [← ha0]; rfl
  have HA0 := Lib.hid ha0
  clear ha0
  refine wp_region_Q 85 hsz0 (by kernel_rfl) (by kernel_rfl) [22, 23, 24, 25, 26, 13, 14, 15, 16, 17, 95, 96, 97, 98, 99] (by kernel_rfl) (by decide) (fun _ => False) (fun _ _ => False) (fun _ _ h => h) [qi (.agg (xa.cells).toArray), qi (.agg (xb.cells).toArray), qi (.agg ((cutPm xc).cells (Value.slice aop (cutPm xc).l.length capp)).toArray), qi (.agg (xd.cells).toArray), qi (.agg (xv.cells).toArray), qa, qa, qa, qa, qa, qa, qa, qa, qa, qa] ⟨qi_stable, qi_stable, qi_stable, qi_stable, qi_stable, qa_stable, qa_stable, qa_stable, qa_stable, qa_stable, qa_stable, qa_stable, qa_stable, qa_stable, qa_stable, trivial⟩ [] (by kernel_rfl) (by decide) (by kernel_rfl) [⟨5, 10, 30, [.int .i64 0, .int .i64 0, .int .i64 0, .int .u8 0, .int .u8 0, .int .u8 0, .int .u8 0, .int .u8 0, .int .u8 0, .int .u8 0, .int .u8 0, .int .u8 0, .int .u8 0, .int .u8 0, .int .u8 0, .int .u8 0, .int .u8 0, .int .u8 0, .int .u8 0, .int .u8 0, .int .u8 0, .int .u8 0, .int .u8 0, .int .u8 0, .int .u8 0, .int .u8 0, .int .u8 0, .int .u8 0, .int .u8 0, .int .u8 0, .int .u8 0, .int .u8 0, .int .u8 0, .int .u8 0, .int .u8 0, .int .u64 0, .int .i64 0, .int .i64 0], 0, (fun t => (xa.cells))⟩, ⟨6, 11, 44, [.int .i64 0, .int .i64 0, .int .i64 0, .int .u8 0, .int .u8 0, .int .u8 0, .int .u8 0, .int .u8 0, .int .u8 0, .int .u8 0, .int .u8 0, .int .u8 0, .int .u8 0, .int .u8 0, .int .u8 0, .int .u8 0, .int .u8 0, .int .u8 0, .int .u8 0, .int .u8 0, .int .u8 0, .int .u8 0, .int .u8 0, .int .u8 0, .int .u8 0, .int .u8 0, .int .u8 0, .int .u8 0, .int .u8 0, .int .u8 0, .int .u8 0, .int .u8 0, .int .u8 0, .int .u8 0, .int .u8 0, .int .u64 0, .int .i64 0, .int .i64 0], 0, (fun t => (xb.cells))⟩, ⟨7, 12, 55, [.int .i64 0, .int .i64 0, .int .u64 0, .slice none 0 0, .int .i64 0, .int .i64 0], 0, (fun t => ((cutPm xc).cells (Value.slice aop (cutPm xc).l.length capp)))⟩, ⟨8, 13, 34, [.int .i64 0, .int .i64 0, .int .i64 0, .int .i64 0], 0, (fun t => (xd.cells))⟩, ⟨9, 14, 32, [.int .i64 0, .int .i64 0, .int .i64 0, .int .i64 0, .int .u8 0, .int .u8 0, .int .u8 0, .int .u8 0, .int .u8 0, .int .u8 0, .int .u8 0, .int .u8 0, .int .u8 0, .int .u8 0, .int .u8 0, .int .u8 0, .int .u8 0, .int .u8 0, .int .u8 0, .int .u8 0, .int .u8 0, .int .u8 0, .int .u8 0, .int .u8 0, .int .u8 0, .int .u8 0, .int .u8 0, .int .u8 0, .int .u8 0, .int .u8 0, .int .u8 0, .int .u8 0, .int .u8 0, .int .u8 0, .int .u8 0, .int .u8 0, .int .i64 0, .int .i64 0], 0, (fun t => (xv.cells))⟩] (by kernel_rfl) (by intro r hr; simp only [List.mem_cons, List.not_mem_nil, or_false] at hr; rcases hr with rfl | rfl | rfl | rfl | rfl <;> exact ⟨by kernel_rfl, by kernel_rfl⟩) (by intro r hr; simp only [List.mem_cons, List.not_mem_nil, or_false] at hr; rcases hr with rfl | rfl | rfl | rfl | rfl <;> exact ⟨of_decide_eq_true (by kernel_rfl), of_decide_eq_true (by kernel_rfl)⟩) (by intro r hr; simp only [List.mem_cons, List.not_mem_nil, or_false] at hr; rcases hr with rfl | rfl | rfl | rfl | rfl <;> exact fun _ _ _ _ => ⟨trivial, trivial⟩) ⟨?_, ?_, ?_, ?_, ?_, ?_, ?_, ?_, ?_, ?_, ?_, ?_, ?_, ?_, ?_, trivial⟩ ?_
  · refine stepq_env rfl rfl rfl fun Z tr act w' hZ hm hm0 hout hsz hd hub hpre => ?_
    refine qe_run rfl (wanted_none rfl) (ex_loadA rfl Try.underlying30 rfl (off := 0) (cs := (xa.cells)) (by rw [St.len HOA.out]; kernel_rfl) ((hout 6 (by decide)).trans oe6) (Cs.whole (Hx20.out.mod (Mod.mono (S' := fun k => u1_2.heap.size ≤ k) hm (fun _ _ h => h.elim (fun h => h.2.elim) (fun h => h))) (by intro h2; (try dsimp only at h2); (try simp only [false_or] at h2); omega)))) QE.refl ?_
    rfl
  · refine stepq_env rfl rfl rfl fun Z tr act w' hZ hm hm0 hout hsz hd hub hpre => ?_
    refine qe_run rfl (wanted_none rfl) (ex_loadA rfl Try.underlying44 rfl (off := 0) (cs := (xb.cells)) (by rw [St.len HOB.out]; kernel_rfl) ((hout 7 (by decide)).trans oe7) (Cs.whole (Hx21.out.mod (Mod.mono (S' := fun k => u1_2.heap.size ≤ k) hm (fun _ _ h => h.elim (fun h => h.2.elim) (fun h => h))) (by intro h2; (try dsimp only at h2); (try simp only [false_or] at h2); omega)))) QE.refl ?_
    rfl
  · refine stepq_env rfl rfl rfl fun Z tr act w' hZ hm hm0 hout hsz hd hub hpre => ?_
    refine qe_run rfl (wanted_none rfl) (ex_loadA rfl Try.underlying55 rfl (off := 0) (cs := ((cutPm xc).cells (Value.slice aop (cutPm xc).l.length capp))) (by kernel_rfl) ((hout 8 (by decide)).trans oe8) (Cs.whole (Hx18.out.mod (Mod.mono (S' := fun k => u1_2.heap.size ≤ k) hm (fun _ _ h => h.elim (fun h => h.2.elim) (fun h => h))) (by intro h2; (try dsimp only at h2); (try simp only [false_or] at h2); omega)))) QE.refl ?_
    rfl
  · refine stepq_env rfl rfl rfl fun Z tr act w' hZ hm hm0 hout hsz hd hub hpre => ?_
    refine qe_run rfl (wanted_none rfl) (ex_loadA rfl Try.underlying34 rfl (off := 0) (cs := (xd.cells)) (by kernel_rfl) ((hout 9 (by decide)).trans oe9) (Cs.whole (Hx22.out.mod (Mod.mono (S' := fun k => u1_2.heap.size ≤ k) hm (fun _ _ h => h.elim (fun h => h.2.elim) (fun h => h))) (by intro h2; (try dsimp only at h2); (try simp only [false_or] at h2); omega)))) QE.refl ?_
    rfl
  · refine stepq_env rfl rfl rfl fun Z tr act w' hZ hm hm0 hout hsz hd hub hpre => ?_
    refine qe_run rfl (wanted_none rfl) (ex_loadA rfl Try.underlying32 rfl (off := 0) (cs := (xv.cells)) (by rw [Vt.len HOV.out]; kernel_rfl) ((hout 10 (by decide)).trans oe10) (Cs.whole (Hx23.out.mod (Mod.mono (S' := fun k => u1_2.heap.size ≤ k) hm (fun _ _ h => h.elim (fun h => h.2.elim) (fun h => h))) (by intro h2; (try dsimp only at h2); (try simp only [false_or] at h2); omega)))) QE.refl ?_
    rfl
  · exact stepq_make rfl rfl ⟨rfl, rfl, by kernel_rfl, by kernel_rfl⟩
  · exact stepq_make rfl rfl ⟨rfl, rfl, by kernel_rfl, by kernel_rfl⟩
  · exact stepq_make rfl rfl ⟨rfl, rfl, by kernel_rfl, by kernel_rfl⟩
  · exact stepq_make rfl rfl ⟨rfl, rfl, by kernel_rfl, by kernel_rfl⟩
  · exact stepq_make rfl rfl ⟨rfl, rfl, by kernel_rfl, by kernel_rfl⟩
  · refine stepq_write rfl rfl rfl ⟨rfl, 13, (.tmp 22), rfl, by decide, rfl, by kernel_rfl, fun Z tr act w' hm hout hsz hd hpre => ?_⟩
    have h0 := hd ⟨0, .data⟩ (by simp) rfl _ rfl
    exact ⟨Nat.zero_le _, (by rw [show act.eval ((.tmp 22)) = _ from h0]; rfl), (by rw [St.len HOA.out]; kernel_rfl), (St.one _)⟩
  · refine stepq_write rfl rfl rfl ⟨rfl, 14, (.tmp 23), rfl, by decide, rfl, by kernel_rfl, fun Z tr act w' hm hout hsz hd hpre => ?_⟩
    have h1 := hd ⟨1, .data⟩ (by simp) rfl _ rfl
    exact ⟨Nat.zero_le _, (by rw [show act.eval ((.tmp 23)) = _ from h1]; rfl), (by rw [St.len HOB.out]; kernel_rfl), (St.one _)⟩
  · refine stepq_write rfl rfl rfl ⟨rfl, 15, (.tmp 24), rfl, by decide, rfl, by kernel_rfl, fun Z tr act w' hm hout hsz hd hpre => ?_⟩
    have h2 := hd ⟨2, .data⟩ (by simp) rfl _ rfl
    exact ⟨Nat.zero_le _, (by rw [show act.eval ((.tmp 24)) = _ from h2]; rfl), (by kernel_rfl), (by intro u hu; simp only [Pm.cells, List.mem_cons, List.not_mem_nil, or_false] at hu; rcases hu with rfl | rfl | rfl | rfl | rfl | rfl <;> rfl)⟩
  · refine stepq_write rfl rfl rfl ⟨rfl, 16, (.tmp 25), rfl, by decide, rfl, by kernel_rfl, fun Z tr act w' hm hout hsz hd hpre => ?_⟩
    have h3 := hd ⟨3, .data⟩ (by simp) rfl _ rfl
    exact ⟨Nat.zero_le _, (by rw [show act.eval ((.tmp 25)) = _ from h3]; rfl), (by kernel_rfl), (by intro u hu; simp only [Dn.cells, List.mem_cons, List.not_mem_nil, or_false] at hu; rcases hu with rfl | rfl | rfl | rfl <;> rfl)⟩
  · refine stepq_write rfl rfl rfl ⟨rfl, 17, (.tmp 26), rfl, by decide, rfl, by kernel_rfl, fun Z tr act w' hm hout hsz hd hpre => ?_⟩
    have h4 := hd ⟨4, .data⟩ (by simp) rfl _ rfl
    exact ⟨Nat.zero_le _, (by rw [show act.eval ((.tmp 26)) = _ from h4]; rfl), (by rw [Vt.len HOV.out]; kernel_rfl), (Vt.one _)⟩
  intro u2_0 hr
  have zu2_0 := hr.size
  have Hx26 := Lib.hid (Hx19.out.mod hr (by intro k h1 h2; (try dsimp only at h1 h2); (try simp only [false_or] at h1 h2); rcases h1 with h1 | h1 <;> (first | omega | (have hb := HBT.out k h1; omega) | (have hb := HBT.out k h2; omega))))
  have Hx27 := Lib.hid (Hx20.out.mod hr (by intro h2; (try dsimp only at h2); (try simp only [false_or] at h2); omega))
  have Hx28 := Lib.hid (Hx21.out.mod hr (by intro h2; (try dsimp only at h2); (try simp only [false_or] at h2); omega))
  have Hx29 := Lib.hid (Hx18.out.mod hr (by intro h2; (try dsimp only at h2); (try simp only [false_or] at h2); omega))
  have Hx30 := Lib.hid (Hx22.out.mod hr (by intro h2; (try dsimp only at h2); (try simp only [false_or] at h2); omega))
  have Hx31 := Lib.hid (Hx23.out.mod hr (by intro h2; (try dsimp only at h2); (try simp only [false_or] at h2); omega))
  have Hx32 := Lib.hid (Hx24.out.mod hr (by intro h2; (try dsimp only at h2); (try simp only [false_or] at h2); omega))
  have Hx33 := Lib.hid (Hx25.out.trans hr (by intro k h1 h2; (try dsimp only at h2 ⊢); (try simp only [false_or] at h2 ⊢); omega))
  clear Hx19 Hx20 Hx21 Hx18 Hx22 Hx23 Hx24 Hx25
  clear hr
  refine QChain.nil fun vs hl hzz hrows hne => ?_
  obtain ⟨Z, hYZ, hZb, hV⟩ := hzz
  obtain ⟨v0, vs0, rfl, hl0⟩ := list_cons hl
  obtain ⟨v1, vs1, rfl, hl1⟩ := list_cons hl0
  obtain ⟨v2, vs2, rfl, hl2⟩ := list_cons hl1
  obtain ⟨v3, vs3, rfl, hl3⟩ := list_cons hl2
  obtain ⟨v4, vs4, rfl, hl4⟩ := list_cons hl3
  obtain ⟨v5, vs5, rfl, hl5⟩ := list_cons hl4
  obtain ⟨v6, vs6, rfl, hl6⟩ := list_cons hl5
  obtain ⟨v7, vs7, rfl, hl7⟩ := list_cons hl6
  obtain ⟨v8, vs8, rfl, hl8⟩ := list_cons hl7
  obtain ⟨v9, vs9, rfl, hl9⟩ := list_cons hl8
  obtain ⟨v10, vs10, rfl, hl10⟩ := list_cons hl9
  obtain ⟨v11, vs11, rfl, hl11⟩ := list_cons hl10
  obtain ⟨v12, vs12, rfl, hl12⟩ := list_cons hl11
  obtain ⟨v13, vs13, rfl, hl13⟩ := list_cons hl12
  obtain ⟨v14, vs14, rfl, hl14⟩ := list_cons hl13
  obtain rfl := list_nil hl14
  clear hl hl0 hl1 hl2 hl3 hl4 hl5 hl6 hl7 hl8 hl9 hl10 hl11 hl12 hl13 hl14
  obtain ⟨rxa, frxa, hBrxa, hYrxa, hCrxa⟩ := hrows _ (by simp only [List.mem_cons, List.not_mem_nil, or_false]; exact Or.inl rfl)
  obtain rfl : v5 = _ := Option.some.inj frxa
  (try dsimp only at hBrxa hYrxa); (try simp only [false_or] at hBrxa hYrxa)
  have zqrxa := hCrxa.lt
  have Hx34 := Lib.hid (show Cs u2_0 rxa ((xa.cells) : List Value).toArray 30 from hCrxa)
  clear hCrxa frxa
  obtain ⟨rxb, frxb, hBrxb, hYrxb, hCrxb⟩ := hrows _ (by simp only [List.mem_cons, List.not_mem_nil, or_false]; exact Or.inr (Or.inl rfl))
  obtain rfl : v6 = _ := Option.some.inj frxb
  (try dsimp only at hBrxb hYrxb); (try simp only [false_or] at hBrxb hYrxb)
  have zqrxb := hCrxb.lt
  have Hx35 := Lib.hid (show Cs u2_0 rxb ((xb.cells) : List Value).toArray 44 from hCrxb)
  clear hCrxb frxb
  obtain ⟨rxc, frxc, hBrxc, hYrxc, hCrxc⟩ := hrows _ (by simp only [List.mem_cons, List.not_mem_nil, or_false]; exact Or.inr (Or.inr (Or.inl rfl)))
  obtain rfl : v7 = _ := Option.some.inj frxc
  (try dsimp only at hBrxc hYrxc); (try simp only [false_or] at hBrxc hYrxc)
  have zqrxc := hCrxc.lt
  have Hx36 := Lib.hid (show Cs u2_0 rxc (((cutPm xc).cells (Value.slice aop (cutPm xc).l.length capp)) : List Value).toArray 55 from hCrxc)
  clear hCrxc frxc
  obtain ⟨rxd, frxd, hBrxd, hYrxd, hCrxd⟩ := hrows _ (by simp only [List.mem_cons, List.not_mem_nil, or_false]; exact Or.inr (Or.inr (Or.inr (Or.inl rfl))))
  obtain rfl : v8 = _ := Option.some.inj frxd
  (try dsimp only at hBrxd hYrxd); (try simp only [false_or] at hBrxd hYrxd)
  have zqrxd := hCrxd.lt
  have Hx37 := Lib.hid (show Cs u2_0 rxd ((xd.cells) : List Value).toArray 34 from hCrxd)
  clear hCrxd frxd
  obtain ⟨rxv, frxv, hBrxv, hYrxv, hCrxv⟩ := hrows _ (by simp only [List.mem_cons, List.not_mem_nil, or_false]; exact Or.inr (Or.inr (Or.inr (Or.inr (rfl)))))
  obtain rfl : v9 = _ := Option.some.inj frxv
  (try dsimp only at hBrxv hYrxv); (try simp only [false_or] at hBrxv hYrxv)
  have zqrxv := hCrxv.lt
  have Hx38 := Lib.hid (show Cs u2_0 rxv ((xv.cells) : List Value).toArray 32 from hCrxv)
  clear hCrxv frxv
  have nrxa_rxb : rxa ≠ rxb := fun e => hne _ (by simp only [List.mem_cons, List.not_mem_nil, or_false]; exact Or.inl rfl) _ (by simp only [List.mem_cons, List.not_mem_nil, or_false]; exact Or.inr (Or.inl rfl)) (show (5 : Nat) ≠ 6 by decide) (by subst e; rfl)
  have nrxa_rxc : rxa ≠ rxc := fun e => hne _ (by simp only [List.mem_cons, List.not_mem_nil, or_false]; exact Or.inl rfl) _ (by simp only [List.mem_cons, List.not_mem_nil, or_false]; exact Or.inr (Or.inr (Or.inl rfl))) (show (5 : Nat) ≠ 7 by decide) (by subst e; rfl)
  have nrxb_rxc : rxb ≠ rxc := fun e => hne _ (by simp only [List.mem_cons, List.not_mem_nil, or_false]; exact Or.inr (Or.inl rfl)) _ (by simp only [List.mem_cons, List.not_mem_nil, or_false]; exact Or.inr (Or.inr (Or.inl rfl))) (show (6 : Nat) ≠ 7 by decide) (by subst e; rfl)
  have nrxa_rxd : rxa ≠ rxd := fun e => hne _ (by simp only [List.mem_cons, List.not_mem_nil, or_false]; exact Or.inl rfl) _ (by simp only [List.mem_cons, List.not_mem_nil, or_false]; exact Or.inr (Or.inr (Or.inr (Or.inl rfl)))) (show (5 : Nat) ≠ 8 by decide) (by subst e; rfl)
  have nrxb_rxd : rxb ≠ rxd := fun e => hne _ (by simp only [List.mem_cons, List.not_mem_nil, or_false]; exact Or.inr (Or.inl rfl)) _ (by simp only [List.mem_cons, List.not_mem_nil, or_false]; exact Or.inr (Or.inr (Or.inr (Or.inl rfl)))) (show (6 : Nat) ≠ 8 by decide) (by subst e; rfl)
  have nrxc_rxd : rxc ≠ rxd := fun e => hne _ (by simp only [List.mem_cons, List.not_mem_nil, or_false]; exact Or.inr (Or.inr (Or.inl rfl))) _ (by simp only [List.mem_cons, List.not_mem_nil, or_false]; exact Or.inr (Or.inr (Or.inr (Or.inl rfl)))) (show (7 : Nat) ≠ 8 by decide) (by subst e; rfl)
  have nrxa_rxv : rxa ≠ rxv := fun e => hne _ (by simp only [List.mem_cons, List.not_mem_nil, or_false]; exact Or.inl rfl) _ (by simp only [List.mem_cons, List.not_mem_nil, or_false]; exact Or.inr (Or.inr (Or.inr (Or.inr (rfl))))) (show (5 : Nat) ≠ 9 by decide) (by subst e; rfl)
  have nrxb_rxv : rxb ≠ rxv := fun e => hne _ (by simp only [List.mem_cons, List.not_mem_nil, or_false]; exact Or.inr (Or.inl rfl)) _ (by simp only [List.mem_cons, List.not_mem_nil, or_false]; exact Or.inr (Or.inr (Or.inr (Or.inr (rfl))))) (show (6 : Nat) ≠ 9 by decide) (by subst e; rfl)
  have nrxc_rxv : rxc ≠ rxv := fun e => hne _ (by simp only [List.mem_cons, List.not_mem_nil, or_false]; exact Or.inr (Or.inr (Or.inl rfl))) _ (by simp only [List.mem_cons, List.not_mem_nil, or_false]; exact Or.inr (Or.inr (Or.inr (Or.inr (rfl))))) (show (7 : Nat) ≠ 9 by decide) (by subst e; rfl)
  have nrxd_rxv : rxd ≠ rxv := fun e => hne _ (by simp only [List.mem_cons, List.not_mem_nil, or_false]; exact Or.inr (Or.inr (Or.inr (Or.inl rfl)))) _ (by simp only [List.mem_cons, List.not_mem_nil, or_false]; exact Or.inr (Or.inr (Or.inr (Or.inr (rfl))))) (show (8 : Nat) ≠ 9 by decide) (by subst e; rfl)
  have ha0 := HA0.out
  subst ha0
  clear HA0 hV hYZ hZb hsz0 hrows hne oe6 oe7 oe8 oe9 oe10
  simp only [putAll, Act.put, List.setIfInBounds_toArray, List.set_cons_zero, List.set_cons_succ, List.set_nil]
  go_upto_region 3 with (fail)
  generalize ha0 : Act.mk _ _ = a0
  have oe11 : a0.eval (.tmp 11) = .pointer (some ⟨w.heap.size + 5, 0, none⟩) := by rw [← ha0]; rfl
  have oe13 : a0.eval (.tmp 13) = .pointer (some ⟨rxa, 0, none⟩) := by rw [← ha0]; rfl
  have oe14 : a0.eval (.tmp 14) = .pointer (some ⟨rxb, 0, none⟩) := by rw [← ha0]; rfl
  have oe15 : a0.eval (.tmp 15) = .pointer (some ⟨rxc, 0, none⟩) := by rw [← ha0]; rfl
  have oe16 : a0.eval (.tmp 16) = .pointer (some ⟨rxd, 0, none⟩) := by rw [← ha0]; rfl
  have oe17 : a0.eval (.tmp 17) = .pointer (some ⟨rxv, 0, none⟩) := by rw [← ha0]; rfl
  have hsz0 : a0.tmps.size = 85 := by rw [← ha0]; rfl
  have HA0 := Lib.hid ha0
  clear ha0
  refine wp_region_Q 85 hsz0 (by kernel_rfl) (by kernel_rfl) [27, 28, 29, 30, 31, 32, 91, 33, 93, 34, 95, 35, 97, 36, 99] (by kernel_rfl) (by decide) (fun k => (k = rxa) ∨ (k = rxb) ∨ (k = rxc) ∨ (k = rxd) ∨ (k = rxv)) (fun k j => (k = 0 ∧ ((j = rxa))) ∨ (k = 1 ∧ ((j = rxb))) ∨ (k = 2 ∧ ((j = rxc))) ∨ (k = 3 ∧ ((j = rxd))) ∨ (k = 4 ∧ ((j = rxv)))) (by intro k j h; (try dsimp only at h ⊢); omega) [qi (.agg #[.int .i64 sb, .int .i64 mr]), qi (.agg #[.int .i64 sb, .int .i64 mr]), qi (.agg #[.int .i64 sb, .int .i64 mr]), qi (.agg #[.int .i64 sb, .int .i64 mr]), qi (.agg #[.int .i64 sb, .int .i64 mr]), qi (.pointer (some ⟨rxa, 36, none⟩)), qv 0, qi (.pointer (some ⟨rxb, 36, none⟩)), qv 1, qi (.pointer (some ⟨rxc, 4, none⟩)), qv 2, qi (.pointer (some ⟨rxd, 2, none⟩)), qv 3, qi (.pointer (some ⟨rxv, 36, none⟩)), qv 4] ⟨qi_stable, qi_stable, qi_stable, qi_stable, qi_stable, qi_stable, qv_stable, qi_stable, qv_stable, qi_stable, qv_stable, qi_stable, qv_stable, qi_stable, qv_stable, trivial⟩ [6, 8, 10, 12, 14] (by kernel_rfl) (by decide) (by kernel_rfl) [] (by kernel_rfl) (by intro r hr; cases hr) (by intro r hr; cases hr) (by intro r hr; cases hr) ⟨?_, ?_, ?_, ?_, ?_, ?_, ?_, ?_, ?_, ?_, ?_, ?_, ?_, ?_, ?_, trivial⟩ ?_
  · refine stepq_env rfl rfl rfl fun Z tr act w' hZ hm hm0 hout hsz hd hub hpre => ?_
    refine qe_run rfl (wanted_none rfl) (ex_loadA rfl Try.underlying28 rfl (off := 0) (cs := [.int .i64 sb, .int .i64 mr]) (by kernel_rfl) ((hout 11 (by decide)).trans oe11) (Cs.whole (Hx32.out.mod hm (by intro h2; (try dsimp only at h2); (try simp only [false_or] at h2); omega)))) QE.refl ?_
    rfl
  · refine stepq_env rfl rfl rfl fun Z tr act w' hZ hm hm0 hout hsz hd hub hpre => ?_
    refine qe_run rfl (wanted_none rfl) (ex_loadA rfl Try.underlying28 rfl (off := 0) (cs := [.int .i64 sb, .int .i64 mr]) (by kernel_rfl) ((hout 11 (by decide)).trans oe11) (Cs.whole (Hx32.out.mod hm (by intro h2; (try dsimp only at h2); (try simp only [false_or] at h2); omega)))) QE.refl ?_
    rfl
  · refine stepq_env rfl rfl rfl fun Z tr act w' hZ hm hm0 hout hsz hd hub hpre => ?_
    refine qe_run rfl (wanted_none rfl) (ex_loadA rfl Try.underlying28 rfl (off := 0) (cs := [.int .i64 sb, .int .i64 mr]) (by kernel_rfl) ((hout 11 (by decide)).trans oe11) (Cs.whole (Hx32.out.mod hm (by intro h2; (try dsimp only at h2); (try simp only [false_or] at h2); omega)))) QE.refl ?_
    rfl
  · refine stepq_env rfl rfl rfl fun Z tr act w' hZ hm hm0 hout hsz hd hub hpre => ?_
    refine qe_run rfl (wanted_none rfl) (ex_loadA rfl Try.underlying28 rfl (off := 0) (cs := [.int .i64 sb, .int .i64 mr]) (by kernel_rfl) ((hout 11 (by decide)).trans oe11) (Cs.whole (Hx32.out.mod hm (by intro h2; (try dsimp only at h2); (try simp only [false_or] at h2); omega)))) QE.refl ?_
    rfl
  · refine stepq_env rfl rfl rfl fun Z tr act w' hZ hm hm0 hout hsz hd hub hpre => ?_
    refine qe_run rfl (wanted_none rfl) (ex_loadA rfl Try.underlying28 rfl (off := 0) (cs := [.int .i64 sb, .int .i64 mr]) (by kernel_rfl) ((hout 11 (by decide)).trans oe11) (Cs.whole (Hx32.out.mod hm (by intro h2; (try dsimp only at h2); (try simp only [false_or] at h2); omega)))) QE.refl ?_
    rfl
  · refine stepq_env rfl rfl rfl fun Z tr act w' hZ hm hm0 hout hsz hd hub hpre => ?_
    refine qe_run rfl (wanted_none rfl) (ex_field rfl Try.underlying30 rfl (by kernel_rfl) ((hout 13 (by decide)).trans oe13)) QE.refl ?_
    rfl
  · exact stepq_chain rfl
  · refine stepq_env rfl rfl rfl fun Z tr act w' hZ hm hm0 hout hsz hd hub hpre => ?_
    refine qe_run rfl (wanted_none rfl) (ex_field rfl Try.underlying44 rfl (by kernel_rfl) ((hout 14 (by decide)).trans oe14)) QE.refl ?_
    rfl
  · exact stepq_chain rfl
  · refine stepq_env rfl rfl rfl fun Z tr act w' hZ hm hm0 hout hsz hd hub hpre => ?_
    refine qe_run rfl (wanted_none rfl) (ex_field rfl Try.underlying55 rfl (by kernel_rfl) ((hout 15 (by decide)).trans oe15)) QE.refl ?_
    rfl
  · exact stepq_chain rfl
  · refine stepq_env rfl rfl rfl fun Z tr act w' hZ hm hm0 hout hsz hd hub hpre => ?_
    refine qe_run rfl (wanted_none rfl) (ex_field rfl Try.underlying34 rfl (by kernel_rfl) ((hout 16 (by decide)).trans oe16)) QE.refl ?_
    rfl
  · exact stepq_chain rfl
  · refine stepq_env rfl rfl rfl fun Z tr act w' hZ hm hm0 hout hsz hd hub hpre => ?_
    refine qe_run rfl (wanted_none rfl) (ex_field rfl Try.underlying32 rfl (by kernel_rfl) ((hout 17 (by decide)).trans oe17)) QE.refl ?_
    rfl
  · exact stepq_chain rfl
  intro u3_0 hr
  have zu3_0 := hr.size
  have Hx39 := Lib.hid (Hx26.out.mod hr (by intro k h1 h2; (try dsimp only at h1 h2); (try simp only [false_or] at h1 h2); rcases h1 with h1 | h1 <;> (first | omega | (have hb := HBT.out k h1; omega) | (have hb := HBT.out k h2; omega))))
  have Hx40 := Lib.hid (Hx27.out.mod hr (by intro h2; (try dsimp only at h2); (try simp only [false_or] at h2); omega))
  have Hx41 := Lib.hid (Hx28.out.mod hr (by intro h2; (try dsimp only at h2); (try simp only [false_or] at h2); omega))
  have Hx42 := Lib.hid (Hx29.out.mod hr (by intro h2; (try dsimp only at h2); (try simp only [false_or] at h2); omega))
  have Hx43 := Lib.hid (Hx30.out.mod hr (by intro h2; (try dsimp only at h2); (try simp only [false_or] at h2); omega))
  have Hx44 := Lib.hid (Hx31.out.mod hr (by intro h2; (try dsimp only at h2); (try simp only [false_or] at h2); omega))
  have Hx45 := Lib.hid (Hx32.out.mod hr (by intro h2; (try dsimp only at h2); (try simp only [false_or] at h2); omega))
  have Hx46 := Lib.hid (Hx33.out.trans hr (by intro k h1 h2; (try dsimp only at h2 ⊢); (try simp only [false_or] at h2 ⊢); omega))
  have Hx47 := Lib.hid (Hx34.out.mod hr (by intro h2; (try dsimp only at h2); (try simp only [false_or] at h2); omega))
  have Hx48 := Lib.hid (Hx35.out.mod hr (by intro h2; (try dsimp only at h2); (try simp only [false_or] at h2); omega))
  have Hx49 := Lib.hid (Hx36.out.mod hr (by intro h2; (try dsimp only at h2); (try simp only [false_or] at h2); omega))
  have Hx50 := Lib.hid (Hx37.out.mod hr (by intro h2; (try dsimp only at h2); (try simp only [false_or] at h2); omega))
  have Hx51 := Lib.hid (Hx38.out.mod hr (by intro h2; (try dsimp only at h2); (try simp only [false_or] at h2); omega))
  clear Hx26 Hx27 Hx28 Hx29 Hx30 Hx31 Hx32 Hx33 Hx34 Hx35 Hx36 Hx37 Hx38
  clear hr
  refine QChain.cons rfl fun Z act hYZ hZ hout hsz hd hpre => ?_
  have h0 := hd ⟨0, .data⟩ (by simp) rfl _ rfl
  have h5 := hd ⟨5, .data⟩ (by simp) rfl _ rfl
  refine qc_store rfl (wanted_none rfl) rfl Hx47.out (off := 36) (vs := [.int .i64 sb, .int .i64 mr]) (by kernel_rfl) (by intro u hu; simp at hu; rcases hu with rfl | rfl <;> rfl) (by show 36 + 2 ≤ _; rw [List.size_toArray, St.len HOA.out]; decide) h5 (by rw [show act.eval ((.tmp 27)) = _ from h0]; rfl) ?_
  intro u3_1a qc0 hm
  have qrxa : Cs u3_1a (rxa) ((St.cells { xa with sb := sb, mr := mr }) : List Value).toArray 30 := by rw [show lay _ 36 _ = ((St.cells { xa with sb := sb, mr := mr }) : List Value).toArray from lay_St HOA.out _ _] at qc0; exact qc0
  clear qc0
  have zu3_1a := hm.size
  refine ⟨hm.mono (by intro k hk h; (try dsimp only at h ⊢); (try simp only [false_or, or_false, true_and] at h ⊢); omega), (fun _ => rfl), ?_⟩
  intro u3_1 hr
  have zu3_1 := hr.size
  have Hx52 := Lib.hid (qrxa.mod hr (by intro h2; (try dsimp only at h2); (try simp only [false_or] at h2); omega))
  have hmr := hm.two hr
  have Hx53 := Lib.hid (Hx39.out.mod hmr (by intro k h1 h2; (try dsimp only at h1 h2); (try simp only [false_or] at h1 h2); rcases h1 with h1 | h1 <;> rcases h2 with h2 | h2 <;> (first | omega | (have hb := HBT.out k h1; omega) | (have hb := HBT.out k h2; omega))))
  have Hx54 := Lib.hid (Hx40.out.mod hmr (by intro h2; (try dsimp only at h2); (try simp only [false_or] at h2); omega))
  have Hx55 := Lib.hid (Hx41.out.mod hmr (by intro h2; (try dsimp only at h2); (try simp only [false_or] at h2); omega))
  have Hx56 := Lib.hid (Hx42.out.mod hmr (by intro h2; (try dsimp only at h2); (try simp only [false_or] at h2); omega))
  have Hx57 := Lib.hid (Hx43.out.mod hmr (by intro h2; (try dsimp only at h2); (try simp only [false_or] at h2); omega))
  have Hx58 := Lib.hid (Hx44.out.mod hmr (by intro h2; (try dsimp only at h2); (try simp only [false_or] at h2); omega))
  have Hx59 := Lib.hid (Hx45.out.mod hmr (by intro h2; (try dsimp only at h2); (try simp only [false_or] at h2); omega))
  have Hx60 := Lib.hid (Hx46.out.trans hmr (by intro k h1 h2; (try dsimp only at h2 ⊢); (try simp only [false_or] at h2 ⊢); omega))
  have Hx61 := Lib.hid (Hx48.out.mod hmr (by intro h2; (try dsimp only at h2); (try simp only [false_or] at h2); omega))
  have Hx62 := Lib.hid (Hx49.out.mod hmr (by intro h2; (try dsimp only at h2); (try simp only [false_or] at h2); omega))
  have Hx63 := Lib.hid (Hx50.out.mod hmr (by intro h2; (try dsimp only at h2); (try simp only [false_or] at h2); omega))
  have Hx64 := Lib.hid (Hx51.out.mod hmr (by intro h2; (try dsimp only at h2); (try simp only [false_or] at h2); omega))
  clear Hx39 Hx40 Hx41 Hx42 Hx43 Hx44 Hx45 Hx46 Hx48 Hx49 Hx50 Hx51
  clear hmr
  clear hm hr hYZ hZ hout hsz hd hpre qrxa Hx47 h0 h5
  refine QChain.cons rfl fun Z act hYZ hZ hout hsz hd hpre => ?_
  have h1 := hd ⟨1, .data⟩ (by simp) rfl _ rfl
  have h7 := hd ⟨7, .data⟩ (by simp) rfl _ rfl
  refine qc_store rfl (wanted_none rfl) rfl Hx61.out (off := 36) (vs := [.int .i64 sb, .int .i64 mr]) (by kernel_rfl) (by intro u hu; simp at hu; rcases hu with rfl | rfl <;> rfl) (by show 36 + 2 ≤ _; rw [List.size_toArray, St.len HOB.out]; decide) h7 (by rw [show act.eval ((.tmp 28)) = _ from h1]; rfl) ?_
  intro u3_2a qc0 hm
  have qrxb : Cs u3_2a (rxb) ((St.cells { xb with sb := sb, mr := mr }) : List Value).toArray 44 := by rw [show lay _ 36 _ = ((St.cells { xb with sb := sb, mr := mr }) : List Value).toArray from lay_St HOB.out _ _] at qc0; exact qc0
  clear qc0
  have zu3_2a := hm.size
  refine ⟨hm.mono (by intro k hk h; (try dsimp only at h ⊢); (try simp only [false_or, or_false, true_and] at h ⊢); omega), (fun _ => rfl), ?_⟩
  intro u3_2 hr
  have zu3_2 := hr.size
  have Hx65 := Lib.hid (qrxb.mod hr (by intro h2; (try dsimp only at h2); (try simp only [false_or] at h2); omega))
  have hmr := hm.two hr
  have Hx66 := Lib.hid (Hx53.out.mod hmr (by intro k h1 h2; (try dsimp only at h1 h2); (try simp only [false_or] at h1 h2); rcases h1 with h1 | h1 <;> rcases h2 with h2 | h2 <;> (first | omega | (have hb := HBT.out k h1; omega) | (have hb := HBT.out k h2; omega))))
  have Hx67 := Lib.hid (Hx54.out.mod hmr (by intro h2; (try dsimp only at h2); (try simp only [false_or] at h2); omega))
  have Hx68 := Lib.hid (Hx55.out.mod hmr (by intro h2; (try dsimp only at h2); (try simp only [false_or] at h2); omega))
  have Hx69 := Lib.hid (Hx56.out.mod hmr (by intro h2; (try dsimp only at h2); (try simp only [false_or] at h2); omega))
  have Hx70 := Lib.hid (Hx57.out.mod hmr (by intro h2; (try dsimp only at h2); (try simp only [false_or] at h2); omega))
  have Hx71 := Lib.hid (Hx58.out.mod hmr (by intro h2; (try dsimp only at h2); (try simp only [false_or] at h2); omega))
  have Hx72 := Lib.hid (Hx59.out.mod hmr (by intro h2; (try dsimp only at h2); (try simp only [false_or] at h2); omega))
  have Hx73 := Lib.hid (Hx60.out.trans hmr (by intro k h1 h2; (try dsimp only at h2 ⊢); (try simp only [false_or] at h2 ⊢); omega))
  have Hx74 := Lib.hid (Hx52.out.mod hmr (by intro h2; (try dsimp only at h2); (try simp only [false_or] at h2); omega))
  have Hx75 := Lib.hid (Hx62.out.mod hmr (by intro h2; (try dsimp only at h2); (try simp only [false_or] at h2); omega))
  have Hx76 := Lib.hid (Hx63.out.mod hmr (by intro h2; (try dsimp only at h2); (try simp only [false_or] at h2); omega))
  have Hx77 := Lib.hid (Hx64.out.mod hmr (by intro h2; (try dsimp only at h2); (try simp only [false_or] at h2); omega))
  clear Hx53 Hx54 Hx55 Hx56 Hx57 Hx58 Hx59 Hx60 Hx52 Hx62 Hx63 Hx64
  clear hmr
  clear hm hr hYZ hZ hout hsz hd hpre qrxb Hx61 h1 h7
  refine QChain.cons rfl fun Z act hYZ hZ hout hsz hd hpre => ?_
  have h2 := hd ⟨2, .data⟩ (by simp) rfl _ rfl
  have h9 := hd ⟨9, .data⟩ (by simp) rfl _ rfl
  refine qc_store rfl (wanted_none rfl) rfl Hx75.out (off := 4) (vs := [.int .i64 sb, .int .i64 mr]) (by kernel_rfl) (by intro u hu; simp at hu; rcases hu with rfl | rfl <;> rfl) (by show 4 + 2 ≤ 6; decide) h9 (by rw [show act.eval ((.tmp 29)) = _ from h2]; rfl) ?_
  intro u3_3a qc0 hm
  have qrxc : Cs u3_3a (rxc) ((Pm.cells { cutPm xc with sb := sb, mr := mr } (Value.slice aop (cutPm xc).l.length capp)) : List Value).toArray 55 := by rw [show lay _ 4 _ = ((Pm.cells { cutPm xc with sb := sb, mr := mr } (Value.slice aop (cutPm xc).l.length capp)) : List Value).toArray from rfl] at qc0; exact qc0
  clear qc0
  have zu3_3a := hm.size
  refine ⟨hm.mono (by intro k hk h; (try dsimp only at h ⊢); (try simp only [false_or, or_false, true_and] at h ⊢); omega), (fun _ => rfl), ?_⟩
  intro u3_3 hr
  have zu3_3 := hr.size
  have Hx78 := Lib.hid (qrxc.mod hr (by intro h2; (try dsimp only at h2); (try simp only [false_or] at h2); omega))
  have hmr := hm.two hr
  have Hx79 := Lib.hid (Hx66.out.mod hmr (by intro k h1 h2; (try dsimp only at h1 h2); (try simp only [false_or] at h1 h2); rcases h1 with h1 | h1 <;> rcases h2 with h2 | h2 <;> (first | omega | (have hb := HBT.out k h1; omega) | (have hb := HBT.out k h2; omega))))
  have Hx80 := Lib.hid (Hx67.out.mod hmr (by intro h2; (try dsimp only at h2); (try simp only [false_or] at h2); omega))
  have Hx81 := Lib.hid (Hx68.out.mod hmr (by intro h2; (try dsimp only at h2); (try simp only [false_or] at h2); omega))
  have Hx82 := Lib.hid (Hx69.out.mod hmr (by intro h2; (try dsimp only at h2); (try simp only [false_or] at h2); omega))
  have Hx83 := Lib.hid (Hx70.out.mod hmr (by intro h2; (try dsimp only at h2); (try simp only [false_or] at h2); omega))
  have Hx84 := Lib.hid (Hx71.out.mod hmr (by intro h2; (try dsimp only at h2); (try simp only [false_or] at h2); omega))
  have Hx85 := Lib.hid (Hx72.out.mod hmr (by intro h2; (try dsimp only at h2); (try simp only [false_or] at h2); omega))
  have Hx86 := Lib.hid (Hx73.out.trans hmr (by intro k h1 h2; (try dsimp only at h2 ⊢); (try simp only [false_or] at h2 ⊢); omega))
  have Hx87 := Lib.hid (Hx74.out.mod hmr (by intro h2; (try dsimp only at h2); (try simp only [false_or] at h2); omega))
  have Hx88 := Lib.hid (Hx65.out.mod hmr (by intro h2; (try dsimp only at h2); (try simp only [false_or] at h2); omega))
  have Hx89 := Lib.hid (Hx76.out.mod hmr (by intro h2; (try dsimp only at h2); (try simp only [false_or] at h2); omega))
  have Hx90 := Lib.hid (Hx77.out.mod hmr (by intro h2; (try dsimp only at h2); (try simp only [false_or] at h2); omega))
  clear Hx66 Hx67 Hx68 Hx69 Hx70 Hx71 Hx72 Hx73 Hx74 Hx65 Hx76 Hx77
  clear hmr
  clear hm hr hYZ hZ hout hsz hd hpre qrxc Hx75 h2 h9
  refine QChain.cons rfl fun Z act hYZ hZ hout hsz hd hpre => ?_
  have h3 := hd ⟨3, .data⟩ (by simp) rfl _ rfl
  have h11 := hd ⟨11, .data⟩ (by simp) rfl _ rfl
  refine qc_store rfl (wanted_none rfl) rfl Hx89.out (off := 2) (vs := [.int .i64 sb, .int .i64 mr]) (by kernel_rfl) (by intro u hu; simp at hu; rcases hu with rfl | rfl <;> rfl) (by show 2 + 2 ≤ 4; decide) h11 (by rw [show act.eval ((.tmp 30)) = _ from h3]; rfl) ?_
  intro u3_4a qc0 hm
  have qrxd : Cs u3_4a (rxd) ((Dn.cells { xd with sb := sb, mr := mr }) : List Value).toArray 34 := by rw [show lay _ 2 _ = ((Dn.cells { xd with sb := sb, mr := mr }) : List Value).toArray from rfl] at qc0; exact qc0
  clear qc0
  have zu3_4a := hm.size
  refine ⟨hm.mono (by intro k hk h; (try dsimp only at h ⊢); (try simp only [false_or, or_false, true_and] at h ⊢); omega), (fun _ => rfl), ?_⟩
  intro u3_4 hr
  have zu3_4 := hr.size
  have Hx91 := Lib.hid (qrxd.mod hr (by intro h2; (try dsimp only at h2); (try simp only [false_or] at h2); omega))
  have hmr := hm.two hr
  have Hx92 := Lib.hid (Hx79.out.mod hmr (by intro k h1 h2; (try dsimp only at h1 h2); (try simp only [false_or] at h1 h2); rcases h1 with h1 | h1 <;> rcases h2 with h2 | h2 <;> (first | omega | (have hb := HBT.out k h1; omega) | (have hb := HBT.out k h2; omega))))
  have Hx93 := Lib.hid (Hx80.out.mod hmr (by intro h2; (try dsimp only at h2); (try simp only [false_or] at h2); omega))
  have Hx94 := Lib.hid (Hx81.out.mod hmr (by intro h2; (try dsimp only at h2); (try simp only [false_or] at h2); omega))
  have Hx95 := Lib.hid (Hx82.out.mod hmr (by intro h2; (try dsimp only at h2); (try simp only [false_or] at h2); omega))
  have Hx96 := Lib.hid (Hx83.out.mod hmr (by intro h2; (try dsimp only at h2); (try simp only [false_or] at h2); omega))
  have Hx97 := Lib.hid (Hx84.out.mod hmr (by intro h2; (try dsimp only at h2); (try simp only [false_or] at h2); omega))
  have Hx98 := Lib.hid (Hx85.out.mod hmr (by intro h2; (try dsimp only at h2); (try simp only [false_or] at h2); omega))
  have Hx99 := Lib.hid (Hx86.out.trans hmr (by intro k h1 h2; (try dsimp only at h2 ⊢); (try simp only [false_or] at h2 ⊢); omega))
  have Hx100 := Lib.hid (Hx87.out.mod hmr (by intro h2; (try dsimp only at h2); (try simp only [false_or] at h2); omega))
  have Hx101 := Lib.hid (Hx88.out.mod hmr (by intro h2; (try dsimp only at h2); (try simp only [false_or] at h2); omega))
  have Hx102 := Lib.hid (Hx78.out.mod hmr (by intro h2; (try dsimp only at h2); (try simp only [false_or] at h2); omega))
  have Hx103 := Lib.hid (Hx90.out.mod hmr (by intro h2; (try dsimp only at h2); (try simp only [false_or] at h2); omega))
  clear Hx79 Hx80 Hx81 Hx82 Hx83 Hx84 Hx85 Hx86 Hx87 Hx88 Hx78 Hx90
  clear hmr
  clear hm hr hYZ hZ hout hsz hd hpre qrxd Hx89 h3 h11
  refine QChain.cons rfl fun Z act hYZ hZ hout hsz hd hpre => ?_
  have h4 := hd ⟨4, .data⟩ (by simp) rfl _ rfl
  have h13 := hd ⟨13, .data⟩ (by simp) rfl _ rfl
  refine qc_store rfl (wanted_none rfl) rfl Hx103.out (off := 36) (vs := [.int .i64 sb, .int .i64 mr]) (by kernel_rfl) (by intro u hu; simp at hu; rcases hu with rfl | rfl <;> rfl) (by show 36 + 2 ≤ _; rw [List.size_toArray, Vt.len HOV.out]; decide) h13 (by rw [show act.eval ((.tmp 31)) = _ from h4]; rfl) ?_
  intro u3_5a qc0 hm
  have qrxv : Cs u3_5a (rxv) ((Vt.cells { xv with sb := sb, mr := mr }) : List Value).toArray 32 := by rw [show lay _ 36 _ = ((Vt.cells { xv with sb := sb, mr := mr }) : List Value).toArray from lay_Vt HOV.out _ _] at qc0; exact qc0
  clear qc0
  have zu3_5a := hm.size
  refine ⟨hm.mono (by intro k hk h; (try dsimp only at h ⊢); (try simp only [false_or, or_false, true_and] at h ⊢); omega), (fun _ => rfl), ?_⟩
  intro u3_5 hr
  have zu3_5 := hr.size
  have Hx104 := Lib.hid (qrxv.mod hr (by intro h2; (try dsimp only at h2); (try simp only [false_or] at h2); omega))
  have hmr := hm.two hr
  have Hx105 := Lib.hid (Hx92.out.mod hmr (by intro k h1 h2; (try dsimp only at h1 h2); (try simp only [false_or] at h1 h2); rcases h1 with h1 | h1 <;> rcases h2 with h2 | h2 <;> (first | omega | (have hb := HBT.out k h1; omega) | (have hb := HBT.out k h2; omega))))
  have Hx106 := Lib.hid (Hx93.out.mod hmr (by intro h2; (try dsimp only at h2); (try simp only [false_or] at h2); omega))
  have Hx107 := Lib.hid (Hx94.out.mod hmr (by intro h2; (try dsimp only at h2); (try simp only [false_or] at h2); omega))
  have Hx108 := Lib.hid (Hx95.out.mod hmr (by intro h2; (try dsimp only at h2); (try simp only [false_or] at h2); omega))
  have Hx109 := Lib.hid (Hx96.out.mod hmr (by intro h2; (try dsimp only at h2); (try simp only [false_or] at h2); omega))
  have Hx110 := Lib.hid (Hx97.out.mod hmr (by intro h2; (try dsimp only at h2); (try simp only [false_or] at h2); omega))
  have Hx111 := Lib.hid (Hx98.out.mod hmr (by intro h2; (try dsimp only at h2); (try simp only [false_or] at h2); omega))
  have Hx112 := Lib.hid (Hx99.out.trans hmr (by intro k h1 h2; (try dsimp only at h2 ⊢); (try simp only [false_or] at h2 ⊢); omega))
  have Hx113 := Lib.hid (Hx100.out.mod hmr (by intro h2; (try dsimp only at h2); (try simp only [false_or] at h2); omega))
  have Hx114 := Lib.hid (Hx101.out.mod hmr (by intro h2; (try dsimp only at h2); (try simp only [false_or] at h2); omega))
  have Hx115 := Lib.hid (Hx102.out.mod hmr (by intro h2; (try dsimp only at h2); (try simp only [false_or] at h2); omega))
  have Hx116 := Lib.hid (Hx91.out.mod hmr (by intro h2; (try dsimp only at h2); (try simp only [false_or] at h2); omega))
  clear Hx92 Hx93 Hx94 Hx95 Hx96 Hx97 Hx98 Hx99 Hx100 Hx101 Hx102 Hx91
  clear hmr
  clear hm hr hYZ hZ hout hsz hd hpre qrxv Hx103 h4 h13
  refine QChain.nil fun vs hl hzz hrows hne => ?_
  obtain ⟨Z, hYZ, hZb, hV⟩ := hzz
  obtain ⟨v0, vs0, rfl, hl0⟩ := list_cons hl
  obtain ⟨v1, vs1, rfl, hl1⟩ := list_cons hl0
  obtain ⟨v2, vs2, rfl, hl2⟩ := list_cons hl1
  obtain ⟨v3, vs3, rfl, hl3⟩ := list_cons hl2
  obtain ⟨v4, vs4, rfl, hl4⟩ := list_cons hl3
  obtain ⟨v5, vs5, rfl, hl5⟩ := list_cons hl4
  obtain ⟨v6, vs6, rfl, hl6⟩ := list_cons hl5
  obtain ⟨v7, vs7, rfl, hl7⟩ := list_cons hl6
  obtain ⟨v8, vs8, rfl, hl8⟩ := list_cons hl7
  obtain ⟨v9, vs9, rfl, hl9⟩ := list_cons hl8
  obtain ⟨v10, vs10, rfl, hl10⟩ := list_cons hl9
  obtain ⟨v11, vs11, rfl, hl11⟩ := list_cons hl10
  obtain ⟨v12, vs12, rfl, hl12⟩ := list_cons hl11
  obtain ⟨v13, vs13, rfl, hl13⟩ := list_cons hl12
  obtain ⟨v14, vs14, rfl, hl14⟩ := list_cons hl13
  obtain rfl := list_nil hl14
  clear hl hl0 hl1 hl2 hl3 hl4 hl5 hl6 hl7 hl8 hl9 hl10 hl11 hl12 hl13 hl14
  have ha0 := HA0.out
  subst ha0
  clear HA0 hV hYZ hZb hsz0 hrows hne oe11 oe13 oe14 oe15 oe16 oe17
  simp only [putAll, Act.put, List.setIfInBounds_toArray, List.set_cons_zero, List.set_cons_succ, List.set_nil]
  go_upto_region 4 with (fail)
  generalize ha0 : Act.mk _ _ = a0
  have hsz0 : a0.tmps.size = 85 := by rw [← ha0]; rfl
  have HA0 := Lib.hid ha0
  clear ha0
  refine wp_region_Q 85 hsz0 (by kernel_rfl) (by kernel_rfl) [37, 38, 18, 88] (by kernel_rfl) (by decide) (fun _ => False) (fun _ _ => False) (fun _ _ h => h) [qi (.agg #[.int .i64 0, .int .u64 (3 : Nat), .slice none 0 0, .slice none 0 0, .slice none 0 0]), qi (.agg #[.int .i64 1, .int .i64 0, .int .i64 0, .int .i64 0, .int .i64 0, .int .u64 (3 : Nat), .slice none 0 0, .slice none 0 0, .slice none 0 0, .int .i64 0, .int .i64 0]), qa, qa] ⟨qi_stable, qi_stable, qa_stable, qa_stable, trivial⟩ [] (by kernel_rfl) (by decide) (by kernel_rfl) [⟨2, 3, 107, [.int .i64 0, .int .i64 0, .int .i64 0, .int .i64 0, .int .i64 0, .int .u64 0, .slice none 0 0, .slice none 0 0, .slice none 0 0, .int .i64 0, .int .i64 0], 0, (fun t => [.int .i64 1, .int .i64 0, .int .i64 0, .int .i64 0, .int .i64 0, .int .u64 (3 : Nat), .slice none 0 0, .slice none 0 0, .slice none 0 0, .int .i64 0, .int .i64 0])⟩] (by kernel_rfl) (by intro r hr; simp only [List.mem_cons, List.not_mem_nil, or_false] at hr; rcases hr with rfl <;> exact ⟨by kernel_rfl, by kernel_rfl⟩) (by intro r hr; simp only [List.mem_cons, List.not_mem_nil, or_false] at hr; rcases hr with rfl <;> exact ⟨of_decide_eq_true (by kernel_rfl), of_decide_eq_true (by kernel_rfl)⟩) (by intro r hr; simp only [List.mem_cons, List.not_mem_nil, or_false] at hr; rcases hr with rfl <;> exact fun _ _ _ _ => ⟨trivial, trivial⟩) ⟨?_, ?_, ?_, ?_, trivial⟩ ?_
  · refine stepq_env rfl rfl rfl fun Z tr act w' hZ hm hm0 hout hsz hd hub hpre => ?_
    refine qe_run rfl (wanted_none rfl) (ex_build rfl (z := [.int .i64 0, .int .u64 0, .slice none 0 0, .slice none 0 0, .slice none 0 0]) (places := [(0, 1), (1, 1), (2, 1), (3, 1), (4, 1)]) (by kernel_rfl) (parts := [(1, .int .u64 3)]) (by simp only [List.map_toArray, List.map_cons, List.map_nil]; try rfl) (r := [.int .i64 0, .int .u64 (3 : Nat), .slice none 0 0, .slice none 0 0, .slice none 0 0]) (by rfl)) QE.refl ?_
    rfl
  · refine stepq_env rfl rfl rfl fun Z tr act w' hZ hm hm0 hout hsz hd hub hpre => ?_
    have h0 := hd ⟨0, .data⟩ (by simp) rfl _ rfl
    refine qe_run rfl (wanted_none rfl) (ex_build rfl (z := [.int .i64 0, .int .i64 0, .int .i64 0, .int .i64 0, .int .i64 0, .int .u64 0, .slice none 0 0, .slice none 0 0, .slice none 0 0, .int .i64 0, .int .i64 0]) (places := [(0, 1), (1, 1), (2, 1), (3, 1), (4, 5), (9, 2)]) (by kernel_rfl) (parts := [(0, .int .i64 1), (4, .agg #[.int .i64 0, .int .u64 (3 : Nat), .slice none 0 0, .slice none 0 0, .slice none 0 0])]) (by simp only [List.map_toArray, List.map_cons, List.map_nil, show act.eval (.tmp 37) = _ from h0]; try rfl) (r := [.int .i64 1, .int .i64 0, .int .i64 0, .int .i64 0, .int .i64 0, .int .u64 (3 : Nat), .slice none 0 0, .slice none 0 0, .slice none 0 0, .int .i64 0, .int .i64 0]) (by rfl)) QE.refl ?_
    rfl
  · exact stepq_make rfl rfl ⟨rfl, rfl, by kernel_rfl, by kernel_rfl⟩
  · refine stepq_write rfl rfl rfl ⟨rfl, 18, (.tmp 38), rfl, by decide, rfl, by kernel_rfl, fun Z tr act w' hm hout hsz hd hpre => ?_⟩
    have h1 := hd ⟨1, .data⟩ (by simp) rfl _ rfl
    exact ⟨Nat.zero_le _, (by rw [show act.eval ((.tmp 38)) = _ from h1]; rfl), rfl, (by simp [Value.oneCell'])⟩
  intro u4_0 hr
  have zu4_0 := hr.size
  have Hx117 := Lib.hid (Hx105.out.mod hr (by intro k h1 h2; (try dsimp only at h1 h2); (try simp only [false_or] at h1 h2); rcases h1 with h1 | h1 <;> (first | omega | (have hb := HBT.out k h1; omega) | (have hb := HBT.out k h2; omega))))
  have Hx118 := Lib.hid (Hx106.out.mod hr (by intro h2; (try dsimp only at h2); (try simp only [false_or] at h2); omega))
  have Hx119 := Lib.hid (Hx107.out.mod hr (by intro h2; (try dsimp only at h2); (try simp only [false_or] at h2); omega))
  have Hx120 := Lib.hid (Hx108.out.mod hr (by intro h2; (try dsimp only at h2); (try simp only [false_or] at h2); omega))
  have Hx121 := Lib.hid (Hx109.out.mod hr (by intro h2; (try dsimp only at h2); (try simp only [false_or] at h2); omega))
  have Hx122 := Lib.hid (Hx110.out.mod hr (by intro h2; (try dsimp only at h2); (try simp only [false_or] at h2); omega))
  have Hx123 := Lib.hid (Hx111.out.mod hr (by intro h2; (try dsimp only at h2); (try simp only [false_or] at h2); omega))
  have Hx124 := Lib.hid (Hx112.out.trans hr (by intro k h1 h2; (try dsimp only at h2 ⊢); (try simp only [false_or] at h2 ⊢); omega))
  have Hx125 := Lib.hid (Hx113.out.mod hr (by intro h2; (try dsimp only at h2); (try simp only [false_or] at h2); omega))
  have Hx126 := Lib.hid (Hx114.out.mod hr (by intro h2; (try dsimp only at h2); (try simp only [false_or] at h2); omega))
  have Hx127 := Lib.hid (Hx115.out.mod hr (by intro h2; (try dsimp only at h2); (try simp only [false_or] at h2); omega))
  have Hx128 := Lib.hid (Hx116.out.mod hr (by intro h2; (try dsimp only at h2); (try simp only [false_or] at h2); omega))
  have Hx129 := Lib.hid (Hx104.out.mod hr (by intro h2; (try dsimp only at h2); (try simp only [false_or] at h2); omega))
  clear Hx105 Hx106 Hx107 Hx108 Hx109 Hx110 Hx111 Hx112 Hx113 Hx114 Hx115 Hx116 Hx104
  clear hr
  refine QChain.nil fun vs hl hzz hrows hne => ?_
  obtain ⟨Z, hYZ, hZb, hV⟩ := hzz
  obtain ⟨v0, vs0, rfl, hl0⟩ := list_cons hl
  obtain ⟨v1, vs1, rfl, hl1⟩ := list_cons hl0
  obtain ⟨v2, vs2, rfl, hl2⟩ := list_cons hl1
  obtain ⟨v3, vs3, rfl, hl3⟩ := list_cons hl2
  obtain rfl := list_nil hl3
  clear hl hl0 hl1 hl2 hl3
  obtain ⟨rp, frp, hBrp, hYrp, hCrp⟩ := hrows _ (by simp only [List.mem_cons, List.not_mem_nil, or_false]; trivial)
  obtain rfl : v2 = _ := Option.some.inj frp
  (try dsimp only at hBrp hYrp); (try simp only [false_or] at hBrp hYrp)
  have zqrp := hCrp.lt
  have Hx130 := Lib.hid (show Cs u4_0 rp #[.int .i64 1, .int .i64 0, .int .i64 0, .int .i64 0, .int .i64 0, .int .u64 (3 : Nat), .slice none 0 0, .slice none 0 0, .slice none 0 0, .int .i64 0, .int .i64 0] 107 from hCrp)
  clear hCrp frp
  have ha0 := HA0.out
  subst ha0
  clear HA0 hV hYZ hZb hsz0 hrows hne
  simp only [putAll, Act.put, List.setIfInBounds_toArray, List.set_cons_zero, List.set_cons_succ, List.set_nil]
  go_upto_region 5 with (fail)
  generalize ha0 : Act.mk _ _ = a0
  have oe18 : a0.eval (.tmp 18) = .pointer (some ⟨rp, 0, none⟩) := by rw [← ha0]; rfl
  have hsz0 : a0.tmps.size = 85 := by rw [← ha0]; rfl
  have HA0 := Lib.hid ha0
  clear ha0
  refine wp_region_Q 85 hsz0 (by kernel_rfl) (by kernel_rfl) [39, 19, 87] (by kernel_rfl) (by decide) (fun _ => False) (fun _ _ => False) (fun _ _ h => h) [qi (.agg ([.int .i64 1, .int .i64 0, .int .i64 0, .int .i64 0, .int .i64 0, .int .u64 (3 : Nat), .slice none 0 0, .slice none 0 0, .slice none 0 0, .int .i64 0, .int .i64 0]).toArray), qa, qa] ⟨qi_stable, qa_stable, qa_stable, trivial⟩ [] (by kernel_rfl) (by decide) (by kernel_rfl) [⟨1, 2, 107, [.int .i64 0, .int .i64 0, .int .i64 0, .int .i64 0, .int .i64 0, .int .u64 0, .slice none 0 0, .slice none 0 0, .slice none 0 0, .int .i64 0, .int .i64 0], 0, (fun t => [.int .i64 1, .int .i64 0, .int .i64 0, .int .i64 0, .int .i64 0, .int .u64 (3 : Nat), .slice none 0 0, .slice none 0 0, .slice none 0 0, .int .i64 0, .int .i64 0])⟩] (by kernel_rfl) (by intro r hr; simp only [List.mem_cons, List.not_mem_nil, or_false] at hr; rcases hr with rfl <;> exact ⟨by kernel_rfl, by kernel_rfl⟩) (by intro r hr; simp only [List.mem_cons, List.not_mem_nil, or_false] at hr; rcases hr with rfl <;> exact ⟨of_decide_eq_true (by kernel_rfl), of_decide_eq_true (by kernel_rfl)⟩) (by intro r hr; simp only [List.mem_cons, List.not_mem_nil, or_false] at hr; rcases hr with rfl <;> exact fun _ _ _ _ => ⟨trivial, trivial⟩) ⟨?_, ?_, ?_, trivial⟩ ?_
  · refine stepq_env rfl rfl rfl fun Z tr act w' hZ hm hm0 hout hsz hd hub hpre => ?_
    refine qe_run rfl (wanted_none rfl) (ex_loadA rfl Try.underlying107 rfl (off := 0) (cs := ([.int .i64 1, .int .i64 0, .int .i64 0, .int .i64 0, .int .i64 0, .int .u64 (3 : Nat), .slice none 0 0, .slice none 0 0, .slice none 0 0, .int .i64 0, .int .i64 0])) (by kernel_rfl) ((hout 18 (by decide)).trans oe18) (Cs.whole (Hx130.out.mod (Mod.mono (S' := fun k => u4_0.heap.size ≤ k) hm (fun _ _ h => h.elim (fun h => h.2.elim) (fun h => h))) (by intro h2; (try dsimp only at h2); (try simp only [false_or] at h2); omega)))) QE.refl ?_
    rfl
  · exact stepq_make rfl rfl ⟨rfl, rfl, by kernel_rfl, by kernel_rfl⟩
  · refine stepq_write rfl rfl rfl ⟨rfl, 19, (.tmp 39), rfl, by decide, rfl, by kernel_rfl, fun Z tr act w' hm hout hsz hd hpre => ?_⟩
    have h0 := hd ⟨0, .data⟩ (by simp) rfl _ rfl
    exact ⟨Nat.zero_le _, (by rw [show act.eval ((.tmp 39)) = _ from h0]; rfl), rfl, (by simp [Value.oneCell'])⟩
  intro u5_0 hr
  have zu5_0 := hr.size
  have Hx131 := Lib.hid (Hx117.out.mod hr (by intro k h1 h2; (try dsimp only at h1 h2); (try simp only [false_or] at h1 h2); rcases h1 with h1 | h1 <;> (first | omega | (have hb := HBT.out k h1; omega) | (have hb := HBT.out k h2; omega))))
  have Hx132 := Lib.hid (Hx118.out.mod hr (by intro h2; (try dsimp only at h2); (try simp only [false_or] at h2); omega))
  have Hx133 := Lib.hid (Hx119.out.mod hr (by intro h2; (try dsimp only at h2); (try simp only [false_or] at h2); omega))
  have Hx134 := Lib.hid (Hx120.out.mod hr (by intro h2; (try dsimp only at h2); (try simp only [false_or] at h2); omega))
  have Hx135 := Lib.hid (Hx121.out.mod hr (by intro h2; (try dsimp only at h2); (try simp only [false_or] at h2); omega))
  have Hx136 := Lib.hid (Hx122.out.mod hr (by intro h2; (try dsimp only at h2); (try simp only [false_or] at h2); omega))
  have Hx137 := Lib.hid (Hx123.out.mod hr (by intro h2; (try dsimp only at h2); (try simp only [false_or] at h2); omega))
  have Hx138 := Lib.hid (Hx124.out.trans hr (by intro k h1 h2; (try dsimp only at h2 ⊢); (try simp only [false_or] at h2 ⊢); omega))
  have Hx139 := Lib.hid (Hx125.out.mod hr (by intro h2; (try dsimp only at h2); (try simp only [false_or] at h2); omega))
  have Hx140 := Lib.hid (Hx126.out.mod hr (by intro h2; (try dsimp only at h2); (try simp only [false_or] at h2); omega))
  have Hx141 := Lib.hid (Hx127.out.mod hr (by intro h2; (try dsimp only at h2); (try simp only [false_or] at h2); omega))
  have Hx142 := Lib.hid (Hx128.out.mod hr (by intro h2; (try dsimp only at h2); (try simp only [false_or] at h2); omega))
  have Hx143 := Lib.hid (Hx129.out.mod hr (by intro h2; (try dsimp only at h2); (try simp only [false_or] at h2); omega))
  have Hx144 := Lib.hid (Hx130.out.mod hr (by intro h2; (try dsimp only at h2); (try simp only [false_or] at h2); omega))
  clear Hx117 Hx118 Hx119 Hx120 Hx121 Hx122 Hx123 Hx124 Hx125 Hx126 Hx127 Hx128 Hx129 Hx130
  clear hr
  refine QChain.nil fun vs hl hzz hrows hne => ?_
  obtain ⟨Z, hYZ, hZb, hV⟩ := hzz
  obtain ⟨v0, vs0, rfl, hl0⟩ := list_cons hl
  obtain ⟨v1, vs1, rfl, hl1⟩ := list_cons hl0
  obtain ⟨v2, vs2, rfl, hl2⟩ := list_cons hl1
  obtain rfl := list_nil hl2
  clear hl hl0 hl1 hl2
  obtain ⟨rq, frq, hBrq, hYrq, hCrq⟩ := hrows _ (by simp only [List.mem_cons, List.not_mem_nil, or_false]; trivial)
  obtain rfl : v1 = _ := Option.some.inj frq
  (try dsimp only at hBrq hYrq); (try simp only [false_or] at hBrq hYrq)
  have zqrq := hCrq.lt
  have Hx145 := Lib.hid (show Cs u5_0 rq #[.int .i64 1, .int .i64 0, .int .i64 0, .int .i64 0, .int .i64 0, .int .u64 (3 : Nat), .slice none 0 0, .slice none 0 0, .slice none 0 0, .int .i64 0, .int .i64 0] 107 from hCrq)
  clear hCrq frq
  have ha0 := HA0.out
  subst ha0
  clear HA0 hV hYZ hZb hsz0 hrows hne oe18
  simp only [putAll, Act.put, List.setIfInBounds_toArray, List.set_cons_zero, List.set_cons_succ, List.set_nil]
  go_upto_region 6 with (fail)
  generalize ha0 : Act.mk _ _ = a0
  have oe11 : a0.eval (.tmp 11) = .pointer (some ⟨w.heap.size + 5, 0, none⟩) := by rw [← ha0]; rfl
  have oe19 : a0.eval (.tmp 19) = .pointer (some ⟨rq, 0, none⟩) := by rw [← ha0]; rfl
  have hsz0 : a0.tmps.size = 85 := by rw [← ha0]; rfl
  have HA0 := Lib.hid ha0
  clear ha0
  refine wp_region_Q 85 hsz0 (by kernel_rfl) (by kernel_rfl) [40, 41, 87] (by kernel_rfl) (by decide) (fun k => (k = rq)) (fun k j => (k = 0 ∧ ((j = rq)))) (by intro k j h; (try dsimp only at h ⊢); omega) [qi (.agg #[.int .i64 sb, .int .i64 mr]), qi (.pointer (some ⟨rq, 9, none⟩)), qv 0] ⟨qi_stable, qi_stable, qv_stable, trivial⟩ [2] (by kernel_rfl) (by decide) (by kernel_rfl) [] (by kernel_rfl) (by intro r hr; cases hr) (by intro r hr; cases hr) (by intro r hr; cases hr) ⟨?_, ?_, ?_, trivial⟩ ?_
  · refine stepq_env rfl rfl rfl fun Z tr act w' hZ hm hm0 hout hsz hd hub hpre => ?_
    refine qe_run rfl (wanted_none rfl) (ex_loadA rfl Try.underlying28 rfl (off := 0) (cs := [.int .i64 sb, .int .i64 mr]) (by kernel_rfl) ((hout 11 (by decide)).trans oe11) (Cs.whole (Hx137.out.mod hm (by intro h2; (try dsimp only at h2); (try simp only [false_or] at h2); omega)))) QE.refl ?_
    rfl
  · refine stepq_env rfl rfl rfl fun Z tr act w' hZ hm hm0 hout hsz hd hub hpre => ?_
    refine qe_run rfl (wanted_none rfl) (ex_field rfl Try.underlying107 rfl (by kernel_rfl) ((hout 19 (by decide)).trans oe19)) QE.refl ?_
    rfl
  · exact stepq_chain rfl
  intro u6_0 hr
  have zu6_0 := hr.size
  have Hx146 := Lib.hid (Hx131.out.mod hr (by intro k h1 h2; (try dsimp only at h1 h2); (try simp only [false_or] at h1 h2); rcases h1 with h1 | h1 <;> (first | omega | (have hb := HBT.out k h1; omega) | (have hb := HBT.out k h2; omega))))
  have Hx147 := Lib.hid (Hx132.out.mod hr (by intro h2; (try dsimp only at h2); (try simp only [false_or] at h2); omega))
  have Hx148 := Lib.hid (Hx133.out.mod hr (by intro h2; (try dsimp only at h2); (try simp only [false_or] at h2); omega))
  have Hx149 := Lib.hid (Hx134.out.mod hr (by intro h2; (try dsimp only at h2); (try simp only [false_or] at h2); omega))
  have Hx150 := Lib.hid (Hx135.out.mod hr (by intro h2; (try dsimp only at h2); (try simp only [false_or] at h2); omega))
  have Hx151 := Lib.hid (Hx136.out.mod hr (by intro h2; (try dsimp only at h2); (try simp only [false_or] at h2); omega))
  have Hx152 := Lib.hid (Hx137.out.mod hr (by intro h2; (try dsimp only at h2); (try simp only [false_or] at h2); omega))
  have Hx153 := Lib.hid (Hx138.out.trans hr (by intro k h1 h2; (try dsimp only at h2 ⊢); (try simp only [false_or] at h2 ⊢); omega))
  have Hx154 := Lib.hid (Hx139.out.mod hr (by intro h2; (try dsimp only at h2); (try simp only [false_or] at h2); omega))
  have Hx155 := Lib.hid (Hx140.out.mod hr (by intro h2; (try dsimp only at h2); (try simp only [false_or] at h2); omega))
  have Hx156 := Lib.hid (Hx141.out.mod hr (by intro h2; (try dsimp only at h2); (try simp only [false_or] at h2); omega))
  have Hx157 := Lib.hid (Hx142.out.mod hr (by intro h2; (try dsimp only at h2); (try simp only [false_or] at h2); omega))
  have Hx158 := Lib.hid (Hx143.out.mod hr (by intro h2; (try dsimp only at h2); (try simp only [false_or] at h2); omega))
  have Hx159 := Lib.hid (Hx144.out.mod hr (by intro h2; (try dsimp only at h2); (try simp only [false_or] at h2); omega))
  have Hx160 := Lib.hid (Hx145.out.mod hr (by intro h2; (try dsimp only at h2); (try simp only [false_or] at h2); omega))
  clear Hx131 Hx132 Hx133 Hx134 Hx135 Hx136 Hx137 Hx138 Hx139 Hx140 Hx141 Hx142 Hx143 Hx144 Hx145
  clear hr
  refine QChain.cons rfl fun Z act hYZ hZ hout hsz hd hpre => ?_
  have h0 := hd ⟨0, .data⟩ (by simp) rfl _ rfl
  have h1 := hd ⟨1, .data⟩ (by simp) rfl _ rfl
  refine qc_store rfl (wanted_none rfl) rfl Hx160.out (off := 9) (vs := [.int .i64 sb, .int .i64 mr]) (by kernel_rfl) (by intro u hu; simp at hu; rcases hu with rfl | rfl <;> rfl) (by simp) h1 (by rw [show act.eval ((.tmp 40)) = _ from h0]; rfl) ?_
  intro u6_1a qc0 hm
  have qrq : Cs u6_1a (rq) #[.int .i64 1, .int .i64 0, .int .i64 0, .int .i64 0, .int .i64 0, .int .u64 (3 : Nat), .slice none 0 0, .slice none 0 0, .slice none 0 0, .int .i64 sb, .int .i64 mr] 107 := by rw [show lay _ 9 _ = #[.int .i64 1, .int .i64 0, .int .i64 0, .int .i64 0, .int .i64 0, .int .u64 (3 : Nat), .slice none 0 0, .slice none 0 0, .slice none 0 0, .int .i64 sb, .int .i64 mr] from rfl] at qc0; exact qc0
  clear qc0
  have zu6_1a := hm.size
  refine ⟨hm.mono (by intro k hk h; (try dsimp only at h ⊢); (try simp only [false_or, or_false, true_and] at h ⊢); omega), (fun _ => rfl), ?_⟩
  intro u6_1 hr
  have zu6_1 := hr.size
  have Hx161 := Lib.hid (qrq.mod hr (by intro h2; (try dsimp only at h2); (try simp only [false_or] at h2); omega))
  have hmr := hm.two hr
  have Hx162 := Lib.hid (Hx146.out.mod hmr (by intro k h1 h2; (try dsimp only at h1 h2); (try simp only [false_or] at h1 h2); rcases h1 with h1 | h1 <;> rcases h2 with h2 | h2 <;> (first | omega | (have hb := HBT.out k h1; omega) | (have hb := HBT.out k h2; omega))))
  have Hx163 := Lib.hid (Hx147.out.mod hmr (by intro h2; (try dsimp only at h2); (try simp only [false_or] at h2); omega))
  have Hx164 := Lib.hid (Hx148.out.mod hmr (by intro h2; (try dsimp only at h2); (try simp only [false_or] at h2); omega))
  have Hx165 := Lib.hid (Hx149.out.mod hmr (by intro h2; (try dsimp only at h2); (try simp only [false_or] at h2); omega))
  have Hx166 := Lib.hid (Hx150.out.mod hmr (by intro h2; (try dsimp only at h2); (try simp only [false_or] at h2); omega))
  have Hx167 := Lib.hid (Hx151.out.mod hmr (by intro h2; (try dsimp only at h2); (try simp only [false_or] at h2); omega))
  have Hx168 := Lib.hid (Hx152.out.mod hmr (by intro h2; (try dsimp only at h2); (try simp only [false_or] at h2); omega))
  have Hx169 := Lib.hid (Hx153.out.trans hmr (by intro k h1 h2; (try dsimp only at h2 ⊢); (try simp only [false_or] at h2 ⊢); omega))
  have Hx170 := Lib.hid (Hx154.out.mod hmr (by intro h2; (try dsimp only at h2); (try simp only [false_or] at h2); omega))
  have Hx171 := Lib.hid (Hx155.out.mod hmr (by intro h2; (try dsimp only at h2); (try simp only [false_or] at h2); omega))
  have Hx172 := Lib.hid (Hx156.out.mod hmr (by intro h2; (try dsimp only at h2); (try simp only [false_or] at h2); omega))
  have Hx173 := Lib.hid (Hx157.out.mod hmr (by intro h2; (try dsimp only at h2); (try simp only [false_or] at h2); omega))
  have Hx174 := Lib.hid (Hx158.out.mod hmr (by intro h2; (try dsimp only at h2); (try simp only [false_or] at h2); omega))
  have Hx175 := Lib.hid (Hx159.out.mod hmr (by intro h2; (try dsimp only at h2); (try simp only [false_or] at h2); omega))
  clear Hx146 Hx147 Hx148 Hx149 Hx150 Hx151 Hx152 Hx153 Hx154 Hx155 Hx156 Hx157 Hx158 Hx159
  clear hmr
  clear hm hr hYZ hZ hout hsz hd hpre qrq Hx160 h0 h1
  refine QChain.nil fun vs hl hzz hrows hne => ?_
  obtain ⟨Z, hYZ, hZb, hV⟩ := hzz
  obtain ⟨v0, vs0, rfl, hl0⟩ := list_cons hl
  obtain ⟨v1, vs1, rfl, hl1⟩ := list_cons hl0
  obtain ⟨v2, vs2, rfl, hl2⟩ := list_cons hl1
  obtain rfl := list_nil hl2
  clear hl hl0 hl1 hl2
  have ha0 := HA0.out
  subst ha0
  clear HA0 hV hYZ hZb hsz0 hrows hne oe11 oe19
  simp only [putAll, Act.put, List.setIfInBounds_toArray, List.set_cons_zero, List.set_cons_succ, List.set_nil]
  have HPL := Lib.hid (promT_len (x := xc) ⟨_, rfl, HOP.out, Hx162.out⟩)
  go_upto_region 7 with (fail)
  generalize ha0 : Act.mk _ _ = a0
  have oe6 : a0.eval (.tmp 6) = .pointer (some ⟨w.heap.size, 0, none⟩) := by rw [← ha0]; rfl
  have oe7 : a0.eval (.tmp 7) = .pointer (some ⟨w.heap.size + 1, 0, none⟩) := by rw [← ha0]; rfl
  have oe8 : a0.eval (.tmp 8) = .pointer (some ⟨w.heap.size + 2, 0, none⟩) := by rw [← ha0]; rfl
  have oe9 : a0.eval (.tmp 9) = .pointer (some ⟨w.heap.size + 3, 0, none⟩) := by rw [← ha0]; rfl
  have oe10 : a0.eval (.tmp 10) = .pointer (some ⟨w.heap.size + 4, 0, none⟩) := by rw [← ha0]; rfl
  have oe13 : a0.eval (.tmp 13) = .pointer (some ⟨rxa, 0, none⟩) := by rw [← ha0]; rfl
  have oe14 : a0.eval (.tmp 14) = .pointer (some ⟨rxb, 0, none⟩) := by rw [← ha0]; rfl
  have oe15 : a0.eval (.tmp 15) = .pointer (some ⟨rxc, 0, none⟩) := by rw [← ha0]; rfl
  have oe16 : a0.eval (.tmp 16) = .pointer (some ⟨rxd, 0, none⟩) := by rw [← ha0]; rfl
  have oe17 : a0.eval (.tmp 17) = .pointer (some ⟨rxv, 0, none⟩) := by rw [← ha0]; rfl
  have oe18 : a0.eval (.tmp 18) = .pointer (some ⟨rp, 0, none⟩) := by rw [← ha0]; rfl
  have oe19 : a0.eval (.tmp 19) = .pointer (some ⟨rq, 0, none⟩) := by rw [← ha0]; rfl
  have hsz0 : a0.tmps.size = 85 := by rw [← ha0]; rfl
  have HA0 := Lib.hid ha0
  clear ha0
  refine wp_region_Q 85 hsz0 (by kernel_rfl) (by kernel_rfl) [42, 43, 44, 45, 46, 47, 48, 49, 50, 51, 52, 53, 54, 55, 56, 57, 58, 59, 60, 61, 62, 63, 64, 65, 66, 67, 68, 69, 70, 71, 72, 73, 74, 75, 76, 77, 78, 79, 80, 81, 82, 83, 84, 12] (by kernel_rfl) (by decide) (fun _ => False) (fun _ _ => False) (fun _ _ h => h) [qi (.agg (xa.cells).toArray), qv 0, qi (.agg (St.cells { xa with sb := sb, mr := mr }).toArray), qv 1, qi (.bool true), qi (.bool true), qi (.agg (xb.cells).toArray), qv 3, qi (.agg (St.cells { xb with sb := sb, mr := mr }).toArray), qv 4, qi (.bool true), qi (.bool true), qi (.bool true), qi (.agg ((cutPm xc).cells (Value.slice aop (cutPm xc).l.length capp)).toArray), qv 6, qi (.agg (Pm.cells { cutPm xc with sb := sb, mr := mr } (Value.slice aop (cutPm xc).l.length capp)).toArray), qv 7, qi (.bool true), qi (.bool true), qi (.bool true), qi (.agg (xd.cells).toArray), qv 9, qi (.agg (Dn.cells { xd with sb := sb, mr := mr }).toArray), qv 10, qi (.bool true), qi (.bool true), qi (.bool true), qi (.agg (xv.cells).toArray), qv 12, qi (.agg (Vt.cells { xv with sb := sb, mr := mr }).toArray), qv 13, qi (.bool true), qi (.bool true), qi (.bool true), qi (.agg ([.int .i64 1, .int .i64 0, .int .i64 0, .int .i64 0, .int .i64 0, .int .u64 (3 : Nat), .slice none 0 0, .slice none 0 0, .slice none 0 0, .int .i64 0, .int .i64 0]).toArray), qv 15, qi (.agg ([.int .i64 1, .int .i64 0, .int .i64 0, .int .i64 0, .int .i64 0, .int .u64 (3 : Nat), .slice none 0 0, .slice none 0 0, .slice none 0 0, .int .i64 sb, .int .i64 mr]).toArray), qv 16, qi (.bool true), qi (.bool true), qi (.bool true), qi (.bool true), qi (.bool true), qi (.bool true)] ⟨qi_stable, qv_stable, qi_stable, qv_stable, qi_stable, qi_stable, qi_stable, qv_stable, qi_stable, qv_stable, qi_stable, qi_stable, qi_stable, qi_stable, qv_stable, qi_stable, qv_stable, qi_stable, qi_stable, qi_stable, qi_stable, qv_stable, qi_stable, qv_stable, qi_stable, qi_stable, qi_stable, qi_stable, qv_stable, qi_stable, qv_stable, qi_stable, qi_stable, qi_stable, qi_stable, qv_stable, qi_stable, qv_stable, qi_stable, qi_stable, qi_stable, qi_stable, qi_stable, qi_stable, trivial⟩ [1, 3, 4, 7, 9, 10, 14, 16, 17, 21, 23, 24, 28, 30, 31, 35, 37, 38, 41] (by kernel_rfl) (by decide) (by kernel_rfl) [] (by kernel_rfl) (by intro r hr; cases hr) (by intro r hr; cases hr) (by intro r hr; cases hr) ⟨?_, ?_, ?_, ?_, ?_, ?_, ?_, ?_, ?_, ?_, ?_, ?_, ?_, ?_, ?_, ?_, ?_, ?_, ?_, ?_, ?_, ?_, ?_, ?_, ?_, ?_, ?_, ?_, ?_, ?_, ?_, ?_, ?_, ?_, ?_, ?_, ?_, ?_, ?_, ?_, ?_, ?_, ?_, ?_, trivial⟩ ?_
  · refine stepq_env rfl rfl rfl fun Z tr act w' hZ hm hm0 hout hsz hd hub hpre => ?_
    refine qe_run rfl (wanted_none rfl) (ex_loadA rfl Try.underlying30 rfl (off := 0) (cs := (xa.cells)) (by rw [St.len HOA.out]; kernel_rfl) ((hout 6 (by decide)).trans oe6) (Cs.whole (Hx163.out.mod (Mod.mono (S' := fun k => u6_1.heap.size ≤ k) hm (fun _ _ h => h.elim (fun h => h.2.elim) (fun h => h))) (by intro h2; (try dsimp only at h2); (try simp only [false_or] at h2); omega)))) QE.refl ?_
    rfl
  · exact stepq_chain rfl
  · refine stepq_env rfl rfl rfl fun Z tr act w' hZ hm hm0 hout hsz hd hub hpre => ?_
    refine qe_run rfl (wanted_none rfl) (ex_loadA rfl Try.underlying30 rfl (off := 0) (cs := (St.cells { xa with sb := sb, mr := mr })) (by rw [St.len (x := { xa with sb := sb, mr := mr }) (okSt HOA.out HSB.out HMR.out)]; kernel_rfl) ((hout 13 (by decide)).trans oe13) (Cs.whole (Hx170.out.mod (Mod.mono (S' := fun k => u6_1.heap.size ≤ k) hm (fun _ _ h => h.elim (fun h => h.2.elim) (fun h => h))) (by intro h2; (try dsimp only at h2); (try simp only [false_or] at h2); omega)))) QE.refl ?_
    rfl
  · exact stepq_chain rfl
  · exact stepq_chain rfl
  · refine stepq_env rfl rfl rfl fun Z tr act w' hZ hm hm0 hout hsz hd hub hpre => ?_
    have h4 := hd ⟨4, .data⟩ (by simp) rfl _ rfl
    refine qe_run rfl (wanted_none rfl) (ex_move rfl h4) QE.refl ?_
    rfl
  · refine stepq_env rfl rfl rfl fun Z tr act w' hZ hm hm0 hout hsz hd hub hpre => ?_
    have h5 := hd ⟨5, .guard⟩ (by simp) rfl _ rfl
    refine qe_run rfl ((wanted_of rfl rfl (hsz 47 (by decide)) h5).trans rfl) (ex_loadA rfl Try.underlying44 rfl (off := 0) (cs := (xb.cells)) (by rw [St.len HOB.out]; kernel_rfl) ((hout 7 (by decide)).trans oe7) (Cs.whole (Hx164.out.mod (Mod.mono (S' := fun k => u6_1.heap.size ≤ k) hm (fun _ _ h => h.elim (fun h => h.2.elim) (fun h => h))) (by intro h2; (try dsimp only at h2); (try simp only [false_or] at h2); omega)))) QE.refl ?_
    rfl
  · exact stepq_chain rfl
  · refine stepq_env rfl rfl rfl fun Z tr act w' hZ hm hm0 hout hsz hd hub hpre => ?_
    have h5 := hd ⟨5, .guard⟩ (by simp) rfl _ rfl
    refine qe_run rfl ((wanted_of rfl rfl (hsz 47 (by decide)) h5).trans rfl) (ex_loadA rfl Try.underlying44 rfl (off := 0) (cs := (St.cells { xb with sb := sb, mr := mr })) (by rw [St.len (x := { xb with sb := sb, mr := mr }) (okSt HOB.out HSB.out HMR.out)]; kernel_rfl) ((hout 14 (by decide)).trans oe14) (Cs.whole (Hx171.out.mod (Mod.mono (S' := fun k => u6_1.heap.size ≤ k) hm (fun _ _ h => h.elim (fun h => h.2.elim) (fun h => h))) (by intro h2; (try dsimp only at h2); (try simp only [false_or] at h2); omega)))) QE.refl ?_
    rfl
  · exact stepq_chain rfl
  · exact stepq_chain rfl
  · refine stepq_env rfl rfl rfl fun Z tr act w' hZ hm hm0 hout hsz hd hub hpre => ?_
    have h5 := hd ⟨5, .data⟩ (by simp) rfl _ rfl
    have h10 := hd ⟨10, .data⟩ (by simp) rfl _ rfl
    refine qe_run rfl (wanted_none rfl) (ex_pick rfl h5 h10 rfl) QE.refl ?_
    rfl
  · refine stepq_env rfl rfl rfl fun Z tr act w' hZ hm hm0 hout hsz hd hub hpre => ?_
    have h11 := hd ⟨11, .data⟩ (by simp) rfl _ rfl
    refine qe_run rfl (wanted_none rfl) (ex_move rfl h11) QE.refl ?_
    rfl
  · refine stepq_env rfl rfl rfl fun Z tr act w' hZ hm hm0 hout hsz hd hub hpre => ?_
    have h12 := hd ⟨12, .guard⟩ (by simp) rfl _ rfl
    refine qe_run rfl ((wanted_of rfl rfl (hsz 54 (by decide)) h12).trans rfl) (ex_loadA rfl Try.underlying55 rfl (off := 0) (cs := ((cutPm xc).cells (Value.slice aop (cutPm xc).l.length capp))) (by kernel_rfl) ((hout 8 (by decide)).trans oe8) (Cs.whole (Hx165.out.mod (Mod.mono (S' := fun k => u6_1.heap.size ≤ k) hm (fun _ _ h => h.elim (fun h => h.2.elim) (fun h => h))) (by intro h2; (try dsimp only at h2); (try simp only [false_or] at h2); omega)))) QE.refl ?_
    rfl
  · exact stepq_chain rfl
  · refine stepq_env rfl rfl rfl fun Z tr act w' hZ hm hm0 hout hsz hd hub hpre => ?_
    have h12 := hd ⟨12, .guard⟩ (by simp) rfl _ rfl
    refine qe_run rfl ((wanted_of rfl rfl (hsz 54 (by decide)) h12).trans rfl) (ex_loadA rfl Try.underlying55 rfl (off := 0) (cs := (Pm.cells { cutPm xc with sb := sb, mr := mr } (Value.slice aop (cutPm xc).l.length capp))) (by kernel_rfl) ((hout 15 (by decide)).trans oe15) (Cs.whole (Hx172.out.mod (Mod.mono (S' := fun k => u6_1.heap.size ≤ k) hm (fun _ _ h => h.elim (fun h => h.2.elim) (fun h => h))) (by intro h2; (try dsimp only at h2); (try simp only [false_or] at h2); omega)))) QE.refl ?_
    rfl
  · exact stepq_chain rfl
  · exact stepq_chain rfl
  · refine stepq_env rfl rfl rfl fun Z tr act w' hZ hm hm0 hout hsz hd hub hpre => ?_
    have h12 := hd ⟨12, .data⟩ (by simp) rfl _ rfl
    have h17 := hd ⟨17, .data⟩ (by simp) rfl _ rfl
    refine qe_run rfl (wanted_none rfl) (ex_pick rfl h12 h17 rfl) QE.refl ?_
    rfl
  · refine stepq_env rfl rfl rfl fun Z tr act w' hZ hm hm0 hout hsz hd hub hpre => ?_
    have h18 := hd ⟨18, .data⟩ (by simp) rfl _ rfl
    refine qe_run rfl (wanted_none rfl) (ex_move rfl h18) QE.refl ?_
    rfl
  · refine stepq_env rfl rfl rfl fun Z tr act w' hZ hm hm0 hout hsz hd hub hpre => ?_
    have h19 := hd ⟨19, .guard⟩ (by simp) rfl _ rfl
    refine qe_run rfl ((wanted_of rfl rfl (hsz 61 (by decide)) h19).trans rfl) (ex_loadA rfl Try.underlying34 rfl (off := 0) (cs := (xd.cells)) (by kernel_rfl) ((hout 9 (by decide)).trans oe9) (Cs.whole (Hx166.out.mod (Mod.mono (S' := fun k => u6_1.heap.size ≤ k) hm (fun _ _ h => h.elim (fun h => h.2.elim) (fun h => h))) (by intro h2; (try dsimp only at h2); (try simp only [false_or] at h2); omega)))) QE.refl ?_
    rfl
  · exact stepq_chain rfl
  · refine stepq_env rfl rfl rfl fun Z tr act w' hZ hm hm0 hout hsz hd hub hpre => ?_
    have h19 := hd ⟨19, .guard⟩ (by simp) rfl _ rfl
    refine qe_run rfl ((wanted_of rfl rfl (hsz 61 (by decide)) h19).trans rfl) (ex_loadA rfl Try.underlying34 rfl (off := 0) (cs := (Dn.cells { xd with sb := sb, mr := mr })) (by kernel_rfl) ((hout 16 (by decide)).trans oe16) (Cs.whole (Hx173.out.mod (Mod.mono (S' := fun k => u6_1.heap.size ≤ k) hm (fun _ _ h => h.elim (fun h => h.2.elim) (fun h => h))) (by intro h2; (try dsimp only at h2); (try simp only [false_or] at h2); omega)))) QE.refl ?_
    rfl
  · exact stepq_chain rfl
  · exact stepq_chain rfl
  · refine stepq_env rfl rfl rfl fun Z tr act w' hZ hm hm0 hout hsz hd hub hpre => ?_
    have h19 := hd ⟨19, .data⟩ (by simp) rfl _ rfl
    have h24 := hd ⟨24, .data⟩ (by simp) rfl _ rfl
    refine qe_run rfl (wanted_none rfl) (ex_pick rfl h19 h24 rfl) QE.refl ?_
    rfl
  · refine stepq_env rfl rfl rfl fun Z tr act w' hZ hm hm0 hout hsz hd hub hpre => ?_
    have h25 := hd ⟨25, .data⟩ (by simp) rfl _ rfl
    refine qe_run rfl (wanted_none rfl) (ex_move rfl h25) QE.refl ?_
    rfl
  · refine stepq_env rfl rfl rfl fun Z tr act w' hZ hm hm0 hout hsz hd hub hpre => ?_
    have h26 := hd ⟨26, .guard⟩ (by simp) rfl _ rfl
    refine qe_run rfl ((wanted_of rfl rfl (hsz 68 (by decide)) h26).trans rfl) (ex_loadA rfl Try.underlying32 rfl (off := 0) (cs := (xv.cells)) (by rw [Vt.len HOV.out]; kernel_rfl) ((hout 10 (by decide)).trans oe10) (Cs.whole (Hx167.out.mod (Mod.mono (S' := fun k => u6_1.heap.size ≤ k) hm (fun _ _ h => h.elim (fun h => h.2.elim) (fun h => h))) (by intro h2; (try dsimp only at h2); (try simp only [false_or] at h2); omega)))) QE.refl ?_
    rfl
  · exact stepq_chain rfl
  · refine stepq_env rfl rfl rfl fun Z tr act w' hZ hm hm0 hout hsz hd hub hpre => ?_
    have h26 := hd ⟨26, .guard⟩ (by simp) rfl _ rfl
    refine qe_run rfl ((wanted_of rfl rfl (hsz 68 (by decide)) h26).trans rfl) (ex_loadA rfl Try.underlying32 rfl (off := 0) (cs := (Vt.cells { xv with sb := sb, mr := mr })) (by rw [Vt.len (x := { xv with sb := sb, mr := mr }) (okVt HOV.out HSB.out HMR.out)]; kernel_rfl) ((hout 17 (by decide)).trans oe17) (Cs.whole (Hx174.out.mod (Mod.mono (S' := fun k => u6_1.heap.size ≤ k) hm (fun _ _ h => h.elim (fun h => h.2.elim) (fun h => h))) (by intro h2; (try dsimp only at h2); (try simp only [false_or] at h2); omega)))) QE.refl ?_
    rfl
  · exact stepq_chain rfl
  · exact stepq_chain rfl
  · refine stepq_env rfl rfl rfl fun Z tr act w' hZ hm hm0 hout hsz hd hub hpre => ?_
    have h26 := hd ⟨26, .data⟩ (by simp) rfl _ rfl
    have h31 := hd ⟨31, .data⟩ (by simp) rfl _ rfl
    refine qe_run rfl (wanted_none rfl) (ex_pick rfl h26 h31 rfl) QE.refl ?_
    rfl
  · refine stepq_env rfl rfl rfl fun Z tr act w' hZ hm hm0 hout hsz hd hub hpre => ?_
    have h32 := hd ⟨32, .data⟩ (by simp) rfl _ rfl
    refine qe_run rfl (wanted_none rfl) (ex_move rfl h32) QE.refl ?_
    rfl
  · refine stepq_env rfl rfl rfl fun Z tr act w' hZ hm hm0 hout hsz hd hub hpre => ?_
    have h33 := hd ⟨33, .guard⟩ (by simp) rfl _ rfl
    refine qe_run rfl ((wanted_of rfl rfl (hsz 75 (by decide)) h33).trans rfl) (ex_loadA rfl Try.underlying107 rfl (off := 0) (cs := ([.int .i64 1, .int .i64 0, .int .i64 0, .int .i64 0, .int .i64 0, .int .u64 (3 : Nat), .slice none 0 0, .slice none 0 0, .slice none 0 0, .int .i64 0, .int .i64 0])) (by kernel_rfl) ((hout 18 (by decide)).trans oe18) (Cs.whole (Hx175.out.mod (Mod.mono (S' := fun k => u6_1.heap.size ≤ k) hm (fun _ _ h => h.elim (fun h => h.2.elim) (fun h => h))) (by intro h2; (try dsimp only at h2); (try simp only [false_or] at h2); omega)))) QE.refl ?_
    rfl
  · exact stepq_chain rfl
  · refine stepq_env rfl rfl rfl fun Z tr act w' hZ hm hm0 hout hsz hd hub hpre => ?_
    have h33 := hd ⟨33, .guard⟩ (by simp) rfl _ rfl
    refine qe_run rfl ((wanted_of rfl rfl (hsz 75 (by decide)) h33).trans rfl) (ex_loadA rfl Try.underlying107 rfl (off := 0) (cs := ([.int .i64 1, .int .i64 0, .int .i64 0, .int .i64 0, .int .i64 0, .int .u64 (3 : Nat), .slice none 0 0, .slice none 0 0, .slice none 0 0, .int .i64 sb, .int .i64 mr])) (by kernel_rfl) ((hout 19 (by decide)).trans oe19) (Cs.whole (Hx161.out.mod (Mod.mono (S' := fun k => u6_1.heap.size ≤ k) hm (fun _ _ h => h.elim (fun h => h.2.elim) (fun h => h))) (by intro h2; (try dsimp only at h2); (try simp only [false_or] at h2); omega)))) QE.refl ?_
    rfl
  · exact stepq_chain rfl
  · exact stepq_chain rfl
  · refine stepq_env rfl rfl rfl fun Z tr act w' hZ hm hm0 hout hsz hd hub hpre => ?_
    have h33 := hd ⟨33, .data⟩ (by simp) rfl _ rfl
    have h38 := hd ⟨38, .data⟩ (by simp) rfl _ rfl
    refine qe_run rfl (wanted_none rfl) (ex_pick rfl h33 h38 rfl) QE.refl ?_
    rfl
  · refine stepq_env rfl rfl rfl fun Z tr act w' hZ hm hm0 hout hsz hd hub hpre => ?_
    have h39 := hd ⟨39, .data⟩ (by simp) rfl _ rfl
    refine qe_run rfl (wanted_none rfl) (ex_move rfl h39) QE.refl ?_
    rfl
  · exact stepq_chain rfl
  · refine stepq_env rfl rfl rfl fun Z tr act w' hZ hm hm0 hout hsz hd hub hpre => ?_
    have h40 := hd ⟨40, .data⟩ (by simp) rfl _ rfl
    have h41 := hd ⟨41, .data⟩ (by simp) rfl _ rfl
    refine qe_run rfl (wanted_none rfl) (ex_pick rfl h40 h41 rfl) QE.refl ?_
    rfl
  · refine stepq_env rfl rfl rfl fun Z tr act w' hZ hm hm0 hout hsz hd hub hpre => ?_
    have h42 := hd ⟨42, .data⟩ (by simp) rfl _ rfl
    refine qe_run rfl (wanted_none rfl) (ex_assign rfl h42) QE.refl ?_
    rfl
  intro u7_0 hr
  have zu7_0 := hr.size
  clear Hx163
  clear Hx164
  clear Hx165
  clear Hx166
  clear Hx167
  clear Hx168
  clear Hx170
  clear Hx171
  clear Hx172
  clear Hx173
  clear Hx174
  clear Hx175
  clear Hx161
  have Hx176 := Lib.hid (Hx162.out.mod hr (by intro k h1 h2; (try dsimp only at h1 h2); (try simp only [false_or] at h1 h2); rcases h1 with h1 | h1 <;> (first | omega | (have hb := HBT.out k h1; omega) | (have hb := HBT.out k h2; omega))))
  have Hx177 := Lib.hid (Hx169.out.trans hr (by intro k h1 h2; (try dsimp only at h2 ⊢); (try simp only [false_or] at h2 ⊢); omega))
  clear Hx162 Hx169
  clear hr
  refine QChain.cons rfl fun Z act hYZ hZ hout hsz hd hpre => ?_
  have h0 := hd ⟨0, .data⟩ (by simp) rfl _ rfl
  have ea42 : act.eval (.tmp 42) = .agg (xa.cells).toArray := h0
  refine qc_call (args := #[.agg (xa.cells).toArray]) rfl (wanted_none rfl) (by rw [ex_callF rfl Try.func14 (by kernel_rfl) (by kernel_rfl)]; exact congrArg (fun z => Result.ok (Next.enter _ z) _) (by simp only [List.map_toArray, List.map_cons, List.map_nil, ea42]; try rfl)) (StampText_Q (fun _ => False) _ xa _ ⟨rfl, HOA.out⟩ (fun _ h => h.elim) (stampT_len HOA.out)) ?_
  rintro e u7_1a ⟨v_a1, rfl, qa1, hm⟩
  obtain ⟨ao_a1, cap_a1, rfl⟩ := qa1.shape
  have zu7_1a := hm.size
  refine ⟨_, rfl, hm.mono (fun _ _ h => h.elim), (fun _ => rfl), ?_⟩
  intro u7_1 hr
  have zu7_1 := hr.size
  have Hx178 := Lib.hid ((qa1.widen (R' := (fun k => (u7_0.heap.size ≤ k ∧ k < u7_1a.heap.size))) (by intro k h1; (try unfold New at h1); (try dsimp only at h1 ⊢); (try simp only [false_or] at h1 ⊢); omega) (Nat.le_refl _)).mod hr (by intro k h1 h2; (try dsimp only at h1 h2); (try simp only [false_or] at h1 h2); omega))
  have hmr := Mod.after hm hr
  have Hx179 := Lib.hid (Hx176.out.mod hmr (by intro k h1 h2; (try dsimp only at h1 h2); (try simp only [false_or] at h1 h2); rcases h1 with h1 | h1 <;> (first | omega | (have hb := HBT.out k h1; omega) | (have hb := HBT.out k h2; omega))))
  have Hx180 := Lib.hid (Hx177.out.trans hmr (by intro k h1 h2; (try dsimp only at h2 ⊢); (try simp only [false_or] at h2 ⊢); omega))
  clear Hx176 Hx177
  clear hmr
  clear hm hr hYZ hZ hout hsz hd hpre qa1 ea42 h0
  refine QChain.cons rfl fun Z act hYZ hZ hout hsz hd hpre => ?_
  have h2 := hd ⟨2, .data⟩ (by simp) rfl _ rfl
  have ea44 : act.eval (.tmp 44) = .agg (St.cells { xa with sb := sb, mr := mr }).toArray := h2
  refine qc_call (args := #[.agg (St.cells { xa with sb := sb, mr := mr }).toArray]) rfl (wanted_none rfl) (by rw [ex_callF rfl Try.func14 (by kernel_rfl) (by kernel_rfl)]; exact congrArg (fun z => Result.ok (Next.enter _ z) _) (by simp only [List.map_toArray, List.map_cons, List.map_nil, ea44]; try rfl)) (StampText_Q (fun _ => False) _ { xa with sb := sb, mr := mr } _ ⟨rfl, okSt HOA.out HSB.out HMR.out⟩ (fun _ h => h.elim) (stampT_len (okSt HOA.out HSB.out HMR.out))) ?_
  rintro e u7_2a ⟨v_a2, rfl, qa2, hm⟩
  obtain ⟨ao_a2, cap_a2, rfl⟩ := qa2.shape
  have zu7_2a := hm.size
  refine ⟨_, rfl, hm.mono (fun _ _ h => h.elim), (fun _ => rfl), ?_⟩
  intro u7_2 hr
  have zu7_2 := hr.size
  have Hx181 := Lib.hid ((qa2.widen (R' := (fun k => (u7_1.heap.size ≤ k ∧ k < u7_2a.heap.size))) (by intro k h1; (try unfold New at h1); (try dsimp only at h1 ⊢); (try simp only [false_or] at h1 ⊢); omega) (Nat.le_refl _)).mod hr (by intro k h1 h2; (try dsimp only at h1 h2); (try simp only [false_or] at h1 h2); omega))
  have hmr := Mod.after hm hr
  have Hx182 := Lib.hid (Hx179.out.mod hmr (by intro k h1 h2; (try dsimp only at h1 h2); (try simp only [false_or] at h1 h2); rcases h1 with h1 | h1 <;> (first | omega | (have hb := HBT.out k h1; omega) | (have hb := HBT.out k h2; omega))))
  have Hx183 := Lib.hid (Hx180.out.trans hmr (by intro k h1 h2; (try dsimp only at h2 ⊢); (try simp only [false_or] at h2 ⊢); omega))
  have Hx184 := Lib.hid (Hx178.out.mod hmr (by intro k h1 h2; (try dsimp only at h1 h2); (try simp only [false_or] at h1 h2); omega))
  clear Hx179 Hx180 Hx178
  clear hmr
  clear hm hr hYZ hZ hout hsz hd hpre qa2 ea44 h2
  refine QChain.cons rfl fun Z act hYZ hZ hout hsz hd hpre => ?_
  have h1 := hd ⟨1, .data⟩ (by simp) rfl _ rfl
  have h3 := hd ⟨3, .data⟩ (by simp) rfl _ rfl
  have ea43 : act.eval (.tmp 43) = .slice ao_a1 ((stampT xa).length) cap_a1 := (Option.some.inj (show some (.slice ao_a1 ((stampT xa).length) cap_a1 : Value) = some (act.eval (.tmp 43)) from h1)).symm
  have ea45 : act.eval (.tmp 45) = .slice ao_a2 ((stampT { xa with sb := sb, mr := mr }).length) cap_a2 := (Option.some.inj (show some (.slice ao_a2 ((stampT { xa with sb := sb, mr := mr }).length) cap_a2 : Value) = some (act.eval (.tmp 45)) from h3)).symm
  refine qc_call (args := #[.slice ao_a1 ((stampT xa).length) cap_a1, .slice ao_a2 ((stampT { xa with sb := sb, mr := mr }).length) cap_a2]) rfl (wanted_none rfl) (by rw [ex_callF rfl Try.func18 (by kernel_rfl) (by kernel_rfl)]; exact congrArg (fun z => Result.ok (Next.enter _ z) _) (by simp only [List.map_toArray, List.map_cons, List.map_nil, ea43, ea45]; try rfl)) (Same_true Hx184.out.rd Hx181.out.rd rfl) ?_
  rintro e u7_3a ⟨rfl, hm⟩
  have zu7_3a := hm.size
  refine ⟨_, rfl, hm.mono (fun _ _ h => h.elim), (fun _ => rfl), ?_⟩
  intro u7_3 hr
  have zu7_3 := hr.size
  have hmr := Mod.after hm hr
  have Hx185 := Lib.hid (Hx182.out.mod hmr (by intro k h1 h2; (try dsimp only at h1 h2); (try simp only [false_or] at h1 h2); rcases h1 with h1 | h1 <;> (first | omega | (have hb := HBT.out k h1; omega) | (have hb := HBT.out k h2; omega))))
  have Hx186 := Lib.hid (Hx183.out.trans hmr (by intro k h1 h2; (try dsimp only at h2 ⊢); (try simp only [false_or] at h2 ⊢); omega))
  have Hx187 := Lib.hid (Hx184.out.mod hmr (by intro k h1 h2; (try dsimp only at h1 h2); (try simp only [false_or] at h1 h2); omega))
  have Hx188 := Lib.hid (Hx181.out.mod hmr (by intro k h1 h2; (try dsimp only at h1 h2); (try simp only [false_or] at h1 h2); omega))
  clear Hx182 Hx183 Hx184 Hx181
  clear hmr
  clear hm hr hYZ hZ hout hsz hd hpre ea43 ea45 h1 h3
  clear Hx187
  clear Hx188
  refine QChain.cons rfl fun Z act hYZ hZ hout hsz hd hpre => ?_
  have h5 := hd ⟨5, .chain⟩ (by simp) rfl _ rfl
  have h6 := hd ⟨6, .data⟩ (by simp) rfl _ rfl
  have ea48 : act.eval (.tmp 48) = .agg (xb.cells).toArray := h6
  refine qc_call (args := #[.agg (xb.cells).toArray]) rfl ((wanted_of rfl rfl (hsz 47 (by decide)) h5).trans rfl) (by rw [ex_callF rfl Try.func17 (by kernel_rfl) (by kernel_rfl)]; exact congrArg (fun z => Result.ok (Next.enter _ z) _) (by simp only [List.map_toArray, List.map_cons, List.map_nil, ea48]; try rfl)) (AckText_Q (fun _ => False) _ xb _ ⟨rfl, HOB.out⟩ (fun _ h => h.elim) (ackT_len HOB.out)) ?_
  rintro e u7_4a ⟨v_a3, rfl, qa3, hm⟩
  obtain ⟨ao_a3, cap_a3, rfl⟩ := qa3.shape
  have zu7_4a := hm.size
  refine ⟨_, rfl, hm.mono (fun _ _ h => h.elim), (fun _ => rfl), ?_⟩
  intro u7_4 hr
  have zu7_4 := hr.size
  have Hx189 := Lib.hid ((qa3.widen (R' := (fun k => (u7_3.heap.size ≤ k ∧ k < u7_4a.heap.size))) (by intro k h1; (try unfold New at h1); (try dsimp only at h1 ⊢); (try simp only [false_or] at h1 ⊢); omega) (Nat.le_refl _)).mod hr (by intro k h1 h2; (try dsimp only at h1 h2); (try simp only [false_or] at h1 h2); omega))
  have hmr := Mod.after hm hr
  have Hx190 := Lib.hid (Hx185.out.mod hmr (by intro k h1 h2; (try dsimp only at h1 h2); (try simp only [false_or] at h1 h2); rcases h1 with h1 | h1 <;> (first | omega | (have hb := HBT.out k h1; omega) | (have hb := HBT.out k h2; omega))))
  have Hx191 := Lib.hid (Hx186.out.trans hmr (by intro k h1 h2; (try dsimp only at h2 ⊢); (try simp only [false_or] at h2 ⊢); omega))
  clear Hx185 Hx186
  clear hmr
  clear hm hr hYZ hZ hout hsz hd hpre qa3 ea48 h5 h6
  refine QChain.cons rfl fun Z act hYZ hZ hout hsz hd hpre => ?_
  have h5 := hd ⟨5, .guard⟩ (by simp) rfl _ rfl
  have h8 := hd ⟨8, .data⟩ (by simp) rfl _ rfl
  have ea50 : act.eval (.tmp 50) = .agg (St.cells { xb with sb := sb, mr := mr }).toArray := h8
  refine qc_call (args := #[.agg (St.cells { xb with sb := sb, mr := mr }).toArray]) rfl ((wanted_of rfl rfl (hsz 47 (by decide)) h5).trans rfl) (by rw [ex_callF rfl Try.func17 (by kernel_rfl) (by kernel_rfl)]; exact congrArg (fun z => Result.ok (Next.enter _ z) _) (by simp only [List.map_toArray, List.map_cons, List.map_nil, ea50]; try rfl)) (AckText_Q (fun _ => False) _ { xb with sb := sb, mr := mr } _ ⟨rfl, okSt HOB.out HSB.out HMR.out⟩ (fun _ h => h.elim) (ackT_len (okSt HOB.out HSB.out HMR.out))) ?_
  rintro e u7_5a ⟨v_a4, rfl, qa4, hm⟩
  obtain ⟨ao_a4, cap_a4, rfl⟩ := qa4.shape
  have zu7_5a := hm.size
  refine ⟨_, rfl, hm.mono (fun _ _ h => h.elim), (fun _ => rfl), ?_⟩
  intro u7_5 hr
  have zu7_5 := hr.size
  have Hx192 := Lib.hid ((qa4.widen (R' := (fun k => (u7_4.heap.size ≤ k ∧ k < u7_5a.heap.size))) (by intro k h1; (try unfold New at h1); (try dsimp only at h1 ⊢); (try simp only [false_or] at h1 ⊢); omega) (Nat.le_refl _)).mod hr (by intro k h1 h2; (try dsimp only at h1 h2); (try simp only [false_or] at h1 h2); omega))
  have hmr := Mod.after hm hr
  have Hx193 := Lib.hid (Hx190.out.mod hmr (by intro k h1 h2; (try dsimp only at h1 h2); (try simp only [false_or] at h1 h2); rcases h1 with h1 | h1 <;> (first | omega | (have hb := HBT.out k h1; omega) | (have hb := HBT.out k h2; omega))))
  have Hx194 := Lib.hid (Hx191.out.trans hmr (by intro k h1 h2; (try dsimp only at h2 ⊢); (try simp only [false_or] at h2 ⊢); omega))
  have Hx195 := Lib.hid (Hx189.out.mod hmr (by intro k h1 h2; (try dsimp only at h1 h2); (try simp only [false_or] at h1 h2); omega))
  clear Hx190 Hx191 Hx189
  clear hmr
  clear hm hr hYZ hZ hout hsz hd hpre qa4 ea50 h5 h8
  refine QChain.cons rfl fun Z act hYZ hZ hout hsz hd hpre => ?_
  have h5 := hd ⟨5, .guard⟩ (by simp) rfl _ rfl
  have h7 := hd ⟨7, .data⟩ (by simp) rfl _ rfl
  have h9 := hd ⟨9, .data⟩ (by simp) rfl _ rfl
  have ea49 : act.eval (.tmp 49) = .slice ao_a3 ((ackT xb).length) cap_a3 := (Option.some.inj (show some (.slice ao_a3 ((ackT xb).length) cap_a3 : Value) = some (act.eval (.tmp 49)) from h7)).symm
  have ea51 : act.eval (.tmp 51) = .slice ao_a4 ((ackT { xb with sb := sb, mr := mr }).length) cap_a4 := (Option.some.inj (show some (.slice ao_a4 ((ackT { xb with sb := sb, mr := mr }).length) cap_a4 : Value) = some (act.eval (.tmp 51)) from h9)).symm
  refine qc_call (args := #[.slice ao_a3 ((ackT xb).length) cap_a3, .slice ao_a4 ((ackT { xb with sb := sb, mr := mr }).length) cap_a4]) rfl ((wanted_of rfl rfl (hsz 47 (by decide)) h5).trans rfl) (by rw [ex_callF rfl Try.func18 (by kernel_rfl) (by kernel_rfl)]; exact congrArg (fun z => Result.ok (Next.enter _ z) _) (by simp only [List.map_toArray, List.map_cons, List.map_nil, ea49, ea51]; try rfl)) (Same_true Hx195.out.rd Hx192.out.rd rfl) ?_
  rintro e u7_6a ⟨rfl, hm⟩
  have zu7_6a := hm.size
  refine ⟨_, rfl, hm.mono (fun _ _ h => h.elim), (fun _ => rfl), ?_⟩
  intro u7_6 hr
  have zu7_6 := hr.size
  have hmr := Mod.after hm hr
  have Hx196 := Lib.hid (Hx193.out.mod hmr (by intro k h1 h2; (try dsimp only at h1 h2); (try simp only [false_or] at h1 h2); rcases h1 with h1 | h1 <;> (first | omega | (have hb := HBT.out k h1; omega) | (have hb := HBT.out k h2; omega))))
  have Hx197 := Lib.hid (Hx194.out.trans hmr (by intro k h1 h2; (try dsimp only at h2 ⊢); (try simp only [false_or] at h2 ⊢); omega))
  have Hx198 := Lib.hid (Hx195.out.mod hmr (by intro k h1 h2; (try dsimp only at h1 h2); (try simp only [false_or] at h1 h2); omega))
  have Hx199 := Lib.hid (Hx192.out.mod hmr (by intro k h1 h2; (try dsimp only at h1 h2); (try simp only [false_or] at h1 h2); omega))
  clear Hx193 Hx194 Hx195 Hx192
  clear hmr
  clear hm hr hYZ hZ hout hsz hd hpre ea49 ea51 h5 h7 h9
  clear Hx198
  clear Hx199
  refine QChain.cons rfl fun Z act hYZ hZ hout hsz hd hpre => ?_
  have h12 := hd ⟨12, .chain⟩ (by simp) rfl _ rfl
  have h13 := hd ⟨13, .data⟩ (by simp) rfl _ rfl
  have ea55 : act.eval (.tmp 55) = .agg ((cutPm xc).cells (Value.slice aop (cutPm xc).l.length capp)).toArray := h13
  refine qc_call (args := #[.agg ((cutPm xc).cells (Value.slice aop (cutPm xc).l.length capp)).toArray]) rfl ((wanted_of rfl rfl (hsz 54 (by decide)) h12).trans rfl) (by rw [ex_callF rfl Try.func57 (by kernel_rfl) (by kernel_rfl)]; exact congrArg (fun z => Result.ok (Next.enter _ z) _) (by simp only [List.map_toArray, List.map_cons, List.map_nil, ea55]; try rfl)) (PromiseText_Q _ _ (cutPm xc) _ ⟨_, rfl, HOP.out, Hx196.out⟩ (by intro k h1; (try dsimp only at h1); rcases h1 with h1 | h1 <;> (first | omega | (have hb := HBT.out k h1; omega))) HPL.out) ?_
  rintro e u7_7a ⟨v_a5, rfl, qa5, hm⟩
  obtain ⟨ao_a5, cap_a5, rfl⟩ := qa5.shape
  have zu7_7a := hm.size
  refine ⟨_, rfl, hm.mono (fun _ _ h => h.elim), (fun _ => rfl), ?_⟩
  intro u7_7 hr
  have zu7_7 := hr.size
  have Hx200 := Lib.hid ((qa5.widen (R' := (fun k => (u7_6.heap.size ≤ k ∧ k < u7_7a.heap.size))) (by intro k h1; (try unfold New at h1); (try dsimp only at h1 ⊢); (try simp only [false_or] at h1 ⊢); omega) (Nat.le_refl _)).mod hr (by intro k h1 h2; (try dsimp only at h1 h2); (try simp only [false_or] at h1 h2); omega))
  have hmr := Mod.after hm hr
  have Hx201 := Lib.hid (Hx196.out.mod hmr (by intro k h1 h2; (try dsimp only at h1 h2); (try simp only [false_or] at h1 h2); rcases h1 with h1 | h1 <;> (first | omega | (have hb := HBT.out k h1; omega) | (have hb := HBT.out k h2; omega))))
  have Hx202 := Lib.hid (Hx197.out.trans hmr (by intro k h1 h2; (try dsimp only at h2 ⊢); (try simp only [false_or] at h2 ⊢); omega))
  clear Hx196 Hx197
  clear hmr
  clear hm hr hYZ hZ hout hsz hd hpre qa5 ea55 h12 h13
  refine QChain.cons rfl fun Z act hYZ hZ hout hsz hd hpre => ?_
  have h12 := hd ⟨12, .guard⟩ (by simp) rfl _ rfl
  have h15 := hd ⟨15, .data⟩ (by simp) rfl _ rfl
  have ea57 : act.eval (.tmp 57) = .agg (Pm.cells { cutPm xc with sb := sb, mr := mr } (Value.slice aop (cutPm xc).l.length capp)).toArray := h15
  refine qc_call (args := #[.agg (Pm.cells { cutPm xc with sb := sb, mr := mr } (Value.slice aop (cutPm xc).l.length capp)).toArray]) rfl ((wanted_of rfl rfl (hsz 54 (by decide)) h12).trans rfl) (by rw [ex_callF rfl Try.func57 (by kernel_rfl) (by kernel_rfl)]; exact congrArg (fun z => Result.ok (Next.enter _ z) _) (by simp only [List.map_toArray, List.map_cons, List.map_nil, ea57]; try rfl)) (PromiseText_Q _ _ { cutPm xc with sb := sb, mr := mr } _ ⟨_, rfl, okPm HOP.out HSB.out HMR.out, Hx201.out⟩ (by intro k h1; (try dsimp only at h1); rcases h1 with h1 | h1 <;> (first | omega | (have hb := HBT.out k h1; omega))) HPL.out) ?_
  rintro e u7_8a ⟨v_a6, rfl, qa6, hm⟩
  obtain ⟨ao_a6, cap_a6, rfl⟩ := qa6.shape
  have zu7_8a := hm.size
  refine ⟨_, rfl, hm.mono (fun _ _ h => h.elim), (fun _ => rfl), ?_⟩
  intro u7_8 hr
  have zu7_8 := hr.size
  have Hx203 := Lib.hid ((qa6.widen (R' := (fun k => (u7_7.heap.size ≤ k ∧ k < u7_8a.heap.size))) (by intro k h1; (try unfold New at h1); (try dsimp only at h1 ⊢); (try simp only [false_or] at h1 ⊢); omega) (Nat.le_refl _)).mod hr (by intro k h1 h2; (try dsimp only at h1 h2); (try simp only [false_or] at h1 h2); omega))
  have hmr := Mod.after hm hr
  have Hx204 := Lib.hid (Hx201.out.mod hmr (by intro k h1 h2; (try dsimp only at h1 h2); (try simp only [false_or] at h1 h2); rcases h1 with h1 | h1 <;> (first | omega | (have hb := HBT.out k h1; omega) | (have hb := HBT.out k h2; omega))))
  have Hx205 := Lib.hid (Hx202.out.trans hmr (by intro k h1 h2; (try dsimp only at h2 ⊢); (try simp only [false_or] at h2 ⊢); omega))
  have Hx206 := Lib.hid (Hx200.out.mod hmr (by intro k h1 h2; (try dsimp only at h1 h2); (try simp only [false_or] at h1 h2); omega))
  clear Hx201 Hx202 Hx200
  clear hmr
  clear hm hr hYZ hZ hout hsz hd hpre qa6 ea57 h12 h15
  refine QChain.cons rfl fun Z act hYZ hZ hout hsz hd hpre => ?_
  have h12 := hd ⟨12, .guard⟩ (by simp) rfl _ rfl
  have h14 := hd ⟨14, .data⟩ (by simp) rfl _ rfl
  have h16 := hd ⟨16, .data⟩ (by simp) rfl _ rfl
  have ea56 : act.eval (.tmp 56) = .slice ao_a5 ((promT (cutPm xc)).length) cap_a5 := (Option.some.inj (show some (.slice ao_a5 ((promT (cutPm xc)).length) cap_a5 : Value) = some (act.eval (.tmp 56)) from h14)).symm
  have ea58 : act.eval (.tmp 58) = .slice ao_a6 ((promT { cutPm xc with sb := sb, mr := mr }).length) cap_a6 := (Option.some.inj (show some (.slice ao_a6 ((promT { cutPm xc with sb := sb, mr := mr }).length) cap_a6 : Value) = some (act.eval (.tmp 58)) from h16)).symm
  refine qc_call (args := #[.slice ao_a5 ((promT (cutPm xc)).length) cap_a5, .slice ao_a6 ((promT { cutPm xc with sb := sb, mr := mr }).length) cap_a6]) rfl ((wanted_of rfl rfl (hsz 54 (by decide)) h12).trans rfl) (by rw [ex_callF rfl Try.func18 (by kernel_rfl) (by kernel_rfl)]; exact congrArg (fun z => Result.ok (Next.enter _ z) _) (by simp only [List.map_toArray, List.map_cons, List.map_nil, ea56, ea58]; try rfl)) (Same_true Hx206.out.rd Hx203.out.rd rfl) ?_
  rintro e u7_9a ⟨rfl, hm⟩
  have zu7_9a := hm.size
  refine ⟨_, rfl, hm.mono (fun _ _ h => h.elim), (fun _ => rfl), ?_⟩
  intro u7_9 hr
  have zu7_9 := hr.size
  have hmr := Mod.after hm hr
  have Hx207 := Lib.hid (Hx204.out.mod hmr (by intro k h1 h2; (try dsimp only at h1 h2); (try simp only [false_or] at h1 h2); rcases h1 with h1 | h1 <;> (first | omega | (have hb := HBT.out k h1; omega) | (have hb := HBT.out k h2; omega))))
  have Hx208 := Lib.hid (Hx205.out.trans hmr (by intro k h1 h2; (try dsimp only at h2 ⊢); (try simp only [false_or] at h2 ⊢); omega))
  have Hx209 := Lib.hid (Hx206.out.mod hmr (by intro k h1 h2; (try dsimp only at h1 h2); (try simp only [false_or] at h1 h2); omega))
  have Hx210 := Lib.hid (Hx203.out.mod hmr (by intro k h1 h2; (try dsimp only at h1 h2); (try simp only [false_or] at h1 h2); omega))
  clear Hx204 Hx205 Hx206 Hx203
  clear hmr
  clear hm hr hYZ hZ hout hsz hd hpre ea56 ea58 h12 h14 h16
  clear Hx209
  clear Hx210
  clear Hx207
  refine QChain.cons rfl fun Z act hYZ hZ hout hsz hd hpre => ?_
  have h19 := hd ⟨19, .chain⟩ (by simp) rfl _ rfl
  have h20 := hd ⟨20, .data⟩ (by simp) rfl _ rfl
  have ea62 : act.eval (.tmp 62) = .agg (xd.cells).toArray := h20
  refine qc_call (args := #[.agg (xd.cells).toArray]) rfl ((wanted_of rfl rfl (hsz 61 (by decide)) h19).trans rfl) (by rw [ex_callF rfl Try.func16 (by kernel_rfl) (by kernel_rfl)]; exact congrArg (fun z => Result.ok (Next.enter _ z) _) (by simp only [List.map_toArray, List.map_cons, List.map_nil, ea62]; try rfl)) (DenyText_Q (fun _ => False) _ xd _ ⟨rfl, HOD.out⟩ (fun _ h => h.elim) (denyT_len HOD.out)) ?_
  rintro e u7_10a ⟨v_a7, rfl, qa7, hm⟩
  obtain ⟨ao_a7, cap_a7, rfl⟩ := qa7.shape
  have zu7_10a := hm.size
  refine ⟨_, rfl, hm.mono (fun _ _ h => h.elim), (fun _ => rfl), ?_⟩
  intro u7_10 hr
  have zu7_10 := hr.size
  have Hx211 := Lib.hid ((qa7.widen (R' := (fun k => (u7_9.heap.size ≤ k ∧ k < u7_10a.heap.size))) (by intro k h1; (try unfold New at h1); (try dsimp only at h1 ⊢); (try simp only [false_or] at h1 ⊢); omega) (Nat.le_refl _)).mod hr (by intro k h1 h2; (try dsimp only at h1 h2); (try simp only [false_or] at h1 h2); omega))
  have hmr := Mod.after hm hr
  have Hx212 := Lib.hid (Hx208.out.trans hmr (by intro k h1 h2; (try dsimp only at h2 ⊢); (try simp only [false_or] at h2 ⊢); omega))
  clear Hx208
  clear hmr
  clear hm hr hYZ hZ hout hsz hd hpre qa7 ea62 h19 h20
  refine QChain.cons rfl fun Z act hYZ hZ hout hsz hd hpre => ?_
  have h19 := hd ⟨19, .guard⟩ (by simp) rfl _ rfl
  have h22 := hd ⟨22, .data⟩ (by simp) rfl _ rfl
  have ea64 : act.eval (.tmp 64) = .agg (Dn.cells { xd with sb := sb, mr := mr }).toArray := h22
  refine qc_call (args := #[.agg (Dn.cells { xd with sb := sb, mr := mr }).toArray]) rfl ((wanted_of rfl rfl (hsz 61 (by decide)) h19).trans rfl) (by rw [ex_callF rfl Try.func16 (by kernel_rfl) (by kernel_rfl)]; exact congrArg (fun z => Result.ok (Next.enter _ z) _) (by simp only [List.map_toArray, List.map_cons, List.map_nil, ea64]; try rfl)) (DenyText_Q (fun _ => False) _ { xd with sb := sb, mr := mr } _ ⟨rfl, okDn HOD.out HSB.out HMR.out⟩ (fun _ h => h.elim) (denyT_len (okDn HOD.out HSB.out HMR.out))) ?_
  rintro e u7_11a ⟨v_a8, rfl, qa8, hm⟩
  obtain ⟨ao_a8, cap_a8, rfl⟩ := qa8.shape
  have zu7_11a := hm.size
  refine ⟨_, rfl, hm.mono (fun _ _ h => h.elim), (fun _ => rfl), ?_⟩
  intro u7_11 hr
  have zu7_11 := hr.size
  have Hx213 := Lib.hid ((qa8.widen (R' := (fun k => (u7_10.heap.size ≤ k ∧ k < u7_11a.heap.size))) (by intro k h1; (try unfold New at h1); (try dsimp only at h1 ⊢); (try simp only [false_or] at h1 ⊢); omega) (Nat.le_refl _)).mod hr (by intro k h1 h2; (try dsimp only at h1 h2); (try simp only [false_or] at h1 h2); omega))
  have hmr := Mod.after hm hr
  have Hx214 := Lib.hid (Hx212.out.trans hmr (by intro k h1 h2; (try dsimp only at h2 ⊢); (try simp only [false_or] at h2 ⊢); omega))
  have Hx215 := Lib.hid (Hx211.out.mod hmr (by intro k h1 h2; (try dsimp only at h1 h2); (try simp only [false_or] at h1 h2); omega))
  clear Hx212 Hx211
  clear hmr
  clear hm hr hYZ hZ hout hsz hd hpre qa8 ea64 h19 h22
  refine QChain.cons rfl fun Z act hYZ hZ hout hsz hd hpre => ?_
  have h19 := hd ⟨19, .guard⟩ (by simp) rfl _ rfl
  have h21 := hd ⟨21, .data⟩ (by simp) rfl _ rfl
  have h23 := hd ⟨23, .data⟩ (by simp) rfl _ rfl
  have ea63 : act.eval (.tmp 63) = .slice ao_a7 ((denyT xd).length) cap_a7 := (Option.some.inj (show some (.slice ao_a7 ((denyT xd).length) cap_a7 : Value) = some (act.eval (.tmp 63)) from h21)).symm
  have ea65 : act.eval (.tmp 65) = .slice ao_a8 ((denyT { xd with sb := sb, mr := mr }).length) cap_a8 := (Option.some.inj (show some (.slice ao_a8 ((denyT { xd with sb := sb, mr := mr }).length) cap_a8 : Value) = some (act.eval (.tmp 65)) from h23)).symm
  refine qc_call (args := #[.slice ao_a7 ((denyT xd).length) cap_a7, .slice ao_a8 ((denyT { xd with sb := sb, mr := mr }).length) cap_a8]) rfl ((wanted_of rfl rfl (hsz 61 (by decide)) h19).trans rfl) (by rw [ex_callF rfl Try.func18 (by kernel_rfl) (by kernel_rfl)]; exact congrArg (fun z => Result.ok (Next.enter _ z) _) (by simp only [List.map_toArray, List.map_cons, List.map_nil, ea63, ea65]; try rfl)) (Same_true Hx215.out.rd Hx213.out.rd rfl) ?_
  rintro e u7_12a ⟨rfl, hm⟩
  have zu7_12a := hm.size
  refine ⟨_, rfl, hm.mono (fun _ _ h => h.elim), (fun _ => rfl), ?_⟩
  intro u7_12 hr
  have zu7_12 := hr.size
  have hmr := Mod.after hm hr
  have Hx216 := Lib.hid (Hx214.out.trans hmr (by intro k h1 h2; (try dsimp only at h2 ⊢); (try simp only [false_or] at h2 ⊢); omega))
  have Hx217 := Lib.hid (Hx215.out.mod hmr (by intro k h1 h2; (try dsimp only at h1 h2); (try simp only [false_or] at h1 h2); omega))
  have Hx218 := Lib.hid (Hx213.out.mod hmr (by intro k h1 h2; (try dsimp only at h1 h2); (try simp only [false_or] at h1 h2); omega))
  clear Hx214 Hx215 Hx213
  clear hmr
  clear hm hr hYZ hZ hout hsz hd hpre ea63 ea65 h19 h21 h23
  clear Hx217
  clear Hx218
  refine QChain.cons rfl fun Z act hYZ hZ hout hsz hd hpre => ?_
  have h26 := hd ⟨26, .chain⟩ (by simp) rfl _ rfl
  have h27 := hd ⟨27, .data⟩ (by simp) rfl _ rfl
  have ea69 : act.eval (.tmp 69) = .agg (xv.cells).toArray := h27
  refine qc_call (args := #[.agg (xv.cells).toArray]) rfl ((wanted_of rfl rfl (hsz 68 (by decide)) h26).trans rfl) (by rw [ex_callF rfl Try.func15 (by kernel_rfl) (by kernel_rfl)]; exact congrArg (fun z => Result.ok (Next.enter _ z) _) (by simp only [List.map_toArray, List.map_cons, List.map_nil, ea69]; try rfl)) (VoteText_Q (fun _ => False) _ xv _ ⟨rfl, HOV.out⟩ (fun _ h => h.elim) (voteT_len HOV.out)) ?_
  rintro e u7_13a ⟨v_a9, rfl, qa9, hm⟩
  obtain ⟨ao_a9, cap_a9, rfl⟩ := qa9.shape
  have zu7_13a := hm.size
  refine ⟨_, rfl, hm.mono (fun _ _ h => h.elim), (fun _ => rfl), ?_⟩
  intro u7_13 hr
  have zu7_13 := hr.size
  have Hx219 := Lib.hid ((qa9.widen (R' := (fun k => (u7_12.heap.size ≤ k ∧ k < u7_13a.heap.size))) (by intro k h1; (try unfold New at h1); (try dsimp only at h1 ⊢); (try simp only [false_or] at h1 ⊢); omega) (Nat.le_refl _)).mod hr (by intro k h1 h2; (try dsimp only at h1 h2); (try simp only [false_or] at h1 h2); omega))
  have hmr := Mod.after hm hr
  have Hx220 := Lib.hid (Hx216.out.trans hmr (by intro k h1 h2; (try dsimp only at h2 ⊢); (try simp only [false_or] at h2 ⊢); omega))
  clear Hx216
  clear hmr
  clear hm hr hYZ hZ hout hsz hd hpre qa9 ea69 h26 h27
  refine QChain.cons rfl fun Z act hYZ hZ hout hsz hd hpre => ?_
  have h26 := hd ⟨26, .guard⟩ (by simp) rfl _ rfl
  have h29 := hd ⟨29, .data⟩ (by simp) rfl _ rfl
  have ea71 : act.eval (.tmp 71) = .agg (Vt.cells { xv with sb := sb, mr := mr }).toArray := h29
  refine qc_call (args := #[.agg (Vt.cells { xv with sb := sb, mr := mr }).toArray]) rfl ((wanted_of rfl rfl (hsz 68 (by decide)) h26).trans rfl) (by rw [ex_callF rfl Try.func15 (by kernel_rfl) (by kernel_rfl)]; exact congrArg (fun z => Result.ok (Next.enter _ z) _) (by simp only [List.map_toArray, List.map_cons, List.map_nil, ea71]; try rfl)) (VoteText_Q (fun _ => False) _ { xv with sb := sb, mr := mr } _ ⟨rfl, okVt HOV.out HSB.out HMR.out⟩ (fun _ h => h.elim) (voteT_len (okVt HOV.out HSB.out HMR.out))) ?_
  rintro e u7_14a ⟨v_a10, rfl, qa10, hm⟩
  obtain ⟨ao_a10, cap_a10, rfl⟩ := qa10.shape
  have zu7_14a := hm.size
  refine ⟨_, rfl, hm.mono (fun _ _ h => h.elim), (fun _ => rfl), ?_⟩
  intro u7_14 hr
  have zu7_14 := hr.size
  have Hx221 := Lib.hid ((qa10.widen (R' := (fun k => (u7_13.heap.size ≤ k ∧ k < u7_14a.heap.size))) (by intro k h1; (try unfold New at h1); (try dsimp only at h1 ⊢); (try simp only [false_or] at h1 ⊢); omega) (Nat.le_refl _)).mod hr (by intro k h1 h2; (try dsimp only at h1 h2); (try simp only [false_or] at h1 h2); omega))
  have hmr := Mod.after hm hr
  have Hx222 := Lib.hid (Hx220.out.trans hmr (by intro k h1 h2; (try dsimp only at h2 ⊢); (try simp only [false_or] at h2 ⊢); omega))
  have Hx223 := Lib.hid (Hx219.out.mod hmr (by intro k h1 h2; (try dsimp only at h1 h2); (try simp only [false_or] at h1 h2); omega))
  clear Hx220 Hx219
  clear hmr
  clear hm hr hYZ hZ hout hsz hd hpre qa10 ea71 h26 h29
  refine QChain.cons rfl fun Z act hYZ hZ hout hsz hd hpre => ?_
  have h26 := hd ⟨26, .guard⟩ (by simp) rfl _ rfl
  have h28 := hd ⟨28, .data⟩ (by simp) rfl _ rfl
  have h30 := hd ⟨30, .data⟩ (by simp) rfl _ rfl
  have ea70 : act.eval (.tmp 70) = .slice ao_a9 ((voteT xv).length) cap_a9 := (Option.some.inj (show some (.slice ao_a9 ((voteT xv).length) cap_a9 : Value) = some (act.eval (.tmp 70)) from h28)).symm
  have ea72 : act.eval (.tmp 72) = .slice ao_a10 ((voteT { xv with sb := sb, mr := mr }).length) cap_a10 := (Option.some.inj (show some (.slice ao_a10 ((voteT { xv with sb := sb, mr := mr }).length) cap_a10 : Value) = some (act.eval (.tmp 72)) from h30)).symm
  refine qc_call (args := #[.slice ao_a9 ((voteT xv).length) cap_a9, .slice ao_a10 ((voteT { xv with sb := sb, mr := mr }).length) cap_a10]) rfl ((wanted_of rfl rfl (hsz 68 (by decide)) h26).trans rfl) (by rw [ex_callF rfl Try.func18 (by kernel_rfl) (by kernel_rfl)]; exact congrArg (fun z => Result.ok (Next.enter _ z) _) (by simp only [List.map_toArray, List.map_cons, List.map_nil, ea70, ea72]; try rfl)) (Same_true Hx223.out.rd Hx221.out.rd rfl) ?_
  rintro e u7_15a ⟨rfl, hm⟩
  have zu7_15a := hm.size
  refine ⟨_, rfl, hm.mono (fun _ _ h => h.elim), (fun _ => rfl), ?_⟩
  intro u7_15 hr
  have zu7_15 := hr.size
  have hmr := Mod.after hm hr
  have Hx224 := Lib.hid (Hx222.out.trans hmr (by intro k h1 h2; (try dsimp only at h2 ⊢); (try simp only [false_or] at h2 ⊢); omega))
  have Hx225 := Lib.hid (Hx223.out.mod hmr (by intro k h1 h2; (try dsimp only at h1 h2); (try simp only [false_or] at h1 h2); omega))
  have Hx226 := Lib.hid (Hx221.out.mod hmr (by intro k h1 h2; (try dsimp only at h1 h2); (try simp only [false_or] at h1 h2); omega))
  clear Hx222 Hx223 Hx221
  clear hmr
  clear hm hr hYZ hZ hout hsz hd hpre ea70 ea72 h26 h28 h30
  clear Hx225
  clear Hx226
  refine QChain.cons rfl fun Z act hYZ hZ hout hsz hd hpre => ?_
  have h33 := hd ⟨33, .chain⟩ (by simp) rfl _ rfl
  have h34 := hd ⟨34, .data⟩ (by simp) rfl _ rfl
  have ea76 : act.eval (.tmp 76) = .agg ([.int .i64 1, .int .i64 0, .int .i64 0, .int .i64 0, .int .i64 0, .int .u64 (3 : Nat), .slice none 0 0, .slice none 0 0, .slice none 0 0, .int .i64 0, .int .i64 0]).toArray := h34
  refine qc_call (args := #[.agg ([.int .i64 1, .int .i64 0, .int .i64 0, .int .i64 0, .int .i64 0, .int .u64 (3 : Nat), .slice none 0 0, .slice none 0 0, .slice none 0 0, .int .i64 0, .int .i64 0]).toArray]) rfl ((wanted_of rfl rfl (hsz 75 (by decide)) h33).trans rfl) (by rw [ex_callF rfl Try.func60 (by kernel_rfl) (by kernel_rfl)]; exact congrArg (fun z => Result.ok (Next.enter _ z) _) (by simp only [List.map_toArray, List.map_cons, List.map_nil, ea76]; try rfl)) (ProposalText_Q (fun _ => False) _ (pr0 0 0) _ (pr0_rd _ _ (by unfold I64; decide) (by unfold I64; decide)) (fun _ h => h.elim) (pr0_len (by unfold I64; decide) (by unfold I64; decide))) ?_
  rintro e u7_16a ⟨v_a11, rfl, qa11, hm⟩
  obtain ⟨ao_a11, cap_a11, rfl⟩ := qa11.shape
  have zu7_16a := hm.size
  refine ⟨_, rfl, hm.mono (fun _ _ h => h.elim), (fun _ => rfl), ?_⟩
  intro u7_16 hr
  have zu7_16 := hr.size
  have Hx227 := Lib.hid ((qa11.widen (R' := (fun k => (u7_15.heap.size ≤ k ∧ k < u7_16a.heap.size))) (by intro k h1; (try unfold New at h1); (try dsimp only at h1 ⊢); (try simp only [false_or] at h1 ⊢); omega) (Nat.le_refl _)).mod hr (by intro k h1 h2; (try dsimp only at h1 h2); (try simp only [false_or] at h1 h2); omega))
  have hmr := Mod.after hm hr
  have Hx228 := Lib.hid (Hx224.out.trans hmr (by intro k h1 h2; (try dsimp only at h2 ⊢); (try simp only [false_or] at h2 ⊢); omega))
  clear Hx224
  clear hmr
  clear hm hr hYZ hZ hout hsz hd hpre qa11 ea76 h33 h34
  refine QChain.cons rfl fun Z act hYZ hZ hout hsz hd hpre => ?_
  have h33 := hd ⟨33, .guard⟩ (by simp) rfl _ rfl
  have h36 := hd ⟨36, .data⟩ (by simp) rfl _ rfl
  have ea78 : act.eval (.tmp 78) = .agg ([.int .i64 1, .int .i64 0, .int .i64 0, .int .i64 0, .int .i64 0, .int .u64 (3 : Nat), .slice none 0 0, .slice none 0 0, .slice none 0 0, .int .i64 sb, .int .i64 mr]).toArray := h36
  refine qc_call (args := #[.agg ([.int .i64 1, .int .i64 0, .int .i64 0, .int .i64 0, .int .i64 0, .int .u64 (3 : Nat), .slice none 0 0, .slice none 0 0, .slice none 0 0, .int .i64 sb, .int .i64 mr]).toArray]) rfl ((wanted_of rfl rfl (hsz 75 (by decide)) h33).trans rfl) (by rw [ex_callF rfl Try.func60 (by kernel_rfl) (by kernel_rfl)]; exact congrArg (fun z => Result.ok (Next.enter _ z) _) (by simp only [List.map_toArray, List.map_cons, List.map_nil, ea78]; try rfl)) (ProposalText_Q (fun _ => False) _ (pr0 sb mr) _ (pr0_rd _ _ HSB.out HMR.out) (fun _ h => h.elim) (pr0_len HSB.out HMR.out)) ?_
  rintro e u7_17a ⟨v_a12, rfl, qa12, hm⟩
  obtain ⟨ao_a12, cap_a12, rfl⟩ := qa12.shape
  have zu7_17a := hm.size
  refine ⟨_, rfl, hm.mono (fun _ _ h => h.elim), (fun _ => rfl), ?_⟩
  intro u7_17 hr
  have zu7_17 := hr.size
  have Hx229 := Lib.hid ((qa12.widen (R' := (fun k => (u7_16.heap.size ≤ k ∧ k < u7_17a.heap.size))) (by intro k h1; (try unfold New at h1); (try dsimp only at h1 ⊢); (try simp only [false_or] at h1 ⊢); omega) (Nat.le_refl _)).mod hr (by intro k h1 h2; (try dsimp only at h1 h2); (try simp only [false_or] at h1 h2); omega))
  have hmr := Mod.after hm hr
  have Hx230 := Lib.hid (Hx228.out.trans hmr (by intro k h1 h2; (try dsimp only at h2 ⊢); (try simp only [false_or] at h2 ⊢); omega))
  have Hx231 := Lib.hid (Hx227.out.mod hmr (by intro k h1 h2; (try dsimp only at h1 h2); (try simp only [false_or] at h1 h2); omega))
  clear Hx228 Hx227
  clear hmr
  clear hm hr hYZ hZ hout hsz hd hpre qa12 ea78 h33 h36
  refine QChain.cons rfl fun Z act hYZ hZ hout hsz hd hpre => ?_
  have h33 := hd ⟨33, .guard⟩ (by simp) rfl _ rfl
  have h35 := hd ⟨35, .data⟩ (by simp) rfl _ rfl
  have h37 := hd ⟨37, .data⟩ (by simp) rfl _ rfl
  have ea77 : act.eval (.tmp 77) = .slice ao_a11 ((propT (pr0 0 0)).length) cap_a11 := (Option.some.inj (show some (.slice ao_a11 ((propT (pr0 0 0)).length) cap_a11 : Value) = some (act.eval (.tmp 77)) from h35)).symm
  have ea79 : act.eval (.tmp 79) = .slice ao_a12 ((propT (pr0 sb mr)).length) cap_a12 := (Option.some.inj (show some (.slice ao_a12 ((propT (pr0 sb mr)).length) cap_a12 : Value) = some (act.eval (.tmp 79)) from h37)).symm
  refine qc_call (args := #[.slice ao_a11 ((propT (pr0 0 0)).length) cap_a11, .slice ao_a12 ((propT (pr0 sb mr)).length) cap_a12]) rfl ((wanted_of rfl rfl (hsz 75 (by decide)) h33).trans rfl) (by rw [ex_callF rfl Try.func18 (by kernel_rfl) (by kernel_rfl)]; exact congrArg (fun z => Result.ok (Next.enter _ z) _) (by simp only [List.map_toArray, List.map_cons, List.map_nil, ea77, ea79]; try rfl)) (Same_true Hx231.out.rd Hx229.out.rd rfl) ?_
  rintro e u7_18a ⟨rfl, hm⟩
  have zu7_18a := hm.size
  refine ⟨_, rfl, hm.mono (fun _ _ h => h.elim), (fun _ => rfl), ?_⟩
  intro u7_18 hr
  have zu7_18 := hr.size
  have hmr := Mod.after hm hr
  have Hx232 := Lib.hid (Hx230.out.trans hmr (by intro k h1 h2; (try dsimp only at h2 ⊢); (try simp only [false_or] at h2 ⊢); omega))
  have Hx233 := Lib.hid (Hx231.out.mod hmr (by intro k h1 h2; (try dsimp only at h1 h2); (try simp only [false_or] at h1 h2); omega))
  have Hx234 := Lib.hid (Hx229.out.mod hmr (by intro k h1 h2; (try dsimp only at h1 h2); (try simp only [false_or] at h1 h2); omega))
  clear Hx230 Hx231 Hx229
  clear hmr
  clear hm hr hYZ hZ hout hsz hd hpre ea77 ea79 h33 h35 h37
  clear Hx233
  clear Hx234
  refine QChain.cons rfl fun Z act hYZ hZ hout hsz hd hpre => ?_
  have h40 := hd ⟨40, .chain⟩ (by simp) rfl _ rfl
  refine qc_call (args := #[]) rfl ((wanted_of rfl rfl (hsz 82 (by decide)) h40).trans rfl) (by rw [ex_callF rfl Try.func19 (by kernel_rfl) (by kernel_rfl)]; simp) (wakes05 _) ?_
  rintro e u7_19a ⟨rfl, hm⟩
  have zu7_19a := hm.size
  refine ⟨_, rfl, hm.mono (fun _ _ h => h.elim), (fun _ => rfl), ?_⟩
  intro u7_19 hr
  have zu7_19 := hr.size
  have hmr := Mod.after hm hr
  have Hx235 := Lib.hid (Hx232.out.trans hmr (by intro k h1 h2; (try dsimp only at h2 ⊢); (try simp only [false_or] at h2 ⊢); omega))
  clear Hx232
  clear hmr
  clear hm hr hYZ hZ hout hsz hd hpre h40
  refine QChain.nil fun vs hl hzz hrows hne => ?_
  obtain ⟨Z, hYZ, hZb, hV⟩ := hzz
  have f43 : vs.getD 43 undef = .bool true := hV 43 _ (getq hl (by decide))
  have hvs : vs = [vs.getD 0 undef, vs.getD 1 undef, vs.getD 2 undef, vs.getD 3 undef, vs.getD 4 undef, vs.getD 5 undef, vs.getD 6 undef, vs.getD 7 undef, vs.getD 8 undef, vs.getD 9 undef, vs.getD 10 undef, vs.getD 11 undef, vs.getD 12 undef, vs.getD 13 undef, vs.getD 14 undef, vs.getD 15 undef, vs.getD 16 undef, vs.getD 17 undef, vs.getD 18 undef, vs.getD 19 undef, vs.getD 20 undef, vs.getD 21 undef, vs.getD 22 undef, vs.getD 23 undef, vs.getD 24 undef, vs.getD 25 undef, vs.getD 26 undef, vs.getD 27 undef, vs.getD 28 undef, vs.getD 29 undef, vs.getD 30 undef, vs.getD 31 undef, vs.getD 32 undef, vs.getD 33 undef, vs.getD 34 undef, vs.getD 35 undef, vs.getD 36 undef, vs.getD 37 undef, vs.getD 38 undef, vs.getD 39 undef, vs.getD 40 undef, vs.getD 41 undef, vs.getD 42 undef, vs.getD 43 undef] := (list_eta hl).trans rfl
  have ha0 := HA0.out
  subst ha0
  clear HA0 hV hYZ hZb hsz0 hrows hne oe6 oe7 oe8 oe9 oe10 oe13 oe14 oe15 oe16 oe17 oe18 oe19
  rw [hvs]
  simp only [putAll, Act.put, List.setIfInBounds_toArray, List.set_cons_zero, List.set_cons_succ, f43]
  clear hvs hl f43
  go_wp2
  go_ret
  exact ⟨rfl, Hx235.out⟩
end Go.Proofs.Ytknpapcfhnhheaa
